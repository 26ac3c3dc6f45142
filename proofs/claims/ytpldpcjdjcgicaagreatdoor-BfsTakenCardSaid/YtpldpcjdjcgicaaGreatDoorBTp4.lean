/- Merged by program. -/
import Derived.Test.YtpldpcjdjcgicaaGreatDoorBTp3
set_option linter.all false
set_option maxRecDepth 1000000
set_option maxHeartbeats 16000000
namespace Go.Proofs.YtpldpcjdjcgicaaGreatDoor
open Go Go.RowKit
theorem z9i {w:World}{g n cap:Nat}{d:Array Nat}(h:OX w g n cap d)(a b pv:Nat)(H9:a<=pv)(qn:pv<b)(hb:b<=n)(hn:n<=65536):
  Mm Tryz.prog 230 [.slice (some ⟨g,0,none⟩) n cap,I (a:Int),I (b:Int),I (pv:Int)] w λu w'=>u=I ((Go.Sort.partitionEqual Nd d a b pv).1:Int)/\OX w' g n cap (Go.Sort.partitionEqual Nd d a b pv).2/\Kp (λk=>k=g) w w':=by
 refine It (e:=[(0,_),(1,_),(2,_),(3,_)]) Tryz.func230 rfl Tryz.ntmps230 rfl rfl (qN rfl (LU rfl (run_seq ?_)))
 have ay:=Ext.Ma w
 refine Me [13,15] (λw'=>Ext w w') (by kernel_rfl) rfl (qL [12,13,14,15] 0 rfl (λ_ h=>My rfl) ay (qL [12,13,14,15] 1 rfl (λ_ h=>My rfl) ay (MM (i:=2) rfl (by kernel_rfl) rfl rfl (λ_=>My rfl) (ay) (MM (i:=3) rfl (by kernel_rfl) rfl rfl (λ_=>My rfl) (ay) (qL [6,7,12,13,14,15] 4 rfl (λ_ h=>My rfl) ay (qL [6,7,12,13,14,15] 5 rfl (λ_ h=>My rfl) ay (qL [7,12,13,14,15] 6 rfl (λ_ h=>MN Ml Mc rfl rfl (by omega)) ay (qL [10,11,12,13,14,15] 8 rfl (λ_ h=>My rfl) ay (qL [10,11,12,13,14,15] 9 rfl (λ_ h=>My rfl) ay (qL [11,12,13,14,15] 10 rfl (λ_ h=>MN Ml Mc rfl rfl (by omega)) ay (qL [12,13,14,15] 7 rfl (λ_ hS=>Mt N5 rfl rfl ((h.ext hS).get (i:=pv) (by omega))) ay (qL [12,13,14,15] 11 rfl (λ_ hS=>Mt N5 rfl rfl ((h.ext hS).get (i:=a) (by omega))) ay (qL [13,14,15] 12 rfl (λ_ h=>MN Ml Mc rfl rfl (by omega)) ay ?_)))))))))))))
 refine Pv [13] (qO 13 (Mx (i:=13) rfl rfl (Of Mc rfl rfl rfl (h.ext ay).sl ((h.ext ay).WB (by omega))) ?_))
 rintro w1a ⟨mK,mL⟩
 refine⟨trivial,?_⟩
 have fG:=(h.ext ay).set mK
 refine LS 14 rfl (MN Ml Mc rfl rfl (by omega)) trivial (qO 15 (Mx (i:=15) rfl rfl (Of Mc rfl rfl rfl fG.sl (fG.WB (by omega))) ?_))
 rintro w1 ⟨rR,rS⟩
 refine⟨trivial,?_⟩
 have hH:=fG.set rR
 have kE:Kp (λk=>k=g) w w1:=ay.kp.trans (mL.trans rS)
 refine qE (qN rfl (LM rfl (MK rfl rfl (LM rfl (NP rfl rfl (M6 rfl (LU rfl (Mn.qb (e:=[(0,_),(1,_),(8,_),(9,_),(10,_)]) ?_))))))))
 refine run_seq (LK ?_)
 unfold Go.Sort.partitionEqual
 replace hH:OX w1 g n cap (Go.Sort.swp d a pv):=hH
 generalize Go.Sort.swp d a pv=D at hH
 rw[show(a:Int)+1=((a+1:Nat):Int) by omega,show(b:Int)-1=((b-1:Nat):Int) by omega]
 refine Oe (α:=Nat×Nat×Array Nat) ((a+1,b-1,D)) (λy=>[(0,.slice (some ⟨g,0,none⟩) n cap),(1,I (a:Int)),(9,I (y.1:Int)),(10,I (y.2.1:Int))]) (λy w'=>OX w' g n cap y.2.2/\Kp (λk=>k=g) w1 w'/\Go.Sort.partEqLoop Nd a y.1 y.2.1 y.2.2=Go.Sort.partEqLoop Nd a (a+1) (b-1) D/\(a<y.1/\y.1<=n/\y.2.1<n)) (λy=>y.2.1+1-y.1) ?hI ?hround
 case hI=>exact⟨hH,Kp.refl _ _,rfl,by dsimp only;omega⟩
 case hround =>
  rintro⟨i,j,d4⟩ w4 ⟨dR,ax,ct,bD⟩ ih;dsimp only at dR ax ct bD;rw[Go.Sort.partEqLoop_eq] at ct
  try dsimp only
  refine LK (run_seq (LK (Ot (λe' w'=>e'=[(0,.slice (some ⟨g,0,none⟩) n cap),(1,I (a:Int)),(9,I (((Go.Sort.scanUp (λx=>!Nd d4[a]! x) d4 j (i)):Nat):Int)),(10,I ((j:Nat):Int))]/\OX w' g n cap d4/\Kp (λk=>k=g) w4 w') ?jl (λjl=>?rU))))
  case jl=>
   rintro e' wC ⟨rfl,B3,jl⟩;have dv:=Go.Sort.scanUp_ge (λx=>!Nd d4[a]! x) d4 j i;have m8:=T2 (λx=>!Nd d4[a]! x) d4 j i
   generalize Go.Sort.scanUp (λx=>!Nd d4[a]! x) d4 j i=i2 at ct dv m8
   refine run_seq (LK (Ot (λe' w'=>e'=[(0,.slice (some ⟨g,0,none⟩) n cap),(1,I (a:Int)),(9,I ((i2:Nat):Int)),(10,I (((Go.Sort.scanDown (λx=>Nd d4[a]! x) d4 i2 (j)):Nat):Int))]/\OX w' g n cap d4/\Kp (λk=>k=g) wC w') ?fh (λfh=>?rT)))
   case fh=>
    rintro e' wD ⟨rfl,iP,fh⟩;have kD:=Go.Sort.scanDown_le (λx=>Nd d4[a]! x) d4 i2 j
    generalize Go.Sort.scanDown (λx=>Nd d4[a]! x) d4 i2 j=j2 at ct kD
    refine run_seq (qN rfl (M4 rfl rfl (Nc rfl rfl (LO (LY rfl (λh5=>?_) (λh5=>?_))))))
    ·rw[if_pos (by omega)] at ct;rw[<-ct];refine LW rfl (qN rfl (LM rfl (LU rfl (LP Tryz.func230 rfl ?_))));exact⟨_,rfl,rfl,iP,kE.trans (ax.trans (jl.trans fh))⟩
    ·rw[if_neg (by omega)] at ct;refine py (run_seq ?_);have bM:=Ext.Ma wD;refine Me [13,15] (λw'=>Ext wD w') (by kernel_rfl) rfl (qL [12,13,14,15] 0 rfl (λ_ h=>My rfl) bM (qL [12,13,14,15] 1 rfl (λ_ h=>My rfl) bM (MM (i:=2) rfl (by kernel_rfl) rfl rfl (λ_=>My rfl) (bM) (MM (i:=3) rfl (by kernel_rfl) rfl rfl (λ_=>My rfl) (bM) (qL [6,7,12,13,14,15] 4 rfl (λ_ h=>My rfl) bM (qL [6,7,12,13,14,15] 5 rfl (λ_ h=>My rfl) bM (qL [7,12,13,14,15] 6 rfl (λ_ h=>MN Ml Mc rfl rfl (by omega)) bM (qL [10,11,12,13,14,15] 8 rfl (λ_ h=>My rfl) bM (qL [10,11,12,13,14,15] 9 rfl (λ_ h=>My rfl) bM (qL [11,12,13,14,15] 10 rfl (λ_ h=>MN Ml Mc rfl rfl (by omega)) bM (qL [12,13,14,15] 7 rfl (λ_ h=>Mt N5 rfl rfl ((iP.ext h).get (i:=j2) (by omega))) bM (qL [12,13,14,15] 11 rfl (λ_ h=>Mt N5 rfl rfl ((iP.ext h).get (i:=i2) (by omega))) bM (qL [13,14,15] 12 rfl (λ_ h=>MN Ml Mc rfl rfl (by omega)) bM ?_)))))))))))));refine Pv [13] (qO 13 (Mx (i:=13) rfl rfl (Of Mc rfl rfl rfl (iP.ext bM).sl ((iP.ext bM).WB (by omega))) ?_));rintro w8a ⟨fH,fI⟩;refine⟨trivial,?_⟩;have cD:=(iP.ext bM).set fH;refine LS 14 rfl (MN Ml Mc rfl rfl (by omega)) trivial (qO 15 (Mx (i:=15) rfl rfl (Of Mc rfl rfl rfl cD.sl (cD.WB (by omega))) ?_));rintro w8 ⟨jH,jI⟩;refine⟨trivial,?_⟩;have jJ:=cD.set jH;have eU:Kp (λk=>k=g) wD w8:=bM.kp.trans (fI.trans jI);refine qE (qN rfl (LM rfl (MK rfl rfl (LU rfl (LQ rfl (LM rfl (NP rfl rfl (LU rfl (LL ?_)))))))));rw[show(j2:Int)-1=((j2-1:Nat):Int) by omega];exact(ih (i2+1,j2-1,Go.Sort.swp d4 i2 j2) _ ⟨jJ,(ax.trans (jl.trans fh)).trans eU,ct,by dsimp only;omega⟩ (by dsimp only;omega)).qb
   case rT=>
    refine Oe (α:=Nat) (j) (λr=>[(0,.slice (some ⟨g,0,none⟩) n cap),(1,I (a:Int)),(9,I ((i2:Nat):Int)),(10,I ((r:Nat):Int))]) (λr w'=>OX w' g n cap d4/\Kp (λk=>k=g) wC w'/\Go.Sort.scanDown (λx=>Nd d4[a]! x) d4 i2 r=Go.Sort.scanDown (λx=>Nd d4[a]! x) d4 i2 (j)/\r<n) (λr=>r) ?hI ?hround
    case hI=>exact⟨B3,Kp.refl _ _,rfl,by omega⟩
    case hround=>
     rintro r w5 ⟨aS,aj,bU,bZ⟩ ih
     try dsimp only
     have hg:=Ext.Ma w5;rcases Nat.lt_or_ge r (i2) with hj|hj
     ·refine run_seq (run_seq (NF (λw'=>Ext w5 w') rfl (M9 0 rfl rfl (hg) (M9 1 rfl rfl (hg) (LS 2 rfl (V7 rfl rfl) hg (QG (M9 3 rfl rfl (hg) (qJ 4 rfl (hg) (qJ 5 rfl (hg) (qJ 6 rfl (hg) (qJ 7 rfl (hg) (qJ 8 rfl (hg) (qJ 9 rfl (hg) ?_)))))))))))));refine qJ 10 rfl (hg) (qJ 11 rfl (hg) (qJ 12 rfl (hg) (LS 13 rfl (R8 rfl rfl) hg (qE (An rfl (LW rfl ?_))))));rw[Ov _ _ _ _ (.inl hj)] at bU;subst bU;exact(fh _ _ ⟨rfl,aS.ext hg,aj.trans hg.kp⟩).qb
     ·refine run_seq (run_seq (NF (λw'=>Ext w5 w') rfl (M9 0 rfl rfl (hg) (M9 1 rfl rfl (hg) (LS 2 rfl (V7 rfl rfl) hg (Qq (M9 3 rfl rfl (hg) (M9 4 rfl rfl (hg) (M9 5 rfl rfl (hg) (LS 6 rfl (MN Ml Mc rfl rfl (by omega)) hg (M9 8 rfl rfl (hg) (M9 9 rfl rfl (hg) (LS 10 rfl (MN Ml Mc rfl rfl (by omega)) hg ?_)))))))))))));refine qT 7 rfl (λ_ h=>Mt N5 rfl rfl ((aS.ext h).get (i:=a) (by omega))) hg (qT 11 rfl (λ_ h=>Mt N5 rfl rfl ((aS.ext h).get (i:=r) (by omega))) hg (Pw 12 rfl Sf rfl (Ou _ _ _) ?_));rintro _ w6 ⟨rfl,rfl⟩;refine⟨hg,?_⟩;refine LS 13 rfl (Rx rfl rfl) hg (qE (MR rfl (λh1=>?_) (λh1=>?_)))
      ·rw[SU _ _ _ _ hj (by simpa[Nd] using h1) (by omega)] at bU;refine py (LK (LQ rfl (LM rfl (NP rfl rfl (LU rfl (LL ?_))))));rw[show(r:Int)-1=((r-1:Nat):Int) by omega];exact(ih (r-1) _ ⟨aS.ext hg,aj.trans hg.kp,bU,by omega⟩ (by omega)).qb
      ·rw[Ov _ _ _ _ (.inr (by simpa[Nd] using h1))] at bU;refine LW rfl ?_;subst bU;exact(fh _ _ ⟨rfl,aS.ext hg,aj.trans hg.kp⟩).qb
  case rU=>
   refine Oe (α:=Nat) (i) (λr=>[(0,.slice (some ⟨g,0,none⟩) n cap),(1,I (a:Int)),(9,I ((r:Nat):Int)),(10,I ((j:Nat):Int))]) (λr w'=>OX w' g n cap d4/\Kp (λk=>k=g) w4 w'/\Go.Sort.scanUp (λx=>!Nd d4[a]! x) d4 j r=Go.Sort.scanUp (λx=>!Nd d4[a]! x) d4 j (i)/\i<=r/\r<=n+1) (λr=>j+1-r) ?hI ?hround
   case hI=>exact⟨dR,Kp.refl _ _,rfl,Nat.le_refl _,by omega⟩
   case hround=>
    rintro r w5 ⟨aS,aj,bU,bZ⟩ ih
    try dsimp only
    have hg:=Ext.Ma w5;rcases Nat.lt_or_ge (j) r with hj|hj
    ·refine run_seq (run_seq (NF (λw'=>Ext w5 w') rfl (M9 0 rfl rfl (hg) (M9 1 rfl rfl (hg) (LS 2 rfl (V7 rfl rfl) hg (QG (M9 3 rfl rfl (hg) (qJ 4 rfl (hg) (qJ 5 rfl (hg) (qJ 6 rfl (hg) (qJ 7 rfl (hg) (qJ 8 rfl (hg) (qJ 9 rfl (hg) ?_)))))))))))));refine qJ 10 rfl (hg) (qJ 11 rfl (hg) (qJ 12 rfl (hg) (qJ 13 rfl (hg) (LS 14 rfl (R8 rfl rfl) hg (qE (An rfl (LW rfl ?_)))))));rw[Po _ _ _ _ (.inl hj)] at bU;subst bU;exact(jl _ _ ⟨rfl,aS.ext hg,aj.trans hg.kp⟩).qb
    ·refine run_seq (run_seq (NF (λw'=>Ext w5 w') rfl (M9 0 rfl rfl (hg) (M9 1 rfl rfl (hg) (LS 2 rfl (V7 rfl rfl) hg (Qq (M9 3 rfl rfl (hg) (M9 4 rfl rfl (hg) (M9 5 rfl rfl (hg) (LS 6 rfl (MN Ml Mc rfl rfl (by omega)) hg (M9 8 rfl rfl (hg) (M9 9 rfl rfl (hg) (LS 10 rfl (MN Ml Mc rfl rfl (by omega)) hg ?_)))))))))))));refine qT 7 rfl (λ_ h=>Mt N5 rfl rfl ((aS.ext h).get (i:=a) (by omega))) hg (qT 11 rfl (λ_ h=>Mt N5 rfl rfl ((aS.ext h).get (i:=r) (by omega))) hg (Pw 12 rfl Sf rfl (Ou _ _ _) ?_));rintro _ w6 ⟨rfl,rfl⟩;refine⟨hg,?_⟩;refine LS 13 rfl ((by first|exact ML rfl|exact Oh rfl)) hg ?_;refine LS 14 rfl (Rx rfl rfl) hg (qE (MR rfl (λh1=>?_) (λh1=>?_)))
     ·rw[Vl _ _ _ _ hj (by simpa[Nd] using h1)] at bU;refine py (LK (LQ rfl (LM rfl (MK rfl rfl (LU rfl (LL ?_))))));exact(ih (r+1) _ ⟨aS.ext hg,aj.trans hg.kp,bU,by omega,by omega⟩ (by omega)).qb
     ·rw[Po _ _ _ _ (.inr (by simpa[Nd] using h1))] at bU;refine LW rfl ?_;subst bU;exact(jl _ _ ⟨rfl,aS.ext hg,aj.trans hg.kp⟩).qb
section
variable (d:Array Nat)(b i:Nat)
theorem Y8 (h:i<b)(hp:Nd d[i]! d[i-1]! =false):Go.Sort.scanSorted Nd d b i=Go.Sort.scanSorted Nd d b (i+1):=by
 conv=>lhs;rw[Go.Sort.scanSorted]
 rw[if_pos]
 rw[Bool.and_eq_true];exact⟨by simpa using h,by rw[hp];rfl⟩
theorem Sd (h:b<=i\/Nd d[i]! d[i-1]! =true):Go.Sort.scanSorted Nd d b i=i:=by
 rw[Go.Sort.scanSorted,if_neg]
 intro hc
 rw[Bool.and_eq_true] at hc
 rcases h with h| h
 ·have:=of_decide_eq_true hc.1;omega
 ·rw[h] at hc;cases hc.2
end
theorem z48 (d:Array Nat)(a b:Nat)(h:b-a<50):Go.Sort.partialInsertionSort Nd d a b=(d,decide (Go.Sort.scanSorted Nd d b (a+1)=b)):=by
 unfold Go.Sort.partialInsertionSort
 rw[Go.Sort.partialIns]
 by_cases e:Go.Sort.scanSorted Nd d b (a+1)=b
 ·simp only[e,if_pos,decide_true]
 ·simp only[if_neg e,if_pos h,decide_eq_false e]
theorem z6s {w:World}{g n cap:Nat}{d:Array Nat}(h:OX w g n cap d)(a b:Nat)(jf:a<b)(hb:b<=n)(hn:n<50):
  Mm Tryz.prog 228 [.slice (some ⟨g,0,none⟩) n cap,I (a:Int),I (b:Int)] w λu w'=>u= .bool (Go.Sort.partialInsertionSort Nd d a b).2/\OX w' g n cap d/\Kp (λk=>k=g) w w':=by
 rw[z48 d a b (by omega)]
 dsimp only
 refine It (e:=[(0,_),(1,_),(2,_)]) Tryz.func228 rfl Tryz.ntmps228 rfl rfl (qN rfl (M6 rfl (qM rfl (LM rfl (MK rfl rfl (LU rfl (run_seq (qN rfl (LU rfl (LK ?_))))))))))
 rw[show(a:Int)+1=((a+1:Nat):Int) by omega]
 refine Oe (α:=Unit) (()) (λ_=>[(0,.slice (some ⟨g,0,none⟩) n cap),(1,I (a:Int)),(2,I (b:Int)),(7,I ((a+1:Nat):Int)),(8,I 0)]) (λy w'=>w'=w) (λy=>0) ?hI ?hround
 case hI=>rfl
 case hround =>
  rintro _ w4 rfl ih0
  try dsimp only
  refine run_seq (qN rfl (LM rfl (Nr rfl rfl (LO (LY rfl (λh0=>?_) (λh0=>?_))))))
  ·refine py (run_seq (LK (run_seq (LK (Ot (λe' w'=>e'=[(0,.slice (some ⟨g,0,none⟩) n cap),(1,I (a:Int)),(2,I (b:Int)),(7,I (Go.Sort.scanSorted Nd d b (a+1):Int)),(8,I 0)]/\OX w' g n cap d/\Kp (λk=>k=g) w4 w') ?eC (λeC=>?B6))))))
   case eC=>
    rintro e' ws ⟨rfl,Fl,eC⟩;refine run_seq (qN rfl (M4 rfl rfl (NS rfl rfl (LO (LY rfl (λh1=>?_) (λh1=>?_))))))
    ·have i5:Go.Sort.scanSorted Nd d b (a+1)=b:=by omega
     rw[decide_eq_true i5];refine qN rfl (LU rfl (LP Tryz.func228 rfl ?_));exact⟨_,rfl,rfl,Fl,eC⟩
    ·have i5:¬Go.Sort.scanSorted Nd d b (a+1)=b:=by omega
     rw[decide_eq_false i5];refine py (run_seq (qN rfl (M4 rfl rfl (NP rfl rfl (Nr rfl rfl (LO (LY rfl (λh2=>?_) (λh2=>?_))))))))
     ·refine qN rfl (LU rfl (LP Tryz.func228 rfl ?_));exact⟨_,rfl,rfl,Fl,eC⟩
     ·omega
   case B6=>
    refine Oe (α:=Nat) (a+1) (λr=>[(0,.slice (some ⟨g,0,none⟩) n cap),(1,I (a:Int)),(2,I (b:Int)),(7,I (r:Int)),(8,I 0)]) (λr w'=>OX w' g n cap d/\Kp (λk=>k=g) w4 w'/\Go.Sort.scanSorted Nd d b r=Go.Sort.scanSorted Nd d b (a+1)/\a<r/\r<=b) (λr=>b-r) ?hI ?hround
    case hI=>exact⟨h,Kp.refl _ _,rfl,Nat.lt_succ_self a,jf⟩
    case hround=>
     rintro r w5 ⟨aS,aj,bU,bZ,B7⟩ ih
     try dsimp only
     have hg:=Ext.Ma w5;rcases Nat.lt_or_ge r b with hj|hj
     ·refine run_seq (run_seq (NF (λw'=>Ext w5 w') rfl (M9 0 rfl rfl (hg) (M9 1 rfl rfl (hg) (LS 2 rfl (XF rfl rfl) hg (Qq (M9 3 rfl rfl (hg) (M9 4 rfl rfl (hg) (M9 5 rfl rfl (hg) (LS 6 rfl (MN Ml Mc rfl rfl (by omega)) hg (M9 8 rfl rfl (hg) (M9 9 rfl rfl (hg) (LS 10 rfl (TF rfl rfl (by omega)) hg ?_)))))))))))));rw[show(r:Int)-1=((r-1:Nat):Int) by omega];refine qT 7 rfl (λ_ h=>Mt N5 rfl rfl ((aS.ext h).get (i:=r) (by omega))) hg (LS 11 rfl (MN Ml Mc rfl rfl (by omega)) hg (qT 12 rfl (λ_ h=>Mt N5 rfl rfl ((aS.ext h).get (i:=r-1) (by omega))) hg (Pw 13 rfl Sf rfl (Ou _ _ _) ?_)));rintro _ w6 ⟨rfl,rfl⟩;refine⟨hg,?_⟩;refine LS 14 rfl ((by first|exact ML rfl|exact Oh rfl)) hg ?_;refine LS 15 rfl (Rx rfl rfl) hg (qE (MR rfl (λh3=>?_) (λh3=>?_)))
      ·rw[Y8 _ _ _ hj (by simpa[Nd] using h3)] at bU;refine py (LK (LQ rfl (LM rfl (MK rfl rfl (LU rfl (LL ?_))))));exact(ih (r+1) _ ⟨aS.ext hg,aj.trans hg.kp,bU,by omega,by omega⟩ (by omega)).qb
      ·rw[Sd _ _ _ (.inr (by simpa[Nd] using h3))] at bU;refine LW rfl ?_;subst bU;exact(eC _ _ ⟨rfl,aS.ext hg,aj.trans hg.kp⟩).qb
     ·refine run_seq (run_seq (NF (λw'=>Ext w5 w') rfl (M9 0 rfl rfl (hg) (M9 1 rfl rfl (hg) (LS 2 rfl (XF rfl rfl) hg (QG (M9 3 rfl rfl (hg) (qJ 4 rfl (hg) (qJ 5 rfl (hg) (qJ 6 rfl (hg) (qJ 7 rfl (hg) (qJ 8 rfl (hg) (qJ 9 rfl (hg) ?_)))))))))))));refine qJ 10 rfl (hg) (qJ 11 rfl (hg) (qJ 12 rfl (hg) (qJ 13 rfl (hg) (qJ 14 rfl (hg) (LS 15 rfl (R8 rfl rfl) hg (qE (An rfl (LW rfl ?_))))))));rw[Sd _ _ _ (.inl hj)] at bU;subst bU;exact(eC _ _ ⟨rfl,aS.ext hg,aj.trans hg.kp⟩).qb
  ·exact absurd (by decide) h0
theorem TR {w:World}{g n cap sb s:Nat}{d:Array Nat}(h:OX w g n cap d)(hB:LX w sb [I (s:Int)] 3)(hs:s<=1000)(x y:Nat)(hx:x<n)(hy:y<n)(qo:sb≠g):
  Mm Tryz.prog 239 [.slice (some ⟨g,0,none⟩) n cap,I (x:Int),I (y:Int),ptr sb 0] w λu w'=>∃x' y' s':Nat,u= .tuple #[I (x':Int),I (y':Int)]/\((x'=x/\y'=y)\/(x'=y/\y'=x))/\s'<=s+1/\LX w' sb [I (s':Int)] 3/\OX w' g n cap d/\Kp (λk=>k=sb) w w':=by
 refine It (e:=[(0,_),(1,_),(2,_),(3,_)]) Tryz.func239 rfl Tryz.ntmps239 rfl rfl ?_
 have hg:=Ext.Ma w
 refine qN rfl (M6 rfl (LU rfl (run_seq (run_seq (NF (λw'=>Ext w w') rfl (M9 0 rfl rfl (hg) (M9 1 rfl rfl (hg) (LS 2 rfl (MN Ml Mc rfl rfl (by omega)) hg (M9 4 rfl rfl (hg) (M9 5 rfl rfl (hg) (LS 6 rfl (MN Ml Mc rfl rfl (by omega)) hg (qT 3 rfl (λ_ hS=>Mt N5 rfl rfl ((h.ext hS).get (i:=y) (by omega))) hg (qT 7 rfl (λ_ hS=>Mt N5 rfl rfl ((h.ext hS).get (i:=x) (by omega))) hg ?_)))))))))))))
 refine Pw 8 rfl Sf rfl (Ou _ _ _) ?_
 rintro _ w6 ⟨rfl,rfl⟩
 refine⟨hg,?_⟩
 refine qE (MR rfl (λh1=>?_) (λh1=>?_))
 ·have am:=hg.LN hB;refine qN rfl (LM rfl (Mp rfl (qV (LR U3 rfl rfl am rfl) (MK rfl rfl (Mp rfl (M1 rfl (NC MO rfl rfl rfl am (by simp)) ?_))))));rintro w3 ⟨aq,ar⟩;refine qM rfl (M4 rfl rfl (M6 rfl (LU rfl (LP Tryz.func239 rfl ?_))));exact⟨_,rfl,y,x,s+1,rfl,.inr ⟨rfl,rfl⟩,Nat.le_refl _,aq,(h.ext hg).kp ar (λe=>qo e.symm),hg.kp.trans ar⟩
 ·refine py (qN rfl (M4 rfl rfl (M6 rfl (LU rfl (LP Tryz.func239 rfl ?_)))));exact⟨_,rfl,x,y,s,rfl,.inl ⟨rfl,rfl⟩,Nat.le_succ _,hg.LN hB,h.ext hg,hg.kp⟩
theorem z3e {w:World}{g n cap sb s:Nat}{d:Array Nat}(h:OX w g n cap d)(hB:LX w sb [I (s:Int)] 3)(hs:s<=500)(x y z:Nat)(hx:x<n)(hy:y<n)(hz:z<n)(qo:sb≠g):
  Mm Tryz.prog 237 [.slice (some ⟨g,0,none⟩) n cap,I (x:Int),I (y:Int),I (z:Int),ptr sb 0] w λu w'=>∃x' s':Nat,u=I (x':Int)/\(x'=x\/x'=y\/x'=z)/\s'<=s+3/\LX w' sb [I (s':Int)] 3/\OX w' g n cap d/\Kp (λk=>k=sb) w w':=by
 refine It (e:=[(0,_),(1,_),(2,_),(3,_),(4,_)]) Tryz.func237 rfl Tryz.ntmps237 rfl rfl (qN rfl (M6 rfl (qM rfl (M4 rfl rfl (M4 rfl rfl (Mb z7t rfl (TR h hB (by omega) x y hx hy qo) ?_))))))
 rintro _ w1 ⟨x1,y1,s1,rfl,Hc,dP,ai,kF,aK⟩
 refine LM rfl (MW rfl rfl (MW rfl rfl (M6 rfl (M6 rfl (qM rfl (M4 rfl rfl (M4 rfl rfl (Mb z7t rfl (TR kF ai (by omega) y1 z (by omega) hz qo) ?_))))))))
 rintro _ w2 ⟨y2,z2,s2,rfl,Hd,cS,am,lq,ao⟩
 refine LM rfl (MW rfl rfl (MW rfl rfl (M6 rfl (M6 rfl (qM rfl (M4 rfl rfl (M4 rfl rfl (Mb z7t rfl (TR lq am (by omega) x1 y2 (by omega) (by omega) qo) ?_))))))))
 rintro _ w3 ⟨x3,y3,s3,rfl,He,od,aq,mO,ar⟩
 refine LM rfl (MW rfl rfl (MW rfl rfl (M6 rfl (LU rfl (Mn.qb (e:=[(2,_),(10,_)]) ?_)))))
 refine qN rfl (LM rfl (LU rfl (LP Tryz.func237 rfl ?_)))
 exact⟨_,rfl,y3,s3,rfl,by omega,by omega,aq,mO,(aK.trans ao).trans ar⟩
theorem z5w {w:World}{g n cap:Nat}{d:Array Nat}(h:OX w g n cap d)(a b:Nat)(jf:a+12<b)(hb:b<=n)(hn:n<50):
  Mm Tryz.prog 226 [.slice (some ⟨g,0,none⟩) n cap,I (a:Int),I (b:Int)] w λu w'=>∃p t:Nat,u= .tuple #[I (p:Int),I (t:Int)]/\a<=p/\p<b/\t<=2/\OX w' g n cap d/\Ext w w':=by
 have Hf:g<w.heap.size:=h.sl.lt rfl
 refine It (e:=[(0,_),(1,_),(2,_)]) Tryz.func226 rfl Tryz.ntmps226 rfl rfl (qN rfl (M6 rfl (M6 rfl (qM rfl (M4 rfl rfl (NP rfl rfl (M6 rfl (qM rfl ?_))))))))
 rw[show(b:Int)-(a:Int)=((b-a:Nat):Int) by omega]
 refine LV rfl rfl (O9 (cs:=[_]) MO rfl) ?_
 rintro _ w1 ⟨sb,rfl,qo,ad,ai⟩
 replace ai:LX w1 sb [I ((0:Nat):Int)] 3:=ai
 refine qM rfl (M4 rfl rfl (qV (Tg rfl rfl (by omega)) (qV (SV rfl rfl (by omega)) (MK rfl rfl (M6 rfl (qM rfl (M4 rfl rfl (qV (Tg rfl rfl (by omega)) (qV (SV rfl rfl (by omega)) (MK rfl rfl (M6 rfl (qM rfl (M4 rfl rfl ?_)))))))))))))
 refine qV (Tg rfl rfl (by omega)) (qV (SV rfl rfl (by omega)) (MK rfl rfl (LU rfl (Mn.qb (e:=[(0,_),(6,_),(7,_),(8,_),(9,_),(10,_),(11,_),(12,_)]) ?_))))
 refine run_seq (qN rfl (LM rfl (PQ rfl rfl (LO ?_))))
 rw[show(a:Int)+((b-a:Nat):Int) / 4*1=((a+(b-a) / 4*1:Nat):Int) by omega,show(a:Int)+((b-a:Nat):Int) / 4*2=((a+(b-a) / 4*2:Nat):Int) by omega,show(a:Int)+((b-a:Nat):Int) / 4*3=((a+(b-a) / 4*3:Nat):Int) by omega]
 refine LY rfl (λh0=>?_) (λh0=>?_)
 ·refine run_seq (qN rfl (LM rfl (PQ rfl rfl (LO (LY rfl (λh1=>?_) (λh1=>?_))))))
  ·omega
  ·refine py (LQ rfl (M4 rfl rfl (M4 rfl rfl (Mb zcY rfl (z3e (h.ext ad) ai (by omega) (a+(b-a) / 4*1) (a+(b-a) / 4*2) (a+(b-a) / 4*3) (by omega) (by omega) (by omega) (by omega)) ?_))));rintro _ w2 ⟨p,s,rfl,hp,hs,am,lq,ao⟩;have af:Ext w w2:=ad.LJ ao (λk e=>by omega);refine M6 rfl (qM rfl (qV (LR U3 rfl rfl am rfl) (LO (LK (qN rfl (NS rfl rfl (LU rfl (LY rfl (λh2=>?_) (λh2=>?_)))))))))
   ·refine qN rfl (LM rfl (M6 rfl (LU rfl (LP Tryz.func226 rfl ?_))));exact⟨_,rfl,p,1,rfl,by omega,by omega,by omega,lq,af⟩
   ·refine qN rfl (NS rfl rfl (LU rfl (LY rfl (λh3=>?_) (λh3=>?_))))
    ·refine qN rfl (LM rfl (M6 rfl (LU rfl (LP Tryz.func226 rfl ?_))));exact⟨_,rfl,p,2,rfl,by omega,by omega,by omega,lq,af⟩
    ·refine qN rfl (LM rfl (M6 rfl (LU rfl (LP Tryz.func226 rfl ?_))));exact⟨_,rfl,p,0,rfl,by omega,by omega,by omega,lq,af⟩
 ·omega
theorem z5C {w:World}{xb r:Nat}(hB:LX w xb [M7 r] 355)(hr:r<18446744073709551616):
  Mm Tryz.prog 235 [ptr xb 0] w λu w'=>∃r':Nat,u=M7 r'/\r'<18446744073709551616/\LX w' xb [M7 r'] 355/\Kp (λk=>k=xb) w w':=by
 refine It (e:=[(0,_)]) Tryz.func235 rfl Tryz.ntmps235 rfl rfl ?_
 have aG:=Ext.Ma w
 refine qN rfl (LU rfl (run_seq (Me [9] (λw'=>Ext w w') (by kernel_rfl) rfl (qL [1,2,7,8,9] 0 rfl (λ_ h=>My rfl) aG (qL [2,7,8,9] 1 rfl (λ_ h=>MS rfl) aG (qL [7,8,9] 2 rfl (λ_ h=>LR Z7 rfl rfl (h.LN hB) rfl) aG (qL [4,5,6,7,8,9] 3 rfl (λ_ h=>My rfl) aG (qL [5,6,7,8,9] 4 rfl (λ_ h=>MS rfl) aG (qL [6,7,8,9] 5 rfl (λ_ h=>LR Z7 rfl rfl (h.LN hB) rfl) aG (qL [7,8,9] 6 rfl (λ_ h=>NJ 13 8192 rfl rfl (by decide) rfl) aG (qL [8,9] 7 rfl (λ_ h=>Xb rfl rfl (by omega) (by omega)) aG (qL [9] 8 rfl (λ_ h=>MS rfl) aG ?_))))))))))))
 generalize iC:r^^^r*8192%18446744073709551616=r1
 have cP:r1<18446744073709551616:=by rw[<-iC];exact Nat.xor_lt_two_pow (n:=64) (by omega) (by omega)
 refine Pv [9] (qO 9 (Mx (i:=9) rfl rfl (NC z0t rfl rfl rfl (aG.LN hB) (by simp)) ?_))
 rintro w1 ⟨ai,aK⟩
 refine⟨trivial,?_⟩
 replace ai:LX w1 xb [M7 r1] 355:=ai
 have aa:=Ext.Ma w1
 refine qE (run_seq (Me [9] (λw'=>Ext w1 w') (by kernel_rfl) rfl (qL [1,2,7,8,9] 0 rfl (λ_ h=>My rfl) aa (qL [2,7,8,9] 1 rfl (λ_ h=>MS rfl) aa (qL [7,8,9] 2 rfl (λ_ h=>LR Z7 rfl rfl (h.LN ai) rfl) aa (qL [4,5,6,7,8,9] 3 rfl (λ_ h=>My rfl) aa (qL [5,6,7,8,9] 4 rfl (λ_ h=>MS rfl) aa (qL [6,7,8,9] 5 rfl (λ_ h=>LR Z7 rfl rfl (h.LN ai) rfl) aa (qL [7,8,9] 6 rfl (λ_ h=>Qm 7 128 rfl rfl (by decide) rfl) aa (qL [8,9] 7 rfl (λ_ h=>Xb rfl rfl (by omega) (by omega)) aa (qL [9] 8 rfl (λ_ h=>MS rfl) aa ?_)))))))))))
 generalize gy:r1^^^r1 / 128=r2
 have dx:r2<18446744073709551616:=by rw[<-gy];exact Nat.xor_lt_two_pow (n:=64) (by omega) (by omega)
 refine Pv [9] (qO 9 (Mx (i:=9) rfl rfl (NC z0t rfl rfl rfl (aa.LN ai) (by simp)) ?_))
 rintro w2 ⟨am,ao⟩
 refine⟨trivial,?_⟩
 replace am:LX w2 xb [M7 r2] 355:=am
 have ag:=Ext.Ma w2
 refine qE (run_seq (Me [9] (λw'=>Ext w2 w') (by kernel_rfl) rfl (qL [1,2,7,8,9] 0 rfl (λ_ h=>My rfl) ag (qL [2,7,8,9] 1 rfl (λ_ h=>MS rfl) ag (qL [7,8,9] 2 rfl (λ_ h=>LR Z7 rfl rfl (h.LN am) rfl) ag (qL [4,5,6,7,8,9] 3 rfl (λ_ h=>My rfl) ag (qL [5,6,7,8,9] 4 rfl (λ_ h=>MS rfl) ag (qL [6,7,8,9] 5 rfl (λ_ h=>LR Z7 rfl rfl (h.LN am) rfl) ag (qL [7,8,9] 6 rfl (λ_ h=>NJ 17 131072 rfl rfl (by decide) rfl) ag (qL [8,9] 7 rfl (λ_ h=>Xb rfl rfl (by omega) (by omega)) ag (qL [9] 8 rfl (λ_ h=>MS rfl) ag ?_)))))))))))
 generalize Hg:r2^^^r2*131072%18446744073709551616=r3
 have c6:r3<18446744073709551616:=by rw[<-Hg];exact Nat.xor_lt_two_pow (n:=64) (by omega) (by omega)
 refine Pv [9] (qO 9 (Mx (i:=9) rfl rfl (NC z0t rfl rfl rfl (ag.LN am) (by simp)) ?_))
 rintro w3 ⟨aq,ar⟩
 refine⟨trivial,?_⟩
 replace aq:LX w3 xb [M7 r3] 355:=aq
 refine qE (Mn.qb (e:=[(0,_),(2,_)]) ?_)
 refine qN rfl (LM rfl (Mp rfl (qV (LR Z7 rfl rfl aq rfl) (LU rfl (LP Tryz.func235 rfl ?_)))))
 exact⟨_,rfl,r3,rfl,c6,aq,(aG.kp.trans aK).trans ((aa.kp.trans ao).trans (ag.kp.trans ar))⟩
theorem z3A (x:Nat)(hx:x<18446744073709551616)(w:World):Mm Tryz.prog 214 [M7 x] w λv w'=>v=I (MF x:Int)/\w'=w:=by
 refine It (e:=[(0,_)]) Tryz.func214 rfl Tryz.ntmps214 rfl rfl (qN rfl (LU rfl (run_seq (An rfl (py (qN rfl (LM rfl (Mb YJ rfl (QJ x hx w) ?_))))))))
 rintro _ w ⟨rfl,rfl⟩
 refine LU rfl (LP Tryz.func214 rfl ?_)
 exact⟨_,rfl,rfl,rfl⟩
theorem z64 (x:Nat)(hx:x<4294967296)(w:World):Mm Tryz.prog 234 [I (x:Int)] w λv w'=>v=M7 (2^MF x)/\w'=w:=by
 have hl:MF x<=32:=Ny (by omega)
 have hp:2^MF x<=2^32:=Nat.pow_le_pow_right (by decide) hl
 refine It (e:=[(0,_)]) Tryz.func234 rfl Tryz.ntmps234 rfl rfl (qN rfl (M6 rfl (qM rfl (LM rfl (qV ((by first|exact MH rfl U3 z7z (by omega)|exact Oc rfl U3 z7z)) ?_)))))
 refine Mb z9r rfl (z3A x (by omega) w) ?_
 rintro _ w ⟨rfl,rfl⟩
 refine qV (NJ (MF x) (2^MF x) rfl rfl (by omega) rfl) ?_
 rw[show 1*2^MF x%18446744073709551616=2^MF x by rw[Nat.one_mul];exact Nat.mod_eq_of_lt (by omega)]
 refine LU rfl (LP Tryz.func234 rfl ?_)
 exact⟨_,rfl,rfl,rfl⟩
open Go.Sort in
theorem z6q {d:Array Nat}{a b i j:Nat}(h1:a<=i)(h2:i<b)(h3:a<=j)(h4:j<b)(h5:b<=d.size):PermIn a b d (swp d i j):=swp_permIn d a b i j h1 h2 h3 h4 h5
theorem z7k {w:World}{g n cap:Nat}{d:Array Nat}(h:OX w g n cap d)(a b:Nat)(jf:a+12<b)(hb:b<=n)(hn:n<50):
  Mm Tryz.prog 225 [.slice (some ⟨g,0,none⟩) n cap,I (a:Int),I (b:Int)] w λu w'=>u= .tuple #[]/\∃d',Go.Sort.PermIn a b d d'/\OX w' g n cap d'/\Kp (λk=>k=g) w w':=by
 have Hf:g<w.heap.size:=h.sl.lt rfl
 have B8:2^(MF (b-a)-1)<=b-a:=Wv (by omega)
 have rV:2^MF (b-a)<=2*(b-a):=by
  have rW:MF (b-a)≠0:=λe=>by have:=Td (v:=b-a);rw[e] at this;omega
  rw[show MF (b-a)=MF (b-a)-1+1 by omega,Nat.pow_succ];omega
 have Ax:1<=2^MF (b-a):=Nat.one_le_two_pow
 refine It (e:=[(0,_),(1,_),(2,_)]) Tryz.func225 rfl Tryz.ntmps225 rfl rfl (qN rfl (M4 rfl rfl (NP rfl rfl ?_)))
 rw[show(b:Int)-(a:Int)=((b-a:Nat):Int) by omega]
 refine M6 rfl (qM rfl (LM rfl (PQ rfl rfl (LO (LY rfl (λh0=>?_) (λh0=>?_))))))
 ·refine qN rfl (LM rfl (qV ((by first|exact MH rfl U3 Z7 (by omega)|exact Oc rfl U3 Z7)) ?_));refine LV rfl rfl (O9 (cs:=[_]) z0t rfl) ?_;rintro _ w1 ⟨xb,rfl,KN,ad,ai⟩;refine M1 rfl (NC z0t rfl rfl rfl ai (by simp)) ?_;rintro w2 ⟨am,ao⟩;have af:Ext w w2:=ad.LJ ao (λk e=>by omega);replace am:LX w2 xb [M7 (b-a)] 355:=am;refine qM rfl (LM rfl (Mb zcp rfl (z64 (b-a) (by omega) _) ?_));rintro _ w2 ⟨rfl,rfl⟩
  generalize 2^MF (b-a)=M at rV Ax
  refine M6 rfl (qM rfl (M4 rfl rfl (qV (Tg rfl rfl (by omega)) (qV (SV rfl rfl (by omega)) (MK rfl rfl (NP rfl rfl (LU rfl (LK ?_))))))));rw[show(a:Int)+((b-a:Nat):Int) / 4*2-1=((a+(b-a) / 4*2-1:Nat):Int) by omega];refine Oe (α:=Nat×Array Nat×Nat) ((a+(b-a) / 4*2-1,d,b-a)) (λy=>[(0,.slice (some ⟨g,0,none⟩) n cap),(1,I (a:Int)),(6,I ((b-a:Nat):Int)),(7,ptr xb 0),(8,M7 M),(9,I (y.1:Int))]) (λy w'=>OX w' g n cap y.2.1/\LX w' xb [M7 y.2.2] 355/\y.2.2<18446744073709551616/\Go.Sort.PermIn a b d y.2.1/\Kp (λk=>k=g) w w'/\a<=y.1) (λy=>a+b+2-y.1) ?hI ?hround
  case hI=>exact⟨h.ext af,am,by dsimp only;omega,Go.Sort.permIn_refl _ _ _,af.kp,by dsimp only;omega⟩
  case hround=>
   rintro⟨idx,d4,r⟩ w4 ⟨dR,aM,bD,jK,ax,o9⟩ ih;dsimp only at dR aM bD jK ax o9;have cz:=dR.size
   try dsimp only
   refine run_seq (qN rfl (M4 rfl rfl (LM rfl (qV (Tg rfl rfl (by omega)) (qV (SV rfl rfl (by omega)) (MK rfl rfl (MK rfl rfl (zle rfl rfl (LO (LY rfl (λh1=>?_) (λh1=>?_)))))))))))
   ·have oL:idx<b:=by omega
    refine py (run_seq (LK (qN rfl (Mb zdn rfl (z5C aM bD) ?_))));rintro _ w5 ⟨r5,rfl,bZ,aF,aj⟩;have aS:=dR.kp aj (λe=>by omega);have ck:Kp (λk=>k=g) w w5:=ax.LJ aj (λk e=> .inl (by omega));refine LM rfl (qV (SM (m:=M) (n:=1) rfl rfl rfl (by show M<2^64;omega) (by omega)) ?_);refine qV (QT rfl rfl (by omega) (by omega)) ?_;have B9:r5&&&(M-1)<=M-1:=Nat.and_le_right
    generalize r5&&&(M-1)=q at B9
    refine qV (MB rfl z7z U3 (by omega)) (LU rfl (run_seq (qN rfl (M4 rfl rfl (PQ rfl rfl (LO (MA (λe' w'=>∃o:Nat,e'=[(0,.slice (some ⟨g,0,none⟩) n cap),(1,I (a:Int)),(6,I ((b-a:Nat):Int)),(7,ptr xb 0),(8,M7 M),(9,I (idx:Int)),(10,I (o:Int))]/\w'=w5/\o<b-a) ?Ba (λBa=>?Bb))))))))
    case Ba=>
     rintro e' w5' ⟨o,rfl,rfl,ho⟩;have ay:=Ext.Ma w5';refine Me [17,19] (λw'=>Ext w5' w') (by kernel_rfl) rfl (qL [16,17,18,19] 0 rfl (λ_ h=>My rfl) ay (qL [16,17,18,19] 1 rfl (λ_ h=>My rfl) ay (MM (i:=2) rfl (by kernel_rfl) rfl rfl (λ_=>My rfl) (ay) (MM (i:=3) rfl (by kernel_rfl) rfl rfl (λ_=>My rfl) (ay) (MM (i:=4) rfl (by kernel_rfl) rfl rfl (λ_=>My rfl) (ay) (MM (i:=5) rfl (by kernel_rfl) rfl rfl (λ_=>R9 rfl rfl (by omega)) (ay) (qL [10,11,16,17,18,19] 6 rfl (λ_ h=>My rfl) ay (qL [9,10,11,16,17,18,19] 7 rfl (λ_ h=>My rfl) ay (qL [9,10,11,16,17,18,19] 8 rfl (λ_ h=>My rfl) ay (qL [10,11,16,17,18,19] 9 rfl (λ_ h=>R9 rfl rfl (by omega)) ay (qL [11,16,17,18,19] 10 rfl (λ_ h=>MN Ml Mc rfl rfl (by omega)) ay (qL [14,15,16,17,18,19] 12 rfl (λ_ h=>My rfl) ay (qL [14,15,16,17,18,19] 13 rfl (λ_ h=>My rfl) ay ?_)))))))))))));refine qL [15,16,17,18,19] 14 rfl (λ_ h=>MN Ml Mc rfl rfl (by omega)) ay (qL [16,17,18,19] 11 rfl (λ_ h=>Mt N5 rfl rfl ((aS.ext h).get (i:=a+o) (by omega))) ay (qL [16,17,18,19] 15 rfl (λ_ h=>Mt N5 rfl rfl ((aS.ext h).get (i:=idx) (by omega))) ay (qL [17,18,19] 16 rfl (λ_ h=>MN Ml Mc rfl rfl (by omega)) ay (Pv [17] (qO 17 (Mx (i:=17) rfl rfl (Of Mc rfl rfl rfl (aS.ext ay).sl ((aS.ext ay).WB (by omega))) ?_))))));rintro w8a ⟨fH,fI⟩;refine⟨trivial,?_⟩;have cD:=(aS.ext ay).set fH;refine LS 18 rfl (MN Ml Mc rfl rfl (by omega)) trivial (qO 19 (Mx (i:=19) rfl rfl (Of Mc rfl rfl rfl cD.sl (cD.WB (by omega))) ?_));rintro w8 ⟨jH,jI⟩;refine⟨trivial,?_⟩;have jJ:=cD.set jH;have eU:Kp (λk=>k=g) w5' w8:=ay.kp.trans (fI.trans jI);refine qE (LL (LQ rfl (LM rfl (MK rfl rfl (LU rfl ?_)))));rw[show(idx:Int)+1=((idx+1:Nat):Int) by omega];exact(ih (idx+1,Go.Sort.swp d4 idx (a+o),r5) _ ⟨jJ,eU.LN aF (by omega),bZ,Go.Sort.permIn_trans _ _ _ a b jK (z6q o9 oL (by omega) (by omega) (by omega)),ck.trans eU,by dsimp only;omega⟩ (by dsimp only;omega)).qb
    case Bb=>
     refine LY rfl (λh2=>?_) (λh2=>?_)
     ·refine LQ rfl (M4 rfl rfl (NP rfl rfl (LU rfl ?_)));rw[show(q:Int)-((b-a:Nat):Int)=((q-(b-a):Nat):Int) by omega];exact(Ba _ _ ⟨q-(b-a),rfl,rfl,by omega⟩).qb
     ·refine py ?_;exact(Ba _ _ ⟨q,rfl,rfl,by omega⟩).qb
   ·refine LW rfl (N9 Tryz.func225 rfl ?_);exact⟨_,rfl,rfl,d4,jK,dR,ax⟩
 ·omega
end Go.Proofs.YtpldpcjdjcgicaaGreatDoor
namespace Go.Proofs.YtpldpcjdjcgicaaGreatDoor
open Go Go.RowKit
open Go.Sort in
def za2 (g n cap m:Nat):Prop:=∀(w:World) (d:Array Nat),OX w g n cap d->∀(a b limit:Nat),b-a<m->a<=b->b<=n->limit<=64->Below Nd a b d->
 Mm Tryz.prog 213 [.slice (some ⟨g,0,none⟩) n cap,I (a:Int),I (b:Int),I (limit:Int)] w λu w'=>u= .tuple #[]/\∃d',OX w' g n cap d'/\PermIn a b d d'/\SortedIn Nd a b d'/\Kp (λk=>k=g) w w'
open Go.Sort in
structure z2L (w:World)(g n cap a b:Nat)(d:Array Nat)(a1 b1 l1:Nat)(d1:Array Nat)(w':World):Prop where
 arr:OX w' g n cap d1
 kp:Kp (λk=>k=g) w w'
 ab:a1<=b1
 bn:b1<=n
 sm:b1-a1<=b-a
 lim:l1<=64
 bel:Below Nd a1 b1 d1
 fin:∀R,PermIn a1 b1 d1 R->SortedIn Nd a1 b1 R->PermIn a b d R/\SortedIn Nd a b R
open Go.Sort in
theorem z2L.perm {w:World}{g n cap a b:Nat}{d:Array Nat}{a1 b1 l1 l2:Nat}{d1 d2:Array Nat}{w1 w2:World}(h:z2L w g n cap a b d a1 b1 l1 d1 w1)(hA:OX w2 g n cap d2)(hk:Kp (λk=>k=g) w1 w2)(hp:PermIn a1 b1 d1 d2)(hl:l2<=64):z2L w g n cap a b d a1 b1 l2 d2 w2:=
 ⟨hA,h.kp.trans hk,h.ab,h.bn,h.sm,hl,h.bel.perm (by rw[h.arr.size];exact h.bn) hp,λR h1 h2=>h.fin R (permIn_trans _ _ _ _ _ hp h1) h2⟩
open Go.Sort in
theorem z6u {g n cap m : Nat}(eO : za2 g n cap m){w : World}{d : Array Nat}(h : OX w g n cap d)(a b limit : Nat)(hm : b - a <= m)(jf : a <= b)(hb : b <= n)(hn : n < 50)(hl : limit <= 64)(hB : Below Nd a b d) :
  Mm Tryz.prog 213 [.slice (some ⟨g,0,none⟩) n cap,I (a:Int),I (b:Int),I (limit:Int)] w λu w'=>u= .tuple #[]/\∃d',OX w' g n cap d'/\PermIn a b d d'/\SortedIn Nd a b d'/\Kp (λk=>k=g) w w':=by
 refine It (e:=[(0,_),(1,_),(2,_),(3,_)]) Tryz.func213 rfl Tryz.ntmps213 rfl rfl (qN rfl (M6 rfl (qM rfl (LU rfl (LK (Oe (α:=Nat×Nat×Nat×Bool×Bool×Array Nat) ((a,b,limit,true,true,d)) (λy=>[(0,.slice (some ⟨g,0,none⟩) n cap),(1,I (y.1:Int)),(2,I (y.2.1:Int)),(3,I (y.2.2.1:Int)),(8,.bool y.2.2.2.1),(9,.bool y.2.2.2.2.1)]) (λy w'=>z2L w g n cap a b d y.1 y.2.1 y.2.2.1 y.2.2.2.2.2 w') (λy=>y.2.1-y.1) ?hI ?hround))))))
 case hI=>exact⟨h,Kp.refl _ _,jf,hb,Nat.le_refl _,hl,hB,λR h1 h2=>⟨h1,h2⟩⟩
 case hround =>
  rintro⟨a1,b1,l1,wb,wp,d1⟩ w4 hI ih;dsimp only at hI;have oM:=hI.ab;have fJ:=hI.bn;have Hh:=hI.sm;have Fn:=hI.lim;have uT:=hI.arr.size
  try dsimp only
  refine LK (qN rfl (M4 rfl rfl (NP rfl rfl (LU rfl (run_seq (qN rfl ?_))))));rw[show(b1:Int)-(a1:Int)=((b1-a1:Nat):Int) by omega];refine LM rfl (zle rfl rfl (LO (LY rfl (λh0=>?_) (λh0=>?_))))
  ·obtain⟨r1,r2⟩:=insertionSort_holds Ut d1 a1 b1 oM (by omega);obtain⟨q1,q2⟩:=hI.fin _ r1 r2;refine qN rfl (M4 rfl rfl (LM rfl (Mb zcu rfl (Y2 hI.arr a1 b1 oM fJ (by omega)) ?_)));rintro _ w5 ⟨rfl,aS,aj⟩;refine LO (LP Tryz.func213 rfl ?_);exact⟨_,rfl,rfl,_,aS,q1,q2,hI.kp.trans aj⟩
  ·refine py (run_seq (qN rfl (LM rfl (NS rfl rfl (LO (LY rfl (λh1 => ?_) (λh1 => ?_)))))))
   ·obtain⟨r1,r2⟩:=heapSort_holds Ut d1 a1 b1 oM (by omega);obtain⟨q1,q2⟩:=hI.fin _ r1 r2;refine qN rfl (M4 rfl rfl (LM rfl (Mb zck rfl (z7m hI.arr a1 b1 (by omega) fJ (by omega)) ?_)));rintro _ w5 ⟨rfl,aS,aj⟩;refine LO (LP Tryz.func213 rfl ?_);exact⟨_,rfl,rfl,_,aS,q1,q2,hI.kp.trans aj⟩
   ·refine py (run_seq (qN rfl (LM rfl (qV ((by first | exact ML rfl | exact Oh rfl)) ?_)))); refine LO (MA (λe' w' => ∃ l5 d5, e' = [(0, .slice (some ⟨g, 0, none⟩) n cap), (1, I (a1 : Int)), (2, I (b1 : Int)), (3, I ((l5 : Nat) : Int)), (8, .bool wb), (9, .bool wp), (10, I ((b1 - a1 : Nat) : Int))] /\ z2L w g n cap a b d a1 b1 l5 d5 w') ?dJ (λdJ => ?eL))
    case dJ =>
     rintro e' w5 ⟨l5,d5,rfl,jL⟩;have qp:=jL.lim;have Bc:=jL.arr.size;have Hi:g<w5.heap.size:=jL.arr.sl.lt rfl;refine qN rfl (M4 rfl rfl (LM rfl (Mb zdf rfl (z5w jL.arr a1 b1 (by omega) fJ hn) ?_)));rintro _ w6 ⟨p6,t6,rfl,Hj,rX,rY,oJ,aN⟩;have oN:=jL.perm oJ aN.kp (permIn_refl _ _ _) qp;refine LM rfl (MW rfl rfl (MW rfl rfl (M6 rfl (LU rfl (run_seq (qN rfl (LM rfl (NS rfl rfl (LO (MA (λe' w'=>∃d7 p7 t7,e'=[(0,.slice (some ⟨g,0,none⟩) n cap),(1,I (a1:Int)),(2,I (b1:Int)),(3,I (l5:Int)),(8,.bool wb),(9,.bool wp),(10,I ((b1-a1:Nat):Int)),(11,I ((p7:Nat):Int)),(12,I ((t7:Nat):Int))]/\z2L w g n cap a b d a1 b1 l5 d7 w'/\a1<=p7/\p7<b1) ?av (λav=>?dr)))))))))))
     case av =>
      rintro e' w7 ⟨d7,p7,t7,rfl,jm,zf,oO⟩;have Hk:=jm.arr.size;refine run_seq (run_seq (MA (λe' w'=>∃s,e'=[(0,.slice (some ⟨g,0,none⟩) n cap),(1,I (a1:Int)),(2,I (b1:Int)),(3,I (l5:Int)),(8,.bool wb),(9,.bool wp),(10,I ((b1-a1:Nat):Int)),(11,I (p7:Int)),(68,.bool s)]/\w'=w7) ?i6 (λi6=>?i7)))
      case i6=>
       rintro e' w8 ⟨s,rfl,rfl⟩;refine MA (λe' w'=>e'=[(0,.slice (some ⟨g,0,none⟩) n cap),(1,I (a1:Int)),(2,I (b1:Int)),(3,I (l5:Int)),(8,.bool wb),(9,.bool wp),(10,I ((b1-a1:Nat):Int)),(11,I (p7:Int))]/\z2L w g n cap a b d a1 b1 l5 d7 w') ?oP (λoP=>?s6)
       case oP=>
        rintro e' w9 ⟨rfl,jn⟩;have qq:=jn.arr;have hg:=Ext.Ma w9;refine run_seq (run_seq (MA (λe' w'=>∃s,e'=[(0,.slice (some ⟨g,0,none⟩) n cap),(1,I (a1:Int)),(2,I (b1:Int)),(3,I (l5:Int)),(8,.bool wb),(9,.bool wp),(10,I ((b1-a1:Nat):Int)),(11,I (p7:Int)),(87,.bool s)]/\w'=w9.drew/\(s=true->0<a1/\Nd d7[a1-1]! d7[p7]! =false)) ?rI (λrI=>?rJ)))
        case rI=>
         rintro e' w10 ⟨s,rfl,rfl,hs⟩;have lu:=qq.ext hg;have aw:Kp (λk=>k=g) w w9.drew:=jn.kp.trans hg.kp;refine MR rfl (λh6=>?_) (λh6=>?_)
         ·obtain⟨Hl,lw⟩:=hs h6;obtain⟨mid,d11,hx⟩:∃m e,partitionEqual Nd d7 a1 b1 p7=(m,e):=⟨_,_,rfl⟩;have Be:=z9i lu a1 b1 p7 zf oO fJ (by omega);rw[hx] at Be;dsimp only at Be;obtain⟨e1,e2,e3,e4,e5⟩:=round_eq Ut (partitionEqual_holds _) Hl zf oO (by omega) jn.bel lw hx;refine qN rfl (M4 rfl rfl (M4 rfl rfl (Mb zbU rfl (Be) ?_)));rintro _ w11 ⟨rfl,oQ,aU⟩;refine M6 rfl (qM rfl (LM rfl (LU rfl (LW rfl ?_))));exact(ih (mid,b1,l5,wb,wp,d11) _ ⟨oQ,aw.trans aU,e2,fJ,by dsimp only;omega,jn.lim,e4,λR r1 r2=>jn.fin R (e5 R r1 r2).1 (e5 R r1 r2).2⟩ (by dsimp only;omega)).qb
         ·obtain⟨mid,ap,d11,hx⟩:∃m q e,partition Nd d7 a1 b1 p7=(m,q,e):=⟨_,_,_,rfl⟩;have rZ:=z7j lu a1 b1 p7 zf oO fJ (by omega);rw[hx] at rZ;dsimp only at rZ;obtain⟨e1,e2,e3,e4,e5,e6,e7⟩:=round_part Ut (partition_holds _) zf oO (by omega) jn.bel hx;refine py (qN rfl (M4 rfl rfl (M4 rfl rfl (Mb zbX rfl (rZ) ?_))));rintro _ w11 ⟨rfl,oQ,aU⟩;refine LM rfl (MW rfl rfl (MW rfl rfl (M6 rfl (M6 rfl (qM rfl (LM rfl (M6 rfl (qM rfl (M4 rfl rfl (NP rfl rfl (M4 rfl rfl (NP rfl rfl (M6 rfl ?_)))))))))))));refine M6 rfl (qM rfl ?_);rw[show(mid:Int)-(a1:Int)=((mid-a1:Nat):Int) by omega,show(b1:Int)-(mid:Int)=((b1-mid:Nat):Int) by omega];refine LM rfl (qV (Tg rfl rfl (by omega)) (M6 rfl (qM rfl (M4 rfl rfl (Nr rfl rfl (LO (LY rfl (λh7=>?_) (λh7=>?_))))))))
          ·refine qN rfl (M4 rfl rfl (PQ rfl rfl (M6 rfl (qM rfl (M4 rfl rfl (M4 rfl rfl (Mb z86 rfl (eO _ _ oQ a1 mid l5 (by omega) e1 (by omega) jn.lim e4) ?_)))))));rintro _ w12 ⟨rfl,d12,s0,jM,jE,aV⟩;obtain⟨f1,f2⟩:=e6 _ jM jE;refine LO (LQ rfl (LM rfl (MK rfl rfl (LU rfl (LL ?_)))));exact(ih (mid+1,b1,l5,decide (((b1-a1:Nat):Int) / 8<=((mid-a1:Nat):Int)),ap,d12) _ ⟨s0,(aw.trans aU).trans aV,by dsimp only;omega,fJ,by dsimp only;omega,jn.lim,f1,λR r1 r2=>jn.fin R (f2 R r1 r2).1 (f2 R r1 r2).2⟩ (by dsimp only;omega)).qb
          ·refine qN rfl (M4 rfl rfl (PQ rfl rfl (M6 rfl (qM rfl (M4 rfl rfl (MK rfl rfl (M4 rfl rfl ?_)))))));rw[show(mid:Int)+1=((mid+1:Nat):Int) by omega];refine Mb z86 rfl (eO _ _ oQ (mid+1) b1 l5 (by omega) (by omega) fJ jn.lim e5) ?_;rintro _ w12 ⟨rfl,d12,s0,jM,jE,aV⟩;obtain⟨f1,f2⟩:=e7 _ jM jE;refine LO (LQ rfl (LM rfl (LU rfl (LL ?_))));exact(ih (a1,mid,l5,decide (((b1-a1:Nat):Int) / 8<=((b1-mid:Nat):Int)),ap,d12) _ ⟨s0,(aw.trans aU).trans aV,e1,by dsimp only;omega,by dsimp only;omega,jn.lim,f1,λR r1 r2=>jn.fin R (f2 R r1 r2).1 (f2 R r1 r2).2⟩ (by dsimp only;omega)).qb
        case rJ=>
         rcases Nat.eq_zero_or_pos a1 with hj|hj
         ·refine NF (λw'=>Ext w9 w') rfl (M9 0 rfl rfl (hg) (LS 1 rfl (UZ rfl rfl) hg (QG (M9 2 rfl rfl (hg) (qJ 3 rfl (hg) (qJ 4 rfl (hg) (qJ 5 rfl (hg) (qJ 6 rfl (hg) (qJ 7 rfl (hg) (qJ 8 rfl (hg) (qJ 9 rfl (hg) (qJ 10 rfl (hg) (qJ 11 rfl (hg) ?_)))))))))))));refine qJ 12 rfl (hg) (qJ 13 rfl (hg) (LS 14 rfl (R8 rfl rfl) hg (qE ?_)));exact(rI _ _ ⟨false,rfl,rfl,λe=>by cases e⟩).qb
         ·refine NF (λw'=>Ext w9 w') rfl (M9 0 rfl rfl (hg) (LS 1 rfl (UZ rfl rfl) hg (Qq (M9 2 rfl rfl (hg) (M9 3 rfl rfl (hg) (M9 4 rfl rfl (hg) (LS 5 rfl (TF rfl rfl (by omega)) hg (M9 8 rfl rfl (hg) (M9 9 rfl rfl (hg) (LS 10 rfl (MN Ml Mc rfl rfl (by omega)) hg ?_))))))))));rw[show(a1:Int)-1=((a1-1:Nat):Int) by omega];refine LS 6 rfl (MN Ml Mc rfl rfl (by omega)) hg (qT 7 rfl (λ_ h=>Mt N5 rfl rfl ((qq.ext h).get (i:=a1-1) (by omega))) hg (qT 11 rfl (λ_ h=>Mt N5 rfl rfl ((qq.ext h).get (i:=p7) (by omega))) hg (Pw 12 rfl Sf rfl (Ou _ _ _) ?_)));rintro _ w10 ⟨rfl,rfl⟩;refine⟨hg,?_⟩;refine LS 13 rfl ((by first|exact ML rfl|exact Oh rfl)) hg ?_;refine LS 14 rfl (Rx rfl rfl) hg (qE ?_);exact(rI _ _ ⟨decide (¬d7[a1-1]!<d7[p7]!),rfl,rfl,λe=>⟨hj,by simpa[Nd] using e⟩⟩).qb
       case s6=>
        refine MR rfl (λh4=>?_) (λh4=>?_)
        ·obtain⟨r1,r2⟩:=partialInsertionSort_holds Ut d7 a1 b1 (by omega) (by omega) jm.bel;refine qN rfl (M4 rfl rfl (LM rfl (Mb zc1 rfl (z6s jm.arr a1 b1 (by omega) fJ hn) ?_)));rintro _ w9 ⟨rfl,qq,aL⟩;refine LO (MR rfl (λh5=>?_) (λh5=>?_))
         ·have r3:=r2 h5;rw[z48 d7 a1 b1 (by omega)] at r3;dsimp only at r3;obtain⟨q1,q2⟩:=jm.fin _ (permIn_refl _ _ _) r3;refine LP Tryz.func213 rfl ?_;exact⟨_,rfl,rfl,d7,qq,q1,q2,jm.kp.trans aL⟩
         ·refine py ?_;exact(oP _ _ ⟨rfl,jm.perm qq aL (permIn_refl _ _ _) jm.lim⟩).qb
        ·refine py ?_;exact(oP _ _ ⟨rfl,jm⟩).qb
      case i7 =>
       cases wb with
       | false =>
         refine LQ rfl (M4 rfl rfl (qS (ME rfl rfl (LM rfl (qS (qS (ME rfl rfl (LO ?_))))))))
         exact(i6 _ _ ⟨false,rfl,rfl⟩).qb
       | true =>
         cases wp with
         | false =>
           refine LQ rfl (M4 rfl rfl (LM rfl (NB rfl rfl (LM rfl (qS (qS (ME rfl rfl (LO ?_))))))))
           exact(i6 _ _ ⟨false,rfl,rfl⟩).qb
         | true =>
           refine LQ rfl (M4 rfl rfl (LM rfl (NB rfl rfl (M4 rfl rfl (NS rfl rfl (NB rfl rfl (LO ?_)))))));exact(i6 _ _ ⟨decide ((t7:Int)=1),rfl,rfl⟩).qb
     case dr=>
      refine LY rfl (λh3=>?_) (λh3=>?_)
      ·refine qN rfl (M4 rfl rfl (LM rfl (Mb zeg rfl (z06 oJ a1 b1 (by omega) fJ (by omega)) ?_)));rintro _ w7 ⟨rfl,zg,aA⟩;refine qM rfl (LM rfl (NP rfl rfl (M4 rfl rfl (NP rfl rfl (NP rfl rfl (LU rfl (LQ rfl (LU rfl ?_))))))));rw[show(b1:Int)-1-((p6:Int)-(a1:Int))=((b1-1-(p6-a1):Nat):Int) by omega];exact(av _ _ ⟨reverseRange d5 a1 b1,b1-1-(p6-a1),1,rfl,oN.perm zg aA (reverseRange_holds _ _ _ oM (by omega)) qp,by omega,by omega⟩).qb
      ·refine py ?_;exact(av _ _ ⟨d5,p6,t6,rfl,oN,Hj,rX⟩).qb
    case eL=>
     refine MR rfl (λh2=>?_) (λh2=>?_)
     ·refine qN rfl (M4 rfl rfl (LM rfl (Mb zed rfl (z7k hI.arr a1 b1 (by omega) fJ hn) ?_)));rintro _ w5 ⟨rfl,d5,gh,aS,aj⟩;refine LO (LQ rfl (LM rfl (NP rfl rfl (LU rfl ?_))));rw[show(l1:Int)-1=((l1-1:Nat):Int) by omega];exact(dJ _ _ ⟨l1-1,d5,rfl,hI.perm aS aj gh (by omega)⟩).qb
     ·refine py ?_;exact(dJ _ _ ⟨l1,d1,rfl,hI⟩).qb
theorem z3H (g n cap:Nat)(hn:n<50):∀m,za2 g n cap m
 |0=>λw d h a b limit hm=>absurd hm (Nat.not_lt_zero _)
 |m+1=>λw d h a b limit hm jf hb hl hB=>z6u (z3H g n cap hn m) h a b limit (by omega) jf hb hn hl hB
open Go.Sort in
theorem z5N {w:World}{v:Value}{l:List Nat}(hS:Sl w v 46 1 l.length (l.map Ms))(bI:l≠[])(hl:l.length<50):
  Mm Tryz.prog 194 [v] w λu w'=>u= .tuple #[]/\Kp (λk=>v.ownBlock=some k) w w'/\∃l':List Nat,l'.Perm l/\l'.Pairwise (·<=·)/\Sl w' v 46 1 l'.length (l'.map Ms):=by
 obtain⟨g,cap,rfl⟩:∃g c,v= .slice (some ⟨g,0,none⟩) l.length c:=by
  rcases hS.shape with⟨-,h0⟩|⟨g,c,e,hc⟩
  ·exact absurd (List.eq_nil_of_length_eq_zero (by omega)) bI
  ·exact⟨g,c,e⟩
 have hA:OX w g l.length cap l.toArray:=⟨by simpa using hS,by simp⟩
 have aB:MF l.length<=6:=Ny (by omega)
 refine It (e:=[(0,_)]) Tryz.func194 rfl Tryz.ntmps194 rfl rfl (qN rfl (LM rfl (NX Ml rfl (LU rfl (LQ rfl (M4 rfl rfl (LM rfl (qV ((by first|exact MH rfl U3 z7z (by omega)|exact Oc rfl U3 z7z)) ?_))))))))
 refine Mb z9r rfl (z3A l.length (by omega) w) ?_
 rintro _ w ⟨rfl,rfl⟩
 refine Mb z86 rfl (z3H g l.length cap hl (l.length+1) w l.toArray hA 0 l.length (MF l.length) (by omega) (by omega) (Nat.le_refl _) (by omega) (.inl rfl)) ?_
 rintro _ w1 ⟨rfl,d',kF,hP,hO,hk⟩
 refine LO (N9 Tryz.func194 rfl ?_)
 have cz:=kF.size
 have iQ:d'.toList.Perm l:=by
  have:=hP.2.2;rw[Array.toList_extract,Array.toList_extract] at this;have h1:(d'.toList.take l.length).Perm (l.take l.length):=by simpa using this
  rwa [List.take_of_length_le (by rw[Array.length_toList,cz];exact Nat.le_refl _),List.take_length] at h1
 refine⟨_,rfl,rfl,hk.LZ (λk e=>by rw[e];rfl),d'.toList,iQ,?_,?_⟩
 ·rw[List.pairwise_iff_getElem];intro i j hi hj gT;rw[Array.length_toList] at hi hj;have:=hO i j (Nat.zero_le _) gT (by omega);rw[getElem!_pos d' i (by omega),getElem!_pos d' j (by omega)] at this;simp only[Nd,decide_eq_false_iff_not] at this;rw[Array.getElem_toList,Array.getElem_toList];omega
 ·have e:d'.toList.length=l.length:=by rw[Array.length_toList,cz]
  rw[e];exact kF.sl
structure NuI (w w1:World)(p:Oq)(b5 n11:Nat)(L:List (Cd×Nat))(w':World):Prop where
 ex:∃F,ZW w' n11 L F/\∀k,F k->w1.heap.size<=k
 ext:Ext w w'
 b5:LX w' b5 (Wg p) 245
 siz:w1.heap.size<=w'.heap.size
theorem NuI.put {w w1 w2 w3:World}{p:Oq}{b5 n11:Nat}{L L':List (Cd×Nat)}{F:Nat->Prop}(h:NuI w w1 p b5 n11 L w2)(hf:∀k,F k->w1.heap.size<=k)(gN:b5<w1.heap.size)(Fo:w.heap.size<=w1.heap.size)
  (g:∃F',ZW w3 n11 L' F'/\Kp F w2 w3/\∀k,F' k->F k\/w2.heap.size<=k):NuI w w1 p b5 n11 L' w3:=by
 obtain⟨F',g1,g2,g3⟩:=g
 have hs:=h.siz
 refine⟨⟨F',g1,λk hk=>?_⟩,h.ext.LJ g2 (λk hk=>by have:=hf k hk;omega),g2.LN h.b5 (λe=>by have:=hf b5 e;omega),by have:=g2.size;omega⟩
 rcases g3 k hk with e| e
 ·exact hf k e
 ·omega
structure XY (w w1 w2:World)(p:Oq)(b5 n11:Nat)(X:Nat->Prop)(L:List (Cd×Nat))(w3:World):Prop where
 ex:∃F,ZW w3 n11 L F/\(∀k,F k->w1.heap.size<=k)/\∀k,F k->¬X k
 ext:Ext w w3
 b5:LX w3 b5 (Wg p) 245
 siz:w1.heap.size<=w3.heap.size
 kx:Kp (λk=>¬X k) w2 w3
theorem XY.put {w w1 w2 w3 w4:World}{p:Oq}{b5 n11:Nat}{X:Nat->Prop}{L L':List (Cd×Nat)}{F:Nat->Prop}(h:XY w w1 w2 p b5 n11 X L w3)(hX:∀k,X k->k<w2.heap.size)(hf:∀k,F k->w1.heap.size<=k)(hx:∀k,F k->¬X k)(gN:b5<w1.heap.size)(Fo:w.heap.size<=w1.heap.size)
  (g:∃F',ZW w4 n11 L' F'/\Kp F w3 w4/\∀k,F' k->F k\/w3.heap.size<=k):XY w w1 w2 p b5 n11 X L' w4:=by
 obtain⟨F',g1,g2,g3⟩:=g
 have hs:=h.siz
 have hz:=h.kx.size
 refine⟨⟨F',g1,λk hk=>?_,λk hk gj=>?_⟩,h.ext.LJ g2 (λk hk=>by have:=hf k hk;omega),g2.LN h.b5 (λe=>by have:=hf b5 e;omega),by have:=g2.size;omega,h.kx.trans (g2.LZ hx)⟩
 ·rcases g3 k hk with e| e
  ·exact hf k e
  ·omega
 ·rcases g3 k hk with e| e
  ·exact hx k e gj
  ·have:=hX k gj;omega
theorem Pp:∀(l:List Nat) (k:Nat),(runNums k l).length=l.length
 |[],_=>rfl
 |_::l,k=>by rw[runNums,List.length_cons,List.length_cons,Pp l]
theorem UC:∀(l:List Nat) (k n:Nat),runNums k (l++[n])=runNums k l++[(.gamma,n-min (k+l.length) 1)]
 |[],k,n=>rfl
 | m :: l, k, n => by
   rw[List.cons_append,runNums,UC l (k+1) n,runNums,List.cons_append,List.length_cons,show k+1+l.length=k+(l.length+1) by omega]
theorem WR:∀{l:List Nat},(∀n∈l,1<=n)->l.length<=l.sum
 |[],_=>Nat.le_refl _
 | x :: l, h => by
   have h1:=h x List.mem_cons_self;have h2:=WR (λn hn=>h n (List.mem_cons_of_mem x hn));rw[List.length_cons,List.sum_cons];omega
theorem PM.WL {rs:List Nat}{fs:List Bool}(h:PM rs fs):rs.length<=fs.length+1:=by
 have e:=P7 true rs
 rw[h.exp] at e
 cases rs with
 |nil=>simp
 | cons a tl =>
   have h1:=WR (l:=tl) (λn hn=>h.pos n hn);rw[List.sum_cons] at e;rw[List.length_cons];omega
theorem TN:∀l:List Nat,(rowsN 0 l).1=[]
 |[]=>by rw[rowsN]
 | x :: l => by
   rw[rowsN,if_neg (by omega)];exact TN (l.drop (runLen x l))
 termination_by l=>l.length
 decreasing_by simp[List.length_drop];omega
def UL (l:List (Nat×Nat)):Option Nat:=l.getLast?.map λp=>p.1+p.2-1
theorem UQ (x least:Nat):∀(l:List (Nat×Nat)) (e:Option Nat) (p:Nat×Nat),longNums x least e (l++[p])=longNums x least e l++longNums x least (match l with|[]=>e|_=>UL l) [p]
 |[],e,p=>by cases e<;>rfl
 | q :: l, e, p => by
   rw[List.cons_append,O6,O6,UQ x least l _ p]
   cases l with
   |nil=>rfl
   |cons q2 l=>rfl
theorem Y5 (x least:Nat)(l:List (Nat×Nat))(p:Nat×Nat):longNums x least none (l++[p])=longNums x least none l++[(.gamma,R5 x (UL l) p.1),(.gamma,p.2-least)]:=by
 rw[UQ]
 cases l with
 |nil=>rfl
 |cons q l=>rw[O6 x least (match q::l with|[]=>none|_=>UL (q::l))];rfl
theorem z6W {w : World}{b off n cap i : Nat}{R : List (Nat × Nat)}{q : Nat × Nat}(h : Rd w (.slice (some ⟨b, off, none⟩) n cap) 2 n (R.flatMap Yh))(hq : R[i]? = some q) : ∀ j u, [I (q.1 : Int), I (q.2 : Int)][j]? = some u -> w.cell? ⟨b, off + i * 2 + j, none⟩ = some u := by
 intro j u hj
 have hi:=(List.getElem?_eq_some_iff.1 hq).1
 rcases h.2 with⟨c,hc,h0⟩|⟨b',off',cap',e,hc⟩
 ·have:=h.1;rw[z5V] at this;omega
 ·cases e
  have kG:(R.flatMap Yh)[i*2+j]? =some u:=by
   have kD:j<2:=(List.getElem?_eq_some_iff.1 hj).1
   have key : ∀ (R : List (Nat × Nat)) (i : Nat), R[i]? = some q -> (R.flatMap Yh)[i * 2 + j]? = some u := by
    intro R
    induction R with
    |nil=>intro i h;simp at h
    | cons a R ih =>
      intro i h;rw[List.flatMap_cons]
      cases i with
      | zero =>
        rw[List.getElem?_cons_zero] at h;cases h;rw[List.getElem?_append_left (by show _<2;omega),Nat.zero_mul,Nat.zero_add]
        exact hj
      | succ i =>
        rw[List.getElem?_append_right (by show 2<=_;omega),show(i+1)*2+j-(Yh a).length=i*2+j by show(i+1)*2+j-2=_;omega];exact ih i h
   exact key R i hq
  have:=hc (i*2+j) u kG;rw[show off+i*2+j=off+(i*2+j) by omega];exact this
theorem XY.ex2 {w w1 w2 w3 w4:World}{p:Oq}{b5 n11:Nat}{X:Nat->Prop}{L:List (Cd×Nat)}(h:XY w w1 w2 p b5 n11 X L w3)(hx:Ext w3 w4):XY w w1 w2 p b5 n11 X L w4:=by
 obtain⟨⟨F,h1,h2,h3⟩,h4,h5,h6,h7⟩:=h
 exact⟨⟨F,h1.ext hx,h2,h3⟩,h4.trans hx,hx.LN h5,by have:=hx.size;omega,h7.trans hx.kp⟩
theorem XY.back {w w1 w2 w3 w4:World}{p:Oq}{b5 n11:Nat}{X X':Nat->Prop}{L L':List (Cd×Nat)}(h:XY w w1 w2 p b5 n11 X L w3)(h':XY w w1 w3 p b5 n11 X' L' w4)(hX:∀k,X k->X' k):XY w w1 w2 p b5 n11 X L' w4:=by
 obtain⟨⟨F,h1,h2,h3⟩,h4,h5,h6,h7⟩:=h'
 exact⟨⟨F,h1,h2,λk hk hx=>h3 k hk (hX k hx)⟩,h4,h5,h6,h.kx.trans (h7.LZ λk hk hx=>hk (hX k hx))⟩
theorem XY.again {w w1 w2 w3:World}{p:Oq}{b5 n11:Nat}{X X':Nat->Prop}{L:List (Cd×Nat)}{F:Nat->Prop}(h:XY w w1 w2 p b5 n11 X L w3)(hA:ZW w3 n11 L F)(hf:∀k,F k->w1.heap.size<=k)(hx:∀k,F k->¬X' k):XY w w1 w3 p b5 n11 X' L w3:=
 ⟨⟨F,hA,hf,hx⟩,h.ext,h.b5,h.siz,Kp.refl _ _⟩
theorem OL (x least:Nat):∀(l:List (Nat×Nat)) (e:Option Nat),(longNums x least e l).length=2*l.length
 |[],e=>by cases e<;>rfl
 |q::l,e=>by rw[O6,List.length_cons,List.length_cons,OL x least l,List.length_cons];omega
theorem Vs {least:Nat}:∀(R:List (Nat×Nat)) (lo i:Nat) (q:Nat×Nat),Pc least lo R->R[i]? =some q->1<=q.2/\least<=q.2/\(∀z,UL (R.take i)=some z->z+2<=q.1)/\(UL (R.take i)=none->lo<=q.1)
 |[],lo,i,q,h,hq=>by simp at hq
 | p :: R, lo, 0, q, h, hq => by
   rw[List.getElem?_cons_zero] at hq;cases hq
   exact⟨h.2.1,h.2.2.1,(λz hz=>by cases hz),λ_=>h.1⟩
 | p :: R, lo, i + 1, q, h, hq => by
   rw[List.getElem?_cons_succ] at hq;obtain⟨h1,h2,h3,h4⟩:=Vs R _ i q h.2.2.2 hq;have hp:1<=p.2:=h.2.1;refine⟨h1,h2,λz hz=>?_,λhz=>?_⟩
   ·rw[List.take_succ_cons] at hz
    cases hR:R.take i with
    | nil =>
      rw[hR] at hz;have e:p.1+p.2-1=z:=NV hz;have:=h4 (by rw[hR];rfl)
      omega
    | cons a l =>
      rw[hR] at hz;exact h3 z (by rw[hR];exact hz)
   ·rw[List.take_succ_cons] at hz;exfalso;unfold UL at hz;rw[Option.map_eq_none_iff,List.getLast?_eq_none_iff] at hz;cases hz
theorem z4t (l:List (Nat×Nat))(q:Nat×Nat):UL (l++[q])=some (q.1+q.2-1):=by simp[UL]
theorem z6J {least:Nat}{l:List Nat}{q:Nat×Nat}(hl:∀y∈l,y<65536)(hq:q∈(rowsN least l).1)(h1:1<=q.2):q.1+q.2<=65536:=by
 have h2:q.1+(q.2-1)∈Nq (rowsN least l).1:=by
  unfold Nq;exact List.mem_flatMap.2 ⟨q,hq,List.mem_map.2 ⟨q.2-1,List.mem_range.2 (by omega),rfl⟩⟩
 have:=hl _ ((PX least l).subset (List.mem_append_left _ h2))
 omega
def z80 (x:Nat):Option Nat->Nat->Nat
 |none,v=>ZQ ((v:Int)-x)
 |some u,v=>v-u-1
theorem P6 (x k:Nat)(e:Option Nat)(v:Nat)(r:List Nat):restNums x k e (v::r)=(.zeta k,z80 x e v)::restNums x k (some v) r:=by
 cases e<;>rfl
theorem Uv (x k:Nat):∀(l:List Nat) (e:Option Nat) (v:Nat),restNums x k e (l++[v])=restNums x k e l++restNums x k (match l with|[]=>e|_=>l.getLast?) [v]
 |[],e,v=>by cases e<;>rfl
 | u :: l, e, v => by
   rw[List.cons_append,P6,P6,Uv x k l _ v]
   cases l with
   |nil=>rfl
   |cons u2 l=>rfl
theorem TA (x k:Nat)(l:List Nat)(v:Nat):restNums x k none (l++[v])=restNums x k none l++[(.zeta k,z80 x l.getLast? v)]:=by
 rw[Uv]
 cases l with
 |nil=>rfl
 |cons u l=>rw[P6 x k (match u::l with|[]=>none|_=>(u::l).getLast?)];cases (u::l).getLast?<;>rfl
theorem Pz (x k:Nat):∀(l:List Nat) (e:Option Nat),(restNums x k e l).length=l.length
 |[],e=>by cases e<;>rfl
 |v::l,e=>by rw[P6,List.length_cons,Pz x k l,List.length_cons]
theorem MG {α:Type}{l:List α}{i:Nat}{q:α}(h:l[i]? =some q):l.take (i+1)=l.take i++[q]:=by
 rw[List.take_succ,h];rfl
theorem Uq {w : World}(p : Oq)(hp : p.N4)(x : Nat)(hx : x < 65536){sa ra : Option Addr}{sc rc : Nat}(succ ref : List Nat)(hs : Mw succ)(hr : Mw ref)(r : Nat)(iR : r <= p.Mh)(lh : r = 0 -> ref = [])
  (hG:LX w 1 (OU .gamma) 298) (hU:LX w 2 (OU .unary) 298) (eg:Rd w (.slice sa succ.length sc) 1 succ.length (succ.map Ms)) (iD:Rd w (.slice ra ref.length rc) 1 ref.length (ref.map Ms)) (gK:succ.length<=sc) (mP:ref.length<=rc):
  Mm Tryz.prog 175 [lpV p,I (x:Int),.slice sa succ.length sc,.slice ra ref.length rc,I (r:Int)] w λu w'=>Sl w' u 300 3 (NW p x succ ref r).length ((NW p x succ ref r).flatMap z2Y)/\(∀g,u.ownBlock=some g->w.heap.size<=g)/\Ext w w':=by
 obtain⟨g1,g2,g3,g4⟩:=id hp
 have fK:=hs.len
 have gM:=hr.len
 refine It (e:=[(0,_),(1,_),(2,_),(3,_),(4,_)]) Tryz.func175 rfl Tryz.ntmps175 rfl rfl (qN rfl (LV rfl rfl (NN rfl (cs:=Wg p) rfl) ?_))
 rintro _ w1 ⟨b5,rfl,gN,ad,aF⟩
 have z1:=ad.size
 have l5:=aF.lt
 refine M6 rfl (qM rfl (qV (Mk (news:=[.int .u8 1,M7 0]) OK rfl Nk rfl ((ad.LN hG).cells (n:=2) rfl) rfl) (LM rfl (NX Ml rfl (qV ((by first|exact MH rfl U3 Ns (by omega)|exact Oc rfl U3 Ns)) ?_)))))
 refine qV (OJ (cs:=[_,_,_]) RR rfl zaf rfl rfl) (LV rfl rfl (Uu (cs:=[_,_,_]) (zs:=[Value.int .u8 0,Value.int .u64 0,Value.int .u64 0]) Wi RR rfl (by kernel_rfl) rfl rfl rfl (by decide)) ?_)
 rintro _ w2 ⟨b2,rfl,⟨bY,af,am⟩,cN⟩
 have z2:=af.size
 have l2:=am.lt
 refine LV rfl rfl (O9 (cs:=[_]) z6L rfl) ?_
 rintro _ w3 ⟨n11,rfl,iN,ah,aH⟩
 have z3:=ah.size
 refine M1 rfl (NC z6L rfl rfl rfl aH (by simp)) ?_
 rintro w4 ⟨kH,ax⟩
 have z4:=ax.size
 replace kH:LX w4 n11 [.slice (some ⟨b2,0,none⟩) 1 1] 295:=kH
 have ee:=(cN.ext ah).kp ax (λg hg e=>by have h1:b2=g:=NV hg;omega)
 have ud:NuI w w1 p b5 n11 [(.gamma,succ.length)] w4:=⟨⟨Ys n11 (.slice (some ⟨b2,0,none⟩) 1 1),⟨_,⟨kH,ee,λe=>by have h1:b2=n11:=NV e;omega⟩,λ_=>Iff.rfl⟩,λk hk=>by
   rcases hk with e| e
   ·omega
   ·have h1:b2=k:=NV e
    omega⟩,((ad.trans af).trans ah).LJ ax (λk e=>by omega),ax.LN (ah.LN (af.LN aF)) (by omega),by omega⟩
 refine LO (run_seq (qN rfl (LM rfl (NX Ml rfl (NS rfl rfl (LO (LY rfl (λe0=>?_) (λe0=>?_))))))))
 ·have eH:succ=[]:=List.eq_nil_of_length_eq_zero (by omega);subst eH;refine qN rfl (qV (LR Wi rfl rfl kH rfl) (LU rfl (LP Tryz.func175 rfl ?_)));have lw:NW p x [] ref r=[(.gamma,0)]:=by simp[NW]
  rw[lw];exact⟨_,rfl,ee,λg hg=>by have h1:b2=g:=NV hg;omega,ud.ext⟩
 ·have gz := ud.b5; replace gz : LX w4 b5 [I (p.Mh : Int), I (p.interval : Int), I (p.zeta : Int)] 245 := gz; refine py (qN rfl (qV (ZU (first := []) (caps := [.tmp 11]) rfl rfl) (LU rfl (run_seq (qN rfl (M0 PJ rfl (qV (LR U3 rfl rfl gz rfl) (Nc rfl rfl (LO (MA (λe' w' => e' = [(1, I (x : Int)), (2, .slice sa succ.length sc), (3, .slice ra ref.length rc), (4, I (r : Int)), (5, ptr b5 0), (11, ptr n11 0), (12, .func (.func 195) #[] #[ptr n11 0])] /\ NuI w w1 p b5 n11 ([(.gamma, succ.length)] ++ (if 0 < p.Mh then [(.unary, r)] else [])) w') ?cu (λcu => ?cM)))))))))))
  case cu =>
   rintro e' w5 ⟨rfl,s7⟩;have Bc:=s7.siz;refine qN rfl (LV rfl rfl (Uu (cs:=[_]) (zs:=[Value.int .i64 0]) NQ MO rfl (by kernel_rfl) rfl rfl rfl (by decide)) ?_);rintro _ w6 ⟨b43,rfl,⟨Bf,aN,dL⟩,mQ⟩;have l6:=dL.lt;refine LV rfl rfl (O9 (cs:=[_]) z2Z rfl) ?_;rintro _ w7 ⟨rn,rfl,Hm,bQ,uU⟩;have l7:=uU.lt;have z7:=bQ.size;refine LV rfl rfl (O9 (cs:=[_]) Qz rfl) ?_;rintro _ w8 ⟨lf,rfl,Hn,cV,uV⟩;have l8:=uV.lt;have z8:=cV.size;refine M1 rfl (NC z2Z rfl rfl rfl (cV.LN uU) (by simp)) ?_;rintro w9 ⟨mR,aL⟩;have z9:=aL.size;replace mR:LX w9 rn [.slice (some ⟨b43,0,none⟩) 1 1] 51:=mR;refine M1 rfl (NC Qz rfl rfl rfl (aL.LN uV (by omega)) (by simp)) ?_;rintro w10 ⟨jN,aw⟩;have z10:=aw.size;replace jN:LX w10 lf [.slice none 0 0] 45:=jN;have fL:Ext w5 w10:=(((aN.trans bQ).trans cV).LJ aL (λk e=>by omega)).LJ aw (λk e=>by omega)
   have ly:NuI w w1 p b5 n11 ([(.gamma,succ.length)]++(if 0<p.Mh then [(.unary,r)] else [])) w10:=by
    obtain⟨⟨F,h1,h2⟩,h3,h4,h5⟩:=s7;exact⟨⟨F,h1.ext fL,h2⟩,h3.trans fL,fL.LN h4,by have:=fL.size;omega⟩
   have cf:=(((mQ.ext bQ).ext cV).kp aL (λg hg e=>by have h1:b43=g:=NV hg;omega)).kp aw (λg hg e=>by have h1:b43=g:=NV hg;omega);have Ho:Zc w10 lf [] (Ys lf (.slice none 0 0)):=⟨_,⟨jN,Sl.nil _ _ _,λe=>by cases e⟩,λ_=>Iff.rfl⟩;have Hp:Yd w10 rn [0] (Ys rn (.slice (some ⟨b43,0,none⟩) 1 1)):=⟨_,⟨aw.LN mR (by omega),cf,λe=>by have h1:b43=rn:=NV e;omega⟩,λ_=>Iff.rfl⟩
   have jo:∀k,Ys lf (.slice none 0 0) k->k=lf:=λk hk=>by
    rcases hk with e| e
    ·exact e
    ·cases e
   have me:∀k,Ys rn (.slice (some ⟨b43,0,none⟩) 1 1) k->k=rn\/k=b43:=λk hk=>by
    rcases hk with e| e
    ·exact .inl e
    ·exact .inr (NV e).symm
   have cE:∀k,Ys lf (.slice none 0 0) k\/Ys rn (.slice (some ⟨b43,0,none⟩) 1 1) k->w5.heap.size<=k:=λk hk=>by
    rcases hk with e| e
    ·have:=jo k e;omega
    ·rcases me k e with e|e<;>omega
   have hE:Qs w10 succ ref lf rn (Ys lf (.slice none 0 0)) (Ys rn (.slice (some ⟨b43,0,none⟩) 1 1)) succ sa sc ref ra rc [] [0] w10:=by
    refine⟨⟨_,_,[],Ho,Hp,PM.zero,by simpa using gM,by simp;omega,λk h=> .inl h,λk h=> .inl h,λk h1 h2=>?_⟩,λw2 k=>?_,λw2 k=>?_,gK,mP,Kp.refl _ _,hs,hr,rfl,rfl,by simpa using fK⟩
    ·have e1:=jo k h1;rcases me k h2 with e2|e2<;>omega
    ·exact(eg.ext ly.ext).kpz k (λh0 g hg hS=>by have e1:=eg.ltz (by decide) h0 hg;have e2:=cE g hS;omega)
    ·exact(iD.ext ly.ext).kpz k (λh0 g hg hS=>by have e1:=iD.ltz (by decide) h0 hg;have e2:=cE g hS;omega)
   refine qM rfl (M4 rfl rfl (qV (ZU (first:=[]) (caps:=[.tmp 14,.tmp 13]) rfl rfl) (Mb zc3 rfl (z6A hE) ?_)));rintro _ w11 ⟨rfl,FL,FR,uW,oR,Bg,Bh,ji,aU⟩
   have oS:NuI w w1 p b5 n11 ([(.gamma,succ.length)]++(if 0<p.Mh then [(.unary,r)] else [])) w11:=by
    have aQ:Kp (λk=>Ys lf (.slice none 0 0) k\/Ys rn (.slice (some ⟨b43,0,none⟩) 1 1) k) w10 w11:=aU;have Bi:=s7.ex;obtain⟨⟨F,h1,h2⟩,h3,h4,h5⟩:=ly;obtain⟨F5,h6,h7⟩:=Bi;have gN:b5<w5.heap.size:=s7.b5.lt;refine⟨⟨F5,(h6.ext fL).kp aQ (λk hk hS=>by have e1:=h6.lt hk;have e2:=cE k hS;omega),h7⟩,h3.LJ aQ (λk hk=>by have e2:=cE k hk;have:=s7.ext.size;omega),aQ.LN h4 (λhS=>by have e2:=cE b5 hS;omega),by have:=aQ.size;omega⟩
   generalize hA:([(Cd.gamma,succ.length)]++(if 0<p.Mh then [(Cd.unary,r)] else []):List (Cd×Nat))=A at oS ly s7
   have KO:A.length<=2:=by rw[<-hA];split<;>simp
   have uX:∀k,(FL k\/FR k)->k<w11.heap.size:=λk hk=>by
    rcases hk with e| e
    ·exact uW.lt e
    ·exact oR.lt e
   have oT:XY w w1 w11 p b5 n11 (λk=>FL k\/FR k) A w11:=by
    obtain⟨F5,h6,h7⟩:=s7.ex;have KP:=fL.size;refine⟨⟨F5,(h6.ext fL).kp aU (λk hk hS=>by have e1:=h6.lt hk;have e2:=cE k hS;omega),h7,λk hk hX=>?_⟩,oS.ext,oS.b5,oS.siz,Kp.refl _ _⟩;have e1:=h6.lt hk;rcases hX with e| e
    ·rcases Bg k e with e2|e2
     ·have:=cE k (.inl e2);omega
     ·omega
    ·rcases Bh k e with e2|e2
     ·have:=cE k (.inr e2);omega
     ·omega
   refine LO (run_seq (qN rfl (LM rfl (Nc rfl rfl (LO (MA (λe' w'=>e'=[(1,I (x:Int)),(5,ptr b5 0),(11,ptr n11 0),(12,.func (.func 195) #[] #[ptr n11 0]),(14,ptr lf 0)]/\XY w w1 w11 p b5 n11 (λk=>FL k\/FR k) (A++(if 0<r then(.gamma,(ND succ ref).length-1)::runNums 0 (ND succ ref).dropLast else [])) w') ?dJ (λdJ=>?eL)))))))
   case dJ =>
    rintro e' w12 ⟨rfl,iS⟩;have i8:succ≠[]:=λe=>e0 (by rw[e];rfl)
    generalize hB:(if 0<r then(Cd.gamma,(ND succ ref).length-1)::runNums 0 (ND succ ref).dropLast else []:List (Cd×Nat))=B at iS
    have uY:=uW.kp iS.kx (λk hk e=>e (.inl hk));obtain⟨vl,zh,KQ⟩:=uY;obtain⟨la,lc,rfl,-⟩:=zh.sl.rd.shape;obtain⟨F,⟨vn,qr,uZ⟩,oU,Bj⟩:=id iS.ex;have zi:=zh.LN;have zj:=qr.LN;refine run_seq (qN rfl (qV ((by first|exact LR Ml rfl rfl zi rfl|exact LR Ml rfl rfl zj rfl)) ?_));refine NX Ml rfl (NS rfl rfl (LO (LY rfl (λe3=>?_) (λe3=>?_))))
    ·have jB:leftOf succ ref=[]:=List.eq_nil_of_length_eq_zero (by omega)
     have iT:NW p x succ ref r=A++B:=by
      unfold NW;rw[if_neg i8,if_pos jB,List.append_nil,<-hA,<-hB];rfl
     refine qN rfl (qV ((by first|exact LR Wi rfl rfl zi rfl|exact LR Wi rfl rfl zj rfl)) ?_);refine LU rfl (LP Tryz.func175 rfl ?_);rw[iT];exact⟨_,rfl,qr.sl,λg hg=>by have:=oU g ((uZ g).2 (.inr hg));omega,iS.ext⟩
    ·have oV := iS.b5; replace oV : LX w12 b5 [I (p.Mh : Int), I (p.interval : Int), I (p.zeta : Int)] 245 := oV; refine py (qN rfl (qV ((by first | exact LR Ml rfl rfl zi rfl | exact LR Ml rfl rfl oV rfl)) ?_)); refine M0 Qx rfl (qV ((by first | exact LR U3 rfl rfl zi rfl | exact LR U3 rfl rfl oV rfl)) ?_); have au : Mw (leftOf succ ref) := hs.sub List.filter_sublist; have Hq := au.len
     have oe:(leftOf succ ref).length<=lc:=by
      rcases zh.sl.shape with⟨-,h0⟩|⟨g,c1,hv,fx⟩
      ·omega
      ·cases hv;exact fx
     refine Mb zco rfl (z7M la lc (leftOf succ ref) p.interval au oe (by omega) w12 zh.sl.rd) ?_;rintro _ w13 ⟨v4,v5,rfl,lz,mS,aO,oW,sd,Fp⟩;have dp:=QS p.interval (leftOf succ ref);have oX:Mw (rowsN p.interval (leftOf succ ref)).2:=au.sub dp
     have gj:∀k,(v4.ownBlock=some k\/v5.ownBlock=some k)->w12.heap.size<=k/\k<w13.heap.size:=λk hk=>by
      rcases hk with e| e
      ·exact⟨oW k e,lz.lt e⟩
      ·exact⟨sd k e,mS.lt e⟩
     have oY:XY w w1 w13 p b5 n11 (λk=>v4.ownBlock=some k\/v5.ownBlock=some k) (A++B) w13:=by
      have jz:∀k,F k->k<w12.heap.size:=λk hk=>by
       rcases (uZ k).1 hk with e| e
       ·rw[e];exact qr.LN.lt
       ·exact qr.sl.lt e
      have vd:ZW w12 n11 (A++B) F:=⟨vn,qr,uZ⟩;exact⟨⟨F,vd.ext aO,oU,λk hk hX=>by have e1:=jz k hk;have e2:=(gj k hX).1;omega⟩,iS.ext.trans aO,aO.LN iS.b5,by have e1:=iS.siz;have e2:=aO.size;omega,Kp.refl _ _⟩
     have ve:=aO.LN oV;have Hr:=lz.oneV;have Hs:=mS.oneV;refine LM rfl (MW rfl rfl (MW rfl rfl (M6 rfl (LU rfl (run_seq (qN rfl (M0 Qx rfl (qV (LR U3 rfl rfl ve rfl) (Nc rfl rfl (LO ?_))))))))))
     have Ht:(A++B).length<=200000:=by
      rw[List.length_append,<-hB];split
      ·rw[List.length_cons,Pp,List.length_dropLast];have h1:=(Ps succ ref).WL;rw[List.length_map] at h1;omega
      ·simp;omega
     generalize hQ:rowsN p.interval (leftOf succ ref)=Q at lz mS oX dp
     have KR : Q.1.length <= 65536 := by
      have h1:=PX p.interval (leftOf succ ref);have h2:=h1.length_eq;rw[hQ,List.length_append] at h2
      have h3:∀R:List (Nat×Nat),Pc p.interval 0 R->R.length<=(Nq R).length:=by
       have h4:∀(R:List (Nat×Nat)) (lo:Nat),Pc p.interval lo R->R.length<=(Nq R).length:=by
        intro R
        induction R with
        |nil=>intro lo h;exact Nat.le_refl _
        | cons q R ih =>
          intro lo h;have h5:=ih _ h.2.2.2;have h6:1<=q.2:=h.2.1;rw[show Nq (q::R)=(List.range q.2).map (q.1+·)++Nq R from rfl,List.length_append,List.length_map,List.length_range,List.length_cons];omega
       exact λR h=>h4 R 0 h
      have h5:=h3 _ (Ro p.interval (leftOf succ ref) 0 au.Xo (λy _=>Nat.zero_le _));rw[hQ] at h5;omega
     have oZ:Pc p.interval 0 Q.1:=by have h:=Ro p.interval (leftOf succ ref) 0 au.Xo (λy _=>Nat.zero_le _);rwa [hQ] at h
     have se:∀q∈Q.1,1<=q.2->q.1+q.2<=65536:=λq hq h1=>z6J (least:=p.interval) au.lt (by rw[hQ];exact hq) h1
     have vf:∃fa fc,v4= .slice fa Q.1.length fc:=by
      obtain⟨fa,fc,e,-⟩:=lz.rd.shape;exact⟨fa,fc,e⟩
     obtain⟨fa,fc,rfl⟩:=vf;refine MA (λe' w'=>e'=[(1,I (x:Int)),(5,ptr b5 0),(11,ptr n11 0),(12,.func (.func 195) #[] #[ptr n11 0]),(17,.slice fa Q.1.length fc),(18,v5)]/\XY w w1 w13 p b5 n11 (λk=>(Value.slice fa Q.1.length fc).ownBlock=some k\/v5.ownBlock=some k) (A++B++if 0<p.interval then [(.gamma,Q.1.length)] else []) w') ?av (λav=>?dr)
     case av =>
      rintro e' w14 ⟨rfl,vg⟩;refine qN rfl (LU rfl (run_seq (qN rfl (LM rfl (NX z6E rfl (LM rfl (LO (LK ?_))))))))
      generalize Bk:(if 0<p.interval then [(Cd.gamma,Q.1.length)] else []:List (Cd×Nat))=C0 at vg
      refine Ot (λe' w'=>e'=[(1,I (x:Int)),(5,ptr b5 0),(11,ptr n11 0),(12,.func (.func 195) #[] #[ptr n11 0]),(18,v5)]/\XY w w1 w13 p b5 n11 (λk=>(Value.slice fa Q.1.length fc).ownBlock=some k\/v5.ownBlock=some k) (A++B++C0++longNums x p.interval none Q.1) w') ?i6 (λi6=>?i7)
      case i6 =>
       rintro e' w15 ⟨rfl,fM⟩;obtain⟨F15,fN,lA,iU⟩:=fM.ex;have mT:=fM.b5;replace mT:LX w15 b5 [I (p.Mh:Int),I (p.interval:Int),I (p.zeta:Int)] 245:=mT;refine qN rfl (M0 Ww rfl (qV (LR U3 rfl rfl mT rfl) (qV ((by first|exact MH rfl U3 Ns (by omega)|exact Oc rfl U3 Ns)) ?_)));refine qV (OJ (cs:=[_,_]) Nk rfl za8 rfl rfl) (LV rfl rfl (O9 (cs:=[_,_]) Nk rfl) ?_);rintro _ w16 ⟨b22,rfl,Hu,cb,i9⟩;have z16:=cb.size;refine M1 rfl (MD (news:=[.int .u8 3,M7 p.zeta]) Nk rfl rfl rfl rfl i9 (by simp)) ?_;rintro w17 ⟨kI,dg⟩;replace kI:LX w17 b22 [.int .u8 3,M7 p.zeta] 298:=kI;have fi:Ext w15 w17:=cb.LJ dg (λk e=>by omega);have z17:=fi.size;have cQ:¬F15 b22:=λe=>by have:=fN.lt e;omega
       have ia:=(mS.kp fM.kx (λg hg e=>e (.inr hg))).ext fi
       obtain⟨ha,hc,e5⟩:∃a c,v5= .slice a Q.2.length c:=by
        obtain⟨fa,fc,e,-⟩:=mS.rd.shape;exact⟨fa,fc,e⟩
       subst e5;have lB:=(fM.ex2 fi).again (X':=λk=>(Value.slice ha Q.2.length hc).ownBlock=some k\/k=b22) (fN.ext fi) lA (λk hk hX=>by rcases hX with hX|e;exact iU k hk (.inr hX);exact cQ (e▸hk));have l22:=kI.lt
       have fj:∀k,((Value.slice ha Q.2.length hc).ownBlock=some k\/k=b22)->k<w17.heap.size:=λk hk=>by
        rcases hk with e| e
        ·have:=ia.lt e;omega
        ·omega
       have KS:=oX.len
       have Bl:(A++B++C0++longNums x p.interval none Q.1).length<=400000:=by
        rw[List.length_append,List.length_append,OL,<-Bk];split<;>simp only[List.length_cons,List.length_nil]<;>omega
       refine LO (run_seq (qN rfl (LM rfl (NX Ml rfl (LM rfl (LO (LK (Oe (α:=Nat) (0) (λi=>[(1,I (x:Int)),(11,ptr n11 0),(12,.func (.func 195) #[] #[ptr n11 0]),(18,.slice ha Q.2.length hc),(22,ptr b22 0),(138,.slice ha Q.2.length hc),(139,I (Q.2.length:Int)),(140,I (i:Int))]) (λi w'=>XY w w1 w17 p b5 n11 (λk=>(Value.slice ha Q.2.length hc).ownBlock=some k\/k=b22) (A++B++C0++longNums x p.interval none Q.1++restNums x p.zeta none (Q.2.take i)) w'/\i<=Q.2.length) (λi=>Q.2.length-i) ?hI ?hround))))))))
       case hI=>exact⟨by simpa[restNums] using lB,Nat.zero_le _⟩
       case hround=>
        rintro i w18 ⟨eP,hi⟩ ih
        try dsimp only
        refine qN rfl (Nr rfl rfl (LO (run_seq (LY rfl (λe5=>?_) (λe5=>?_)))))
        ·have dv:i<Q.2.length:=by omega
         obtain⟨v,hv⟩:∃v,Q.2[i]? =some v:=⟨_,List.getElem?_eq_getElem dv⟩;have vh:v<65536:=oX.lt v (List.mem_of_getElem? hv);have vm:=ia.kp eP.kx (λg hg e=>e (.inl hg))
         obtain⟨g5,c5,e6⟩:∃g c,Value.slice ha Q.2.length hc= .slice (some ⟨g,0,none⟩) Q.2.length c:=by
          rcases ia.shape with⟨-,h0⟩|⟨g,c,e,hc⟩
          ·omega
          ·exact⟨g,c,e⟩
         cases e6;obtain⟨F18,kJ,p5,gO⟩:=eP.ex;have vp:=eP.kx.LN kI (λe=>e (.inr rfl));have qs:¬F18 b22:=λe=>gO b22 e (.inr rfl);have hg:=Ext.Ma w18;have zk:=eP.ex2 hg
         have p8:(A++B++C0++longNums x p.interval none Q.1++restNums x p.zeta none (Q.2.take i)).length<=500000:=by
          rw[List.length_append,Pz,List.length_take];omega
         refine py (run_seq (LK (qN rfl (LM rfl (qV (MN Ml Mc rfl rfl (by omega)) (qV (Mt N5 rfl rfl (MX vm.rd (show(Q.2.map Ms)[i]? =some (Ms v) by rw[List.getElem?_map,hv];rfl))) ?_))))));refine M6 rfl (M6 rfl (qM rfl (LM rfl (NS rfl rfl (LO (LY rfl (λe6=>?_) (λe6=>?_)))))))
         ·have jO:i=0:=by omega
          refine NF (λw'=>Kp F18 w18 w') rfl (M9 0 rfl rfl (hg.kp) (M9 2 rfl rfl (hg.kp) (LS 3 rfl (MB rfl N5 U2 (by omega)) (hg.kp) (M9 4 rfl rfl (hg.kp) (LS 5 rfl (TF rfl rfl (by omega)) (hg.kp) (qT 1 rfl (λ_ h=>Mk (news:=[.int .u8 3,M7 p.zeta]) OK rfl Nk rfl ((h.LN vp qs).cells (n:=2) rfl) rfl) (hg.kp) (Pw 6 rfl z9t rfl (z43 ((v:Int)-x) (by omega) _) ?_)))))));rintro _ w19 ⟨rfl,rfl⟩;refine⟨hg.kp,?_⟩;have vt:=Vv (z:=(v:Int)-x) (n:=65537) (by omega) (by omega);refine LS 7 rfl (MB rfl Ns U3 (by omega)) (hg.kp) (qO 8 (SS (i:=8) rfl rfl rfl (OC US rfl rfl) (PG (kJ.ext hg) (by omega) (.zeta p.zeta) (ZQ ((v:Int)-x)) (by omega)) ?_));rintro _ w20 ⟨rfl,F20,sg,mU,sh⟩;refine⟨hg.kp.trans mU,?_⟩;have p9:=zk.put fj p5 gO l5 z1 ⟨F20,sg,mU,sh⟩;refine qE (LL (LQ rfl (MK rfl rfl (LM rfl (LO ((ih (i+1) _ ⟨?_,by omega⟩ (by omega)).qb))))));rw[MG hv,TA,<-List.append_assoc,show Q.2.take i=[] by rw[jO];rfl];rw[show Q.2.take i=[] by rw[jO];rfl] at p9;exact p9
         ·have jO:0<i:=by omega
          obtain⟨u,hu⟩:∃u,Q.2[i-1]? =some u:=⟨_,List.getElem?_eq_getElem (by omega)⟩
          have KT:u<v:=by
           obtain⟨a1,a2⟩:=List.getElem?_eq_some_iff.1 hu;obtain⟨b1,b2⟩:=List.getElem?_eq_some_iff.1 hv;have:=List.pairwise_iff_getElem.1 oX.Xo (i-1) i a1 b1 (by omega)
           rwa [a2,b2] at this
          refine NF (λw'=>Kp F18 w18 w') rfl (M9 0 rfl rfl (hg.kp) (M9 2 rfl rfl (hg.kp) (M9 3 rfl rfl (hg.kp) (M9 4 rfl rfl (hg.kp) (qT 1 rfl (λ_ h=>Mk (news:=[.int .u8 3,M7 p.zeta]) OK rfl Nk rfl ((h.LN vp qs).cells (n:=2) rfl) rfl) (hg.kp) (LS 5 rfl (TF rfl rfl (by omega)) (hg.kp) ?_))))));rw[show(i:Int)-1=((i-1:Nat):Int) by omega];refine LS 6 rfl (MN Ml Mc rfl rfl (by omega)) (hg.kp) (qT 7 rfl (λ_ hS=>Mt N5 rfl rfl (MX (vm.kp hS (λg hg e=>gO g e (.inl hg))).rd (show(Q.2.map Ms)[i-1]? =some (Ms u) by rw[List.getElem?_map,hu];rfl))) (hg.kp) ?_);refine LS 8 rfl (SM (m:=v) (n:=u) rfl rfl rfl (by show v<2^32;omega) (by omega)) (hg.kp) ?_;refine LS 9 rfl (SM (m:=v-u) (n:=1) rfl rfl rfl (by show v-u<2^32;omega) (by omega)) (hg.kp) ?_;refine LS 10 rfl (MB rfl N5 U3 (by omega)) (hg.kp) (qO 11 (SS (i:=11) rfl rfl rfl (OC US rfl rfl) (PG (kJ.ext hg) (by omega) (.zeta p.zeta) (v-u-1) (by omega)) ?_));rintro _ w20 ⟨rfl,F20,sg,mU,sh⟩;refine⟨hg.kp.trans mU,?_⟩;have p9:=zk.put fj p5 gO l5 z1 ⟨F20,sg,mU,sh⟩;refine qE (LL (LQ rfl (MK rfl rfl (LM rfl (LO ((ih (i+1) _ ⟨?_,by omega⟩ (by omega)).qb))))));rw[MG hv,TA,<-List.append_assoc,List.getLast?_take,if_neg (by omega),hu];exact p9
        ·have cR:i=Q.2.length:=by omega
         rw[cR,List.take_length] at eP;obtain⟨F,⟨vn,qr,uZ⟩,oU,Bj⟩:=id eP.ex;have zj:=qr.LN
         have iT:NW p x succ ref r=A++B++C0++longNums x p.interval none Q.1++restNums x p.zeta none Q.2:=by
          have jB:¬leftOf succ ref=[]:=λe=>e3 (by rw[e];rfl);unfold NW;rw[if_neg i8,if_neg jB,hQ,hB,<-hA,<-Bk];by_cases jO:0<p.interval
          ·simp only[if_pos jO,List.append_assoc,List.cons_append,List.nil_append]
          ·have cK:Q.1=[]:=by rw[<-hQ,show p.interval=0 by omega];exact TN _
           rw[cK];simp only[if_neg jO,List.append_assoc,List.cons_append,List.nil_append,longNums]
         refine LW rfl (qN rfl (qV (LR Wi rfl rfl zj rfl) (LU rfl (LP Tryz.func175 rfl ?_))));rw[iT];exact⟨_,rfl,qr.sl,λg hg=>by have:=oU g ((uZ g).2 (.inr hg));omega,eP.ext⟩
      case i7=>
       refine Oe (α:=Nat) (0) (λi=>[(1,I (x:Int)),(5,ptr b5 0),(11,ptr n11 0),(12,.func (.func 195) #[] #[ptr n11 0]),(18,v5),(19,I (z2A (UL (Q.1.take i)))),(94,.slice fa Q.1.length fc),(95,I (Q.1.length:Int)),(96,I (i:Int))]) (λi w'=>XY w w1 w13 p b5 n11 (λk=>(Value.slice fa Q.1.length fc).ownBlock=some k\/v5.ownBlock=some k) (A++B++C0++longNums x p.interval none (Q.1.take i)) w'/\i<=Q.1.length) (λi=>Q.1.length-i) ?hI ?hround
       case hI=>exact⟨by simpa[longNums] using vg,Nat.zero_le _⟩
       case hround =>
        rintro i w15 ⟨fM,hi⟩ ih
        try dsimp only
        refine qN rfl (Nr rfl rfl (LO (run_seq (LY rfl (λe5=>?_) (λe5=>?_)))))
        ·have dv:i<Q.1.length:=by omega
         obtain⟨⟨q1,q2⟩,hq⟩:∃q,Q.1[i]? =some q:=⟨_,List.getElem?_eq_getElem dv⟩;obtain⟨ok1,ok2,ok3,-⟩:=Vs Q.1 0 i (q1,q2) oZ hq;dsimp only at ok1 ok2 ok3;have KU:q1+q2<=65536:=se (q1,q2) (List.mem_of_getElem? hq) ok1;have Bm:=lz.kp fM.kx (λg hg e=>e (.inl hg))
         obtain⟨g4,c4,e4⟩:∃g c,Value.slice fa Q.1.length fc= .slice (some ⟨g,0,none⟩) Q.1.length c:=by
          rcases lz.shape with⟨-,h0⟩|⟨g,c,e,hc⟩
          ·omega
          ·exact⟨g,c,e⟩
         cases e4;obtain⟨F15,fN,lA,iU⟩:=fM.ex;refine py (run_seq (LK (qN rfl (qV (MN z6E XM rfl rfl (by omega)) (qV (Mk (news:=[I (q1:Int),I (q2:Int)]) zg3 rfl XM rfl (z6W Bm.rd hq) rfl) (LV rfl rfl (O9 (cs:=[_,_]) XM rfl) ?_))))));rintro _ w16 ⟨b21,rfl,Hv,cb,Bn⟩;have z16:=cb.size;refine M1 rfl (MD (news:=[I (q1:Int),I (q2:Int)]) XM rfl rfl rfl rfl Bn (by simp)) ?_;rintro w17 ⟨fO,dg⟩;replace fO:LX w17 b21 [I (q1:Int),I (q2:Int)] 325:=fO;have fi:Ext w15 w17:=cb.LJ dg (λk e=>by omega);have lB:=fM.ex2 fi;have cQ:¬F15 b21:=λe=>by have:=fN.lt e;omega
         have o6:¬F15 1:=λe=>by have:=lA 1 e;have:=hG.lt;omega
         have Bl:(A++B++C0++longNums x p.interval none (Q.1.take i)).length<=400000:=by
          rw[List.length_append,List.length_append,OL,List.length_take,<-Bk];split<;>simp only[List.length_cons,List.length_nil]<;>omega
         refine LO (run_seq (qN rfl (LM rfl (Nr rfl rfl (LO ?_)))));have qt:=lB.again (X':=(λk=>((Value.slice (some ⟨g4,0,none⟩) Q.1.length fc).ownBlock=some k\/v5.ownBlock=some k)\/k=b21)) (fN.ext fi) lA (λk hk hX=>by rcases hX with hX|e;exact iU k hk hX;exact cQ (e▸hk));have Hw:=fi.size;have l21:=fO.lt
         have fj:∀k,(((Value.slice (some ⟨g4,0,none⟩) Q.1.length fc).ownBlock=some k\/v5.ownBlock=some k)\/k=b21)->k<w17.heap.size:=λk hk=>by
          rcases hk with e| e
          ·have:=(gj k e).2;have:=fM.kx.size;omega
          ·omega
         refine MA (λe' w'=>e'=[(1,I (x:Int)),(5,ptr b5 0),(11,ptr n11 0),(12,.func (.func 195) #[] #[ptr n11 0]),(18,v5),(21,ptr b21 0),(94,.slice (some ⟨g4,0,none⟩) Q.1.length fc),(95,I (Q.1.length:Int)),(96,I (i:Int))]/\XY w w1 w17 p b5 n11 (λk=>((Value.slice (some ⟨g4,0,none⟩) Q.1.length fc).ownBlock=some k\/v5.ownBlock=some k)\/k=b21) (A++B++C0++longNums x p.interval none (Q.1.take i)++[(.gamma,R5 x (UL (Q.1.take i)) q1)]) w') ?dh (λdh=>?Bp)
         case dh=>
          rintro e' w18 ⟨rfl,eP⟩;obtain⟨F18,kJ,p5,gO⟩:=eP.ex;have qu:=eP.kx.LN fO (λe=>e (.inr rfl));have kK:=eP.b5;replace kK:LX w18 b5 [I (p.Mh:Int),I (p.interval:Int),I (p.zeta:Int)] 245:=kK;refine qN rfl (LM rfl (qV (Mk (news:=[.int .u8 1,M7 0]) OK rfl Nk rfl ((eP.ext.LN hG).cells (n:=2) rfl) rfl) (M0 z4h rfl (qV ((by first|exact LR U3 rfl rfl qu rfl|exact LR U3 rfl rfl kK rfl)) ?_))));refine M0 Qx rfl (qV ((by first|exact LR U3 rfl rfl qu rfl|exact LR U3 rfl rfl kK rfl)) ?_);refine NP rfl rfl ?_;rw[show(q2:Int)-(p.interval:Int)=((q2-p.interval:Nat):Int) by omega];refine Nj rfl rfl (OC US rfl rfl) (PG kJ (by rw[List.length_append,List.length_singleton];omega) .gamma (q2-p.interval) (by omega)) ?_;rintro _ w19 ⟨rfl,Bo⟩;have vw:=eP.put fj p5 gO l5 z1 Bo;have qv:=vw.kx.LN fO (λe=>e (.inr rfl));refine LO (LQ rfl (M0 ZD rfl (qV (LR U3 rfl rfl qv rfl) (M0 z4h rfl (qV (LR U3 rfl rfl qv rfl) (MK rfl rfl (NP rfl rfl (LU rfl (LL (LQ rfl (MK rfl rfl (LM rfl (LO ?_)))))))))))));rw[show(q1:Int)+q2-1=z2A (UL (Q.1.take (i+1))) by rw[MG hq,z4t];show _=((q1+q2-1:Nat):Int);omega];refine(ih (i+1) _ ⟨?_,by omega⟩ (by omega)).qb;rw[MG hq,Y5,<-List.append_assoc,show [(Cd.gamma,R5 x (UL (Q.1.take i)) q1),(Cd.gamma,q2-p.interval)]=[(Cd.gamma,R5 x (UL (Q.1.take i)) q1)]++[(Cd.gamma,q2-p.interval)] from rfl,<-List.append_assoc];exact lB.back vw (λk hk=> .inl hk)
         case Bp=>
          have hg:=Ext.Ma w17;have zk:=qt.ex2 hg
          cases hE:UL (Q.1.take i) with
          | none =>
            refine LY rfl (λe6=>?_) (λe6=>?_)
            ·refine NF (λw'=>Kp F15 w17 w') rfl (M9 0 rfl rfl (hg.kp) (LS 2 rfl (Mo ZD rfl) (hg.kp) (qT 3 rfl (λ_ h=>LR U3 rfl rfl (h.LN fO cQ) rfl) (hg.kp) (M9 4 rfl rfl (hg.kp) (LS 5 rfl (TF rfl rfl (by omega)) (hg.kp) (qT 1 rfl (λ_ hS=>Mk (news:=[.int .u8 1,M7 0]) OK rfl Nk rfl ((hS.LN (lB.ext.LN hG) o6).cells (n:=2) rfl) rfl) (hg.kp) (Pw 6 rfl z9t rfl (z43 ((q1:Int)-x) (by omega) _) ?_)))))));rintro _ w18 ⟨rfl,rfl⟩;refine⟨hg.kp,?_⟩;have vt:=Vv (z:=(q1:Int)-x) (n:=65537) (by omega) (by omega);refine LS 7 rfl (MB rfl Ns U3 (by omega)) (hg.kp) (qO 8 (SS (i:=8) rfl rfl rfl (OC US rfl rfl) (PG ((fN.ext fi).ext hg) (by omega) .gamma (ZQ ((q1:Int)-x)) (by omega)) ?_));rintro _ w19 ⟨rfl,F19,Bq,vx,Br⟩;refine⟨hg.kp.trans vx,?_⟩;refine qE ?_;exact(dh _ _ ⟨rfl,by rw[hE];exact zk.put fj lA (λk hk hX=>by rcases hX with hX|e;exact iU k hk hX;exact cQ (e▸hk)) l5 z1 ⟨F19,Bq,vx,Br⟩⟩).qb
            ·exact absurd (by decide) e6
          | some z =>
            refine LY rfl (λe6=>?_) (λe6=>?_)
            ·exact absurd e6 (by show ¬((z:Int)<0);omega)
            ·have hz:=ok3 z hE;refine LQ rfl (LM rfl (qV (Mk (news:=[.int .u8 1,M7 0]) OK rfl Nk rfl ((lB.ext.LN hG).cells (n:=2) rfl) rfl) ?_));rw[show z2A (some z)=(z:Int) from rfl];refine M0 ZD rfl (qV (LR U3 rfl rfl fO rfl) (LM rfl (NP rfl rfl (NP rfl rfl ?_))));rw[show(q1:Int)-z-2=((q1-z-2:Nat):Int) by omega];refine Nj rfl rfl (OC US rfl rfl) (PG (fN.ext fi) (by omega) .gamma (q1-z-2) (by omega)) ?_;rintro _ w18 ⟨rfl,Bs⟩;refine LO ?_;exact(dh _ _ ⟨rfl,by rw[hE];exact qt.put fj lA (λk hk hX=>by rcases hX with hX|e;exact iU k hk hX;exact cQ (e▸hk)) l5 z1 Bs⟩).qb
        ·have cR:i=Q.1.length:=by omega
         rw[cR,List.take_length] at fM;refine LW rfl ?_;exact(i6 _ _ ⟨rfl,fM⟩).qb
     case dr=>
      refine LY rfl (λe4=>?_) (λe4=>?_)
      ·have jO:0<p.interval:=by omega
       obtain⟨F13,mV,si,mW⟩:=oY.ex;refine LQ rfl (LM rfl (qV (Mk (news:=[.int .u8 1,M7 0]) OK rfl Nk rfl ((oY.ext.LN hG).cells (n:=2) rfl) rfl) (LM rfl (NX z6E rfl (Nj rfl rfl (OC US rfl rfl) (PG mV (by omega) .gamma Q.1.length (by omega)) ?_)))));rintro _ w14 ⟨rfl,sj⟩;refine LO (Mn.qb (e:=[(1,_),(5,_),(11,_),(12,_),(17,_),(18,_)]) ?_);exact(av _ _ ⟨rfl,by rw[if_pos jO];exact oY.put (λk hk=>(gj k hk).2) si mW l5 z1 sj⟩).qb
      ·have jO:¬0<p.interval:=by omega
       refine py ?_;exact(av _ _ ⟨rfl,by rw[if_neg jO,List.append_nil];exact oY⟩).qb
   case eL =>
    refine LY rfl (λe2=>?_) (λe2=>?_)
    ·have sk : 0 < r := by omega
     have pa:=Ps succ ref;rw[if_pos sk] at dJ
     generalize ND succ ref=rs at pa oR dJ
     obtain⟨l,m,rfl⟩:∃l m,rs=l++[m]:=⟨rs.dropLast,rs.getLast pa.ne,(List.dropLast_concat_getLast pa.ne).symm⟩;have sn:(l++[m]).length=l.length+1:=by simp
     have eT:l.length<=65537:=by have h1:=pa.WL;rw[List.length_map,sn] at h1;omega
     rw[List.dropLast_concat,sn,Nat.add_sub_cancel] at dJ;obtain⟨vr,zm,Fr⟩:=id oR;rw[sn] at zm;rcases zm.sl.shape with⟨-,h0⟩|⟨g,c1,rfl,fx⟩
     ·omega
     have Fs:=zm.LN;obtain⟨F,vd,hf,Hx⟩:=oT.ex;refine qN rfl (LM rfl (qV (Mk (news:=[.int .u8 1,M7 0]) OK rfl Nk rfl ((oT.ext.LN hG).cells (n:=2) rfl) rfl) (qV (LR NQ rfl rfl Fs rfl) (NX NQ rfl (NP rfl rfl ?_)))));rw[show((l.length+1:Nat):Int)-1=(l.length:Int) by omega];refine Nj rfl rfl (OC US rfl rfl) (PG vd (by omega) .gamma l.length (by omega)) ?_;rintro _ w12 ⟨rfl,Bt⟩;have ib:=oT.put uX hf Hx l5 z1 Bt;have Ft:=oR.kp ib.kx (λk hk e=>e (.inr hk));have qw:=ib.kx.LN Fs (λe=>e (.inr ((Fr rn).2 (.inl rfl))));refine qM rfl (qV (LR NQ rfl rfl qw rfl) ?_);rw[show((l.length+1:Nat):Int)=((l.length+1:Nat):Int) from rfl];refine qV (LR NQ rfl rfl qw rfl) (NX NQ rfl (NP rfl rfl ?_));rw[show((l.length+1:Nat):Int)-1=(l.length:Int) by omega];refine qV (z8j NQ MO rfl rfl (by omega)) (NX NQ rfl (LM rfl (LO (Mn.qb (e:=[(1,_),(5,_),(11,_),(12,_),(14,_),(60,_),(61,_),(62,_)]) ?_))));refine LK (Oe (α:=Nat) (0) (λi=>[(1,I (x:Int)),(5,ptr b5 0),(11,ptr n11 0),(12,.func (.func 195) #[] #[ptr n11 0]),(14,ptr lf 0),(60,.slice (some ⟨g,0,none⟩) l.length c1),(61,I (l.length:Int)),(62,I (i:Int))]) (λi w'=>XY w w1 w11 p b5 n11 (λk=>FL k\/FR k) (A++(Cd.gamma,l.length)::runNums 0 (l.take i)) w'/\i<=l.length) (λi=>l.length-i) ?hI ?hround)
     case hI=>exact⟨ib,Nat.zero_le _⟩
     case hround =>
      rintro i w13 ⟨lC,hi⟩ ih
      try dsimp only
      refine qN rfl (Nr rfl rfl (LO (run_seq (LY rfl (λe3=>?_) (λe3=>?_)))))
      ·have dv:i<l.length:=by omega
       obtain⟨F13,mV,si,mW⟩:=lC.ex;have Bu:=zm.sl.kp lC.kx (λg2 hg e=>e (.inr ((Fr g2).2 (.inr hg))));have gu:(l++[m])[i]? =some l[i]:=by rw[List.getElem?_append_left dv,List.getElem?_eq_getElem dv]
       have gX:min i 1<=l[i]:=by
        rcases Nat.eq_zero_or_pos i with e| e
        ·omega
        ·have h1:=pa.pos l[i] (by
          rw[List.mem_iff_getElem?];refine⟨i-1,?_⟩
          rw[List.getElem?_drop,show 1+(i-1)=i by omega];exact gu)
         omega
       have jB:l[i]<=65536:=by
        have h1:=pa.le l[i] (List.mem_append_left _ (List.getElem_mem dv));rw[List.length_map] at h1;omega
       refine py (run_seq (LK (qN rfl (LM rfl (qV (MN NQ MO rfl rfl (by omega)) (qV (Mt U3 rfl rfl (MX Bu.rd (show((l++[m]).map z2K)[i]? =some (z2K l[i]) by rw[List.getElem?_map,gu];rfl))) ?_))))));refine M6 rfl (LU rfl (LQ rfl (LM rfl (qV (Mk (news:=[.int .u8 1,M7 0]) OK rfl Nk rfl ((lC.ext.LN hG).cells (n:=2) rfl) rfl) (M4 rfl rfl (qV (ymi rfl rfl) (NP rfl rfl ?_)))))));rw[show(l[i]:Int)-min (i:Int) 1=((l[i]-min i 1:Nat):Int) by omega];refine Nj rfl rfl (OC US rfl rfl) (PG mV (by have h1:(runNums 0 (l.take i)).length=i:=(by rw[Pp,List.length_take];omega);rw[List.length_append,List.length_cons];omega) .gamma (l[i]-min i 1) (by omega)) ?_;rintro _ w14 ⟨rfl,sj⟩;have Bv:=lC.put uX si mW l5 z1 sj;refine LO (LL (LQ rfl (MK rfl rfl (LM rfl (LO ((ih (i+1) _ ⟨?_,by omega⟩ (by omega)).qb))))));rw[List.take_succ,List.getElem?_eq_getElem dv,Option.toList_some,UC,List.length_take,Nat.min_eq_left hi,Nat.zero_add,<-List.cons_append,<-List.append_assoc];exact Bv
      ·have cR:i=l.length:=by omega
       subst cR;rw[List.take_length] at lC;refine LW rfl ?_;exact(dJ _ _ ⟨rfl,lC⟩).qb
    ·have sk:¬0<r:=by omega
     refine py ?_;exact(dJ _ _ ⟨rfl,by rw[if_neg sk,List.append_nil];exact oT⟩).qb
  case cM=>
   refine LY rfl (λe1=>?_) (λe1=>?_)
   ·have mI:0<p.Mh:=by omega
    obtain⟨F,vd,hf⟩:=ud.ex;refine LQ rfl (LM rfl (qV (Mk (news:=[.int .u8 0,M7 0]) OK rfl Nk rfl ((ud.ext.LN hU).cells (n:=2) rfl) rfl) (LM rfl (Nj rfl rfl (OC US rfl rfl) (PG vd (by simp) .unary r (by omega)) ?_))));rintro _ w5 ⟨rfl,sq⟩;refine LO (Mn.qb (e:=[(1,_),(2,_),(3,_),(4,_),(5,_),(10,_),(11,_),(12,_)]) ?_);exact(cu _ _ ⟨rfl,by rw[if_pos mI];exact ud.put hf l5 z1 sq⟩).qb
   ·have mI:¬0<p.Mh:=by omega
    refine py ?_;exact(cu _ _ ⟨rfl,by rw[if_neg mI];exact ud⟩).qb
/-! ### The numbers can be encoded -/
def TH (k:Nat)(q:Cd×Nat):Prop:=(q.1= .unary/\q.2<=16)\/(q.1= .gamma/\q.2<=200000)\/(q.1= .zeta k/\q.2<=200000)
theorem Xc (k:Nat):∀(l:List Nat) (i:Nat),(∀n∈l,n<=65536)->∀q∈runNums i l,TH k q
 |[],i,h,q,hq=>by cases hq
 | n :: l, i, h, q, hq => by
   rw[runNums] at hq;rcases List.mem_cons.1 hq with e|hq
   ·subst e;have:=h n List.mem_cons_self;exact .inr (.inl ⟨rfl,by dsimp only;omega⟩)
   ·exact Xc k l (i+1) (λn hn=>h n (List.mem_cons_of_mem _ hn)) q hq
theorem VJ (k x least:Nat)(hx:x<65536):∀(R:List (Nat×Nat)) (e:Option Nat),(∀q∈R,q.1+q.2<=65536)->∀q∈longNums x least e R,TH k q
 |[],e,h,q,hq=>by cases e<;>cases hq
 | p :: R, e, h, q, hq => by
   have hp:=h p List.mem_cons_self;rw[O6] at hq;rcases List.mem_cons.1 hq with e1|hq
   ·subst e1;refine .inr (.inl ⟨rfl,?_⟩)
    cases e with
    |none=>have:=Vv (z:=(p.1:Int)-x) (n:=65537) (by omega) (by omega);show ZQ _<=_;omega
    |some z=>show p.1-z-2<=_;omega
   ·rcases List.mem_cons.1 hq with e1|hq
    ·subst e1;exact .inr (.inl ⟨rfl,by dsimp only;omega⟩)
    ·exact VJ k x least hx R _ (λq hq=>h q (List.mem_cons_of_mem _ hq)) q hq
theorem W7 (k x:Nat)(hx:x<65536):∀(l:List Nat) (e:Option Nat),(∀n∈l,n<65536)->∀q∈restNums x k e l,TH k q
 |[],e,h,q,hq=>by cases e<;>cases hq
 | v :: l, e, h, q, hq => by
   have hv:=h v List.mem_cons_self;rw[P6] at hq;rcases List.mem_cons.1 hq with e1|hq
   ·subst e1;refine .inr (.inr ⟨rfl,?_⟩)
    cases e with
    |none=>have:=Vv (z:=(v:Int)-x) (n:=65537) (by omega) (by omega);show ZQ _<=_;omega
    |some u=>show v-u-1<=_;omega
   ·exact W7 k x hx l _ (λn hn=>h n (List.mem_cons_of_mem _ hn)) q hq
theorem z0g {least:Nat}{l:List Nat}(h:Mw l):(rowsN least l).1.length<=65536:=by
 have h1:=(PX least l).length_eq
 rw[List.length_append] at h1
 have h4:∀(R:List (Nat×Nat)) (lo:Nat),Pc least lo R->R.length<=(Nq R).length:=by
  intro R
  induction R with
  |nil=>intro lo h;exact Nat.le_refl _
  | cons q R ih =>
    intro lo h;have h5:=ih _ h.2.2.2;have h6:1<=q.2:=h.2.1;rw[show Nq (q::R)=(List.range q.2).map (q.1+·)++Nq R from rfl,List.length_append,List.length_map,List.length_range,List.length_cons];omega
 have h5:=h4 _ 0 (Ro least l 0 h.Xo (λy _=>Nat.zero_le _))
 have:=h.len
 omega
theorem z44 {least:Nat}{l:List Nat}(h:Mw l):∀q∈(rowsN least l).1,1<=q.2/\q.1+q.2<=65536:=λq hq=>by
 obtain⟨i,hi⟩:=List.mem_iff_getElem?.1 hq
 have h1:=(Vs _ 0 i q (Ro least l 0 h.Xo (λy _=>Nat.zero_le _)) hi).1
 exact⟨h1,z6J h.lt hq h1⟩
theorem Wn {p:Oq}(hp:p.N4){x:Nat}(hx:x<65536){succ ref:List Nat}(hs:Mw succ)(hr:Mw ref){r:Nat}(iR:r<=p.Mh):∀q∈NW p x succ ref r,TH p.zeta q:=by
 obtain⟨g1,g2,g3,g4⟩:=id hp
 have au:Mw (leftOf succ ref):=hs.sub List.filter_sublist
 intro q hq
 unfold NW at hq
 have fK:=hs.len
 rcases List.mem_cons.1 hq with e|hq
 ·subst e;exact .inr (.inl ⟨rfl,by dsimp only;omega⟩)
 split at hq
 ·cases hq
 rcases List.mem_append.1 hq with hq|hq
 ·split at hq
  ·rcases List.mem_singleton.1 hq with e;subst e;exact .inl ⟨rfl,by dsimp only;omega⟩
  ·cases hq
 rcases List.mem_append.1 hq with hq|hq
 ·have pa:=Ps succ ref;have hl:=pa.WL;have gM:=hr.len;rw[List.length_map] at hl;split at hq
  ·rcases List.mem_cons.1 hq with e|hq
   ·subst e;exact .inr (.inl ⟨rfl,by dsimp only;omega⟩)
   ·refine Xc _ _ _ (λn hn=>?_) q hq;have:=pa.le n (List.dropLast_subset _ hn);rw[List.length_map] at this;omega
  ·cases hq
 split at hq
 ·cases hq
 rcases List.mem_append.1 hq with hq|hq
 ·split at hq
  ·rcases List.mem_cons.1 hq with e|hq
   ·subst e;have:=z0g (least:=p.interval) au;exact .inr (.inl ⟨rfl,by dsimp only;omega⟩)
   ·exact VJ _ _ _ hx _ _ (λq hq=>(z44 au q hq).2) q hq
  ·cases hq
 ·exact W7 _ _ hx _ _ (λn hn=>au.lt n ((QS p.interval _).subset hn)) q hq
theorem z32 (succ ref:List Nat)(hr:Mw ref):(ND succ ref).length<=65537:=by
 have hl:=(Ps succ ref).WL
 rw[List.length_map] at hl
 have:=hr.len
 omega
theorem z1j {p:Oq}{x:Nat}{succ ref:List Nat}(hs:Mw succ)(hr:Mw ref){r:Nat}:(NW p x succ ref r).length<=500000:=by
 have au:Mw (leftOf succ ref):=hs.sub List.filter_sublist
 have h1:=z32 succ ref hr
 have h2:=z0g (least:=p.interval) au
 have h3:=(au.sub (QS p.interval (leftOf succ ref))).len
 unfold NW
 rw[List.length_cons]
 split
 ·simp
 rw[List.length_append,List.length_append]
 have e1:(if 0<p.Mh then [(Cd.unary,r)] else []).length<=1:=by split<;>simp
 have e2:(if 0<r then(Cd.gamma,(ND succ ref).length-1)::runNums 0 (ND succ ref).dropLast else []).length<=65537:=by
  split
  ·rw[List.length_cons,Pp,List.length_dropLast];omega
  ·simp
 have e3:(if leftOf succ ref=[] then [] else(if 0<p.interval then(Cd.gamma,(rowsN p.interval (leftOf succ ref)).1.length)::longNums x p.interval none (rowsN p.interval (leftOf succ ref)).1 else [])++restNums x p.zeta none (rowsN p.interval (leftOf succ ref)).2).length<=200000:=by
  split
  ·simp
  ·rw[List.length_append,Pz];split
   ·rw[List.length_cons,OL];omega
   ·simp;omega
 omega
theorem TH.N4 {k:Nat}{q:Cd×Nat}(h:TH k q)(hk:1<=k/\k<=16):q.1.N4/\q.2<=q.1.most:=by
 rcases h with⟨e,h⟩|⟨e,h⟩|⟨e,h⟩
 ·rw[e];exact⟨trivial,by simp only[Cd.most];omega⟩
 ·rw[e];exact⟨trivial,by simp only[Cd.most];omega⟩
 ·rw[e];exact⟨hk,by simp only[Cd.most];omega⟩
theorem Z6 {c:Cd}{v:Nat}(hc:c.N4)(hv:v<=c.most):(c.enc v).length<=65600:=by
 obtain⟨q1,q2,-⟩:=Tn hc hv
 rw[T3];omega
theorem z6f {L:List (Cd×Nat)}(h:∀q∈L,q.1.N4/\q.2<=q.1.most):(Mf L).length<=65600*L.length:=by
 induction L with
 |nil=>simp[Mf]
 | cons q L ih =>
   have h1:=ih (λq hq=>h q (List.mem_cons_of_mem _ hq));obtain⟨h2,h3⟩:=h q List.mem_cons_self;have h4:=Z6 h2 h3;obtain⟨c,v⟩:=q;rw[MI,List.length_append,List.length_cons];dsimp only at h4⊢;omega
theorem OR (a b:List (Cd×Nat)):Mf (a++b)=Mf a++Mf b:=List.flatMap_append
theorem U1 (l:List (Cd×Nat))(q:Cd×Nat):Mf (l++[q])=Mf l++q.1.enc q.2:=by
 rw[OR];simp[Mf]
/-! ### An element of a slice of structs -/
theorem XB {α:Type}{f:α->List Value}{k:Nat}(hk:∀a,(f a).length=k){w:World}{b off n cap i:Nat}{R:List α}{q:α}(h:Rd w (.slice (some ⟨b,off,none⟩) n cap) k n (R.flatMap f))(hq:R[i]? =some q):∀j u,(f q)[j]? =some u->w.cell? ⟨b,off+i*k+j,none⟩=some u:=by
 intro j u hj
 have kD:j<k:=by have:=(List.getElem?_eq_some_iff.1 hj).1;rwa [hk] at this
 have key : ∀ (R : List α) (i : Nat), R[i]? = some q -> (R.flatMap f)[i * k + j]? = some u := by
  intro R
  induction R with
  |nil=>intro i h;simp at h
  | cons a R ih =>
    intro i h;rw[List.flatMap_cons]
    cases i with
    | zero =>
      rw[List.getElem?_cons_zero] at h;cases h;rw[List.getElem?_append_left (by rw[hk];omega),Nat.zero_mul,Nat.zero_add]
      exact hj
    | succ i =>
      rw[List.getElem?_append_right (by rw[hk,Nat.add_mul];omega),hk,show(i+1)*k+j-k=i*k+j by rw[Nat.add_mul];omega];exact ih i h
 have kG:=key R i hq
 have aP:=(List.getElem?_eq_some_iff.1 kG).1
 rcases h.2 with⟨c,hc,h0⟩|⟨b',off',cap',e,hc⟩
 ·rw[h.1,h0,Nat.zero_mul] at aP;omega
 ·cases e;have:=hc (i*k+j) u kG;rw[show off+i*k+j=off+(i*k+j) by omega];exact this
theorem z1v (q:Cd×Nat):(z2Y q).length=3:=by
 obtain⟨c,v⟩:=q
 cases c<;>rfl
theorem RE {w:World}(p:Oq)(hp:p.N4)(x:Nat)(hx:x<65536){sa ra:Option Addr}{sc rc:Nat}(succ ref:List Nat)(hs:Mw succ)(hr:Mw ref)(r:Nat)(iR:r<=p.Mh)(lh:r=0->ref=[])
  (hG:LX w 1 (OU .gamma) 298) (hU:LX w 2 (OU .unary) 298) (eg:Rd w (.slice sa succ.length sc) 1 succ.length (succ.map Ms)) (iD:Rd w (.slice ra ref.length rc) 1 ref.length (ref.map Ms)) (gK:succ.length<=sc) (mP:ref.length<=rc):
  Mm Tryz.prog 136 [I (x:Int),.slice sa succ.length sc,.slice ra ref.length rc,I (r:Int),lpV p] w λu w'=>u= .tuple #[I ((Mf (NW p x succ ref r)).length:Int),I 0]/\Ext w w':=by
 obtain⟨g1,g2,g3,g4⟩:=id hp
 have au:=λq hq=>(Wn hp hx hs hr iR q hq).N4 ⟨g3,g4⟩
 have eT:=z1j (p:=p) (x:=x) (r:=r) hs hr
 refine It (e:=[(0,_),(1,_),(2,_),(3,_),(4,_)]) Tryz.func136 rfl Tryz.ntmps136 rfl rfl (qN rfl (LV rfl rfl (NN rfl (cs:=Wg p) rfl) ?_))
 rintro _ w1 ⟨b9,rfl,o8,ad,cB⟩
 replace cB:LX w1 b9 [I (p.Mh:Int),I (p.interval:Int),I (p.zeta:Int)] 245:=cB
 refine M6 rfl (LU rfl (run_seq (qN rfl (qV (Mk (news:=Wg p) VH rfl Qr rfl (cB.cells (n:=3) rfl) rfl) (M4 rfl rfl (M4 rfl rfl (Mb zdK rfl (z66 p hp x hx _ _ succ ref r hs hr iR lh w1 (eg.ext ad) (iD.ext ad)) ?_)))))))
 rintro _ w2 ⟨rfl,af⟩
 refine qV ((by first|exact ML rfl|exact Oh rfl)) ?_
 refine LO (An rfl (py (qN rfl (LU rfl (run_seq (qN rfl (qV (Mk (news:=Wg p) VH rfl Qr rfl ((af.LN cB).cells (n:=3) rfl) rfl) ?_)))))))
 have aD:=ad.trans af
 refine M4 rfl rfl (M4 rfl rfl (Mb zaa rfl (Uq p hp x hx succ ref hs hr r iR lh (aD.LN hG) (aD.LN hU) (eg.ext aD) (iD.ext aD) gK mP) ?_))
 rintro v w3 ⟨cO,pd,ah⟩
 have aO:=aD.trans ah
 generalize NW p x succ ref r=L at au eT cO
 obtain⟨va,vc,rfl,-⟩:=cO.rd.shape
 refine NX Wi rfl (LM rfl (LO (LK (Oe (α:=Nat) (0) (λi=>[(12,I ((Mf (L.take i)).length:Int)),(29,.slice va L.length vc),(30,I (L.length:Int)),(31,I (i:Int))]) (λi w'=>Ext w3 w'/\i<=L.length) (λi=>L.length-i) ?hI ?hround))))
 case hI=>exact⟨Ext.refl _,Nat.zero_le _⟩
 case hround=>
  rintro i w4 ⟨aC,hi⟩ ih
  try dsimp only
  refine qN rfl (Nr rfl rfl (LO (run_seq (LY rfl (λh0=>?_) (λh0=>?_)))))
  ·have dv:i<L.length:=by omega
   obtain⟨⟨c,v⟩,hq⟩:∃q,L[i]? =some q:=⟨_,List.getElem?_eq_getElem dv⟩;obtain⟨ue,mu⟩:=au _ (List.mem_of_getElem? hq);dsimp only at ue mu
   obtain⟨g,c5,e4⟩:∃g c,Value.slice va L.length vc= .slice (some ⟨g,0,none⟩) L.length c:=by
    rcases cO.shape with⟨-,h0⟩|⟨g,c,e,hc⟩
    ·omega
    ·exact⟨g,c,e⟩
   cases e4;have jP:=XB z1v (cO.ext aC).rd hq;obtain⟨y,z,sr⟩:∃y z,OU c=[y,z]:=by cases c<;>exact⟨_,_,rfl⟩
   have qk:Zq c= .agg [y,z].toArray:=by rw[Zq,sr]
   have je:z2Y (c,v)=[y,z,M7 v]:=by show OU c++_=_;rw[sr];rfl
   rw[je] at jP;have dU:=z0U c v ue mu;rw[qk] at dU;have vy:oneV y=true/\oneV z=true:=by cases c<;>(cases sr;exact⟨rfl,rfl⟩)
   have ff:=z6f (L:=L.take i) (λq hq=>au q (List.mem_of_mem_take hq));rw[List.length_take] at ff;have nW:=Z6 ue mu;refine py (run_seq (LK (qN rfl (qV (MN Wi RR rfl rfl (by omega)) (qV (Mk (news:=[y,z,M7 v]) zcK rfl RR rfl jP rfl) (LV rfl rfl (O9 (cs:=[_,_,_]) RR rfl) ?_))))));rintro _ w5 ⟨b14,rfl,mX,aT,cY⟩;refine M1 rfl (MD (news:=[y,z,M7 v]) RR rfl rfl (by simp[vy.1,vy.2];rfl) rfl cY (by simp)) ?_;rintro w6 ⟨er,aR⟩;replace er:LX w6 b14 [y,z,M7 v] 300:=er;have z5:=aT.size;have aN:Ext w4 w6:=aT.LJ aR (λk e=>by omega);refine qM rfl (M0 z3o rfl (qV (Mk (news:=[y,z]) OK rfl Nk rfl (er.cells (n:=2) rfl) rfl) (M0 z3S rfl (qV (LR Ns rfl rfl er rfl) (Mb z9C rfl (dU w6) ?_)))));rintro _ w7 ⟨rfl,bQ⟩;refine LM rfl (MW rfl rfl (MW rfl rfl (M6 rfl (LU rfl (LQ rfl (M4 rfl rfl (MK rfl rfl (LU rfl (LL (LQ rfl (MK rfl rfl (LM rfl (LO ?_)))))))))))));rw[show((Mf (L.take i)).length:Int)+((c.enc v).length:Int)=((Mf (L.take (i+1))).length:Int) by rw[MG hq,U1,List.length_append];dsimp only;omega];exact(ih (i+1) _ ⟨(aC.trans aN).trans bQ,by omega⟩ (by omega)).qb
  ·have cR:i=L.length:=by omega
   rw[cR,List.take_length];refine LW rfl (qN rfl (LM rfl (M6 rfl (LU rfl (LP Tryz.func136 rfl ?_)))));exact⟨_,rfl,rfl,aO.trans aC⟩
theorem VO {w:World}{wp:Nat}{bs:List Bool}{F:Nat->Prop}(h:UH w wp bs F)(p:Oq)(hp:p.N4)(x:Nat)(hx:x<65536){sa ra:Option Addr}{sc rc:Nat}(succ ref:List Nat)(hs:Mw succ)(hr:Mw ref)(r:Nat)(iR:r<=p.Mh)(lh:r=0->ref=[])
  (hG:LX w 1 (OU .gamma) 298) (hU:LX w 2 (OU .unary) 298) (eg:Rd w (.slice sa succ.length sc) 1 succ.length (succ.map Ms)) (iD:Rd w (.slice ra ref.length rc) 1 ref.length (ref.map Ms)) (gK:succ.length<=sc) (mP:ref.length<=rc)
  (hl:bs.length+(Mf (NW p x succ ref r)).length<=134217728):
  Mm Tryz.prog 139 [ptr wp 0,I (x:Int),.slice sa succ.length sc,.slice ra ref.length rc,I (r:Int),lpV p] w λu w'=>u=I 0/\WrR wp F w w' (bs++Mf (NW p x succ ref r)):=by
 obtain⟨g1,g2,g3,g4⟩:=id hp
 have au:=λq hq=>(Wn hp hx hs hr iR q hq).N4 ⟨g3,g4⟩
 have eT:=z1j (p:=p) (x:=x) (r:=r) hs hr
 refine It (e:=[(0,_),(1,_),(2,_),(3,_),(4,_),(5,_)]) Tryz.func139 rfl Tryz.ntmps139 rfl rfl (qN rfl (LV rfl rfl (NN rfl (cs:=Wg p) rfl) ?_))
 rintro _ w1 ⟨b9,rfl,o8,ad,cB⟩
 replace cB:LX w1 b9 [I (p.Mh:Int),I (p.interval:Int),I (p.zeta:Int)] 245:=cB
 refine LU rfl (run_seq (qN rfl (LM rfl (qV (MU Zo rfl rfl) (LO (An rfl (py (qN rfl (M4 rfl rfl (M4 rfl rfl (qV (Mk (news:=Wg p) VH rfl Qr rfl (cB.cells (n:=3) rfl) rfl) (Mb z1g rfl (RE p hp x hx succ ref hs hr r iR lh (ad.LN hG) (ad.LN hU) (eg.ext ad) (iD.ext ad) gK mP) ?_))))))))))))
 rintro _ w2 ⟨rfl,af⟩
 have aD:=ad.trans af
 have h2:=h.ext aD
 refine LM rfl (MW rfl rfl (MW rfl rfl (M6 rfl (LU rfl (run_seq (LK (qN rfl (LM rfl (MY rfl rfl (LU rfl (An rfl (qN rfl (M4 rfl rfl ?_)))))))))))))
 refine Mb Yz rfl (RS h2) ?_
 rintro _ w2 ⟨rfl,rfl⟩
 refine NP rfl rfl (Nc rfl rfl (LU rfl (Mn.qb (e:=[(0,_),(1,_),(2,_),(3,_),(4,_),(11,_),(12,_),(32,_)]) ?_)))
 refine LY rfl (λe0=>?_) (λe0=>?_)
 ·omega
 ·refine py (LL (run_seq (qN rfl (qV (Mk (news:=Wg p) VH rfl Qr rfl ((af.LN cB).cells (n:=3) rfl) rfl) (M4 rfl rfl (M4 rfl rfl (Mb zaa rfl (Uq p hp x hx succ ref hs hr r iR lh (aD.LN hG) (aD.LN hU) (eg.ext aD) (iD.ext aD) gK mP) ?_)))))));rintro v w3 ⟨cO,pd,ah⟩;have aO:=aD.trans ah;have h3:=h.ext aO;have z12:=aD.size;have z3:=ah.size;have jz:∀k,F k->k<w.heap.size:=λk hk=>h.lt hk
  generalize NW p x succ ref r=L at au eT cO hl
  obtain⟨va,vc,rfl,-⟩:=cO.rd.shape;refine NX Wi rfl (LM rfl (LO (LK (Oe (α:=Nat) (0) (λi=>[(0,ptr wp 0),(43,.slice va L.length vc),(44,I (L.length:Int)),(45,I (i:Int))]) (λi w'=>WrR wp F w3 w' (bs++Mf (L.take i))/\i<=L.length) (λi=>L.length-i) ?hI ?hround))))
  case hI=>exact⟨⟨F,by simpa[Mf] using h3,Kp.refl _ _,λk hk=> .inl hk⟩,Nat.zero_le _⟩
  case hround=>
   rintro i w4 ⟨⟨F4,lD,ax,oW⟩,hi⟩ ih
   try dsimp only
   refine qN rfl (Nr rfl rfl (LO (run_seq (LY rfl (λh0=>?_) (λh0=>?_)))))
   ·have dv:i<L.length:=by omega
    obtain⟨⟨c,v⟩,hq⟩:∃q,L[i]? =some q:=⟨_,List.getElem?_eq_getElem dv⟩;obtain⟨ue,mu⟩:=au _ (List.mem_of_getElem? hq);dsimp only at ue mu
    obtain⟨g,c5,e4⟩:∃g c,Value.slice va L.length vc= .slice (some ⟨g,0,none⟩) L.length c:=by
     rcases cO.shape with⟨-,h0⟩|⟨g,c,e,hc⟩
     ·omega
     ·exact⟨g,c,e⟩
    cases e4;have ee:=cO.kp ax (λg hg e=>by have:=pd g hg;have:=jz g e;omega);have jP:=XB z1v ee.rd hq;obtain⟨y,z,sr⟩:∃y z,OU c=[y,z]:=by cases c<;>exact⟨_,_,rfl⟩
    have qk:Zq c= .agg [y,z].toArray:=by rw[Zq,sr]
    have je:z2Y (c,v)=[y,z,M7 v]:=by show OU c++_=_;rw[sr];rfl
    rw[je] at jP;have vy:oneV y=true/\oneV z=true:=by cases c<;>(cases sr;exact⟨rfl,rfl⟩)
    refine py (run_seq (LK (qN rfl (qV (MN Wi RR rfl rfl (by omega)) (qV (Mk (news:=[y,z,M7 v]) zcK rfl RR rfl jP rfl) (LV rfl rfl (O9 (cs:=[_,_,_]) RR rfl) ?_))))));rintro _ w5 ⟨b14,rfl,mX,aT,cY⟩;refine M1 rfl (MD (news:=[y,z,M7 v]) RR rfl rfl (by simp[vy.1,vy.2];rfl) rfl cY (by simp)) ?_;rintro w6 ⟨er,aR⟩;replace er:LX w6 b14 [y,z,M7 v] 300:=er;have z5:=aT.size;have aN:Ext w4 w6:=aT.LJ aR (λk e=>by omega);have z6:=aN.size;have z4:=ax.size
    have jB:(bs++Mf (L.take i)).length+(c.enc v).length<=134217728:=by
     have e1:(Mf L).length=(Mf (L.take i)).length+(c.enc v).length+(Mf (L.drop (i+1))).length:=by
      conv=>lhs;rw[<-List.take_append_drop (i+1) L,OR,MG hq,U1]
      rw[List.length_append,List.length_append]
     rw[List.length_append];omega
    have kL:=z74 (lD.ext aN) c v ue mu jB;rw[qk] at kL;refine LO (LQ rfl (LM rfl (M0 z3o rfl (qV (Mk (news:=[y,z]) OK rfl Nk rfl (er.cells (n:=2) rfl) rfl) (M0 z3S rfl (qV (LR Ns rfl rfl er rfl) (Mb zbn rfl (kL) ?_)))))));rintro _ w7 ⟨rfl,F7,o2,aA,o3⟩;refine LO (LL (LQ rfl (MK rfl rfl (LM rfl (LO ((ih (i+1) _ ⟨⟨F7,?_,(ax.trans aN.kp).LJ aA (λk hk=>(oW k hk).symm),λk hk=>?_⟩,by omega⟩ (by omega)).qb))))))
    ·rw[MG hq,U1,<-List.append_assoc];exact o2
    ·rcases o3 k hk with e| e
     ·exact oW k e
     ·exact .inr (by omega)
   ·have cR:i=L.length:=by omega
    rw[cR,List.take_length] at lD;refine LW rfl (qN rfl (LU rfl (LP Tryz.func139 rfl ?_)));exact⟨_,rfl,rfl,F4,lD,aO.kp.trans ax,λk hk=>by rcases oW k hk with e|e;exact .inl e;exact .inr (by omega)⟩
def TD (succ ref:List Nat)(r:Nat):List (Cd×Nat):=if 0<r then(.gamma,(ND succ ref).length-1)::runNums 0 (ND succ ref).dropLast else []
def z3G (p:Oq)(x:Nat)(succ ref:List Nat):List (Cd×Nat):=
 if leftOf succ ref=[] then [] else(if 0<p.interval then(.gamma,(rowsN p.interval (leftOf succ ref)).1.length)::longNums x p.interval none (rowsN p.interval (leftOf succ ref)).1 else [])++restNums x p.zeta none (rowsN p.interval (leftOf succ ref)).2
def QO (p:Oq)(x:Nat)(succ ref:List Nat)(r:Nat):List (Cd×Nat):=TD succ ref r++z3G p x succ ref
theorem XS (p:Oq)(x:Nat){succ ref:List Nat}(r:Nat)(hs:succ≠[]):NW p x succ ref r=N7 p succ.length r++QO p x succ ref r:=by
 unfold NW N7 QO TD z3G
 rw[if_neg hs,if_neg (λe=>hs (List.eq_nil_of_length_eq_zero e)),List.cons_append]
def z3V (p:Oq)(x:Nat)(l:List Nat):List (Cd×Nat):=if 0<p.interval/\l≠[] then(.gamma,(rowsN p.interval l).1.length)::longNums x p.interval none (rowsN p.interval l).1 else []
theorem z1t (p:Oq)(x:Nat)(succ ref:List Nat):z3G p x succ ref=z3V p x (leftOf succ ref)++restNums x p.zeta none (rowsN p.interval (leftOf succ ref)).2:=by
 unfold z3G z3V
 by_cases e:leftOf succ ref=[]
 ·rw[if_pos e,if_neg (λh=>h.2 e),e,rowsN];rfl
 ·rw[if_neg e];by_cases e2:0<p.interval
  ·rw[if_pos e2,if_pos ⟨e2,e⟩]
  ·rw[if_neg e2,if_neg (λh=>e2 h.1)]
structure TlI (w:World)(t r:Nat)(s:Bytes)(b7 b9:Nat)(n q:Nat)(p:Oq)(O:List Nat)(v:Value)(a:Nat)(w':World):Prop where
 tk:Ye w' t r s a
 kp:Kp (λk=>k=t\/k=r) w w'
 sl:Sl w' v 46 1 O.length (O.map Ms)
 fr:∀g,v.ownBlock=some g->w.heap.size<=g
 c7:LX w' b7 [I (n:Int),I (q:Int)] 239
 c9:LX w' b9 [I (p.Mh:Int),I (p.interval:Int),I (p.zeta:Int)] 245
 n7:w.heap.size<=b7
 n9:w.heap.size<=b9
 v7:v.ownBlock≠some b7
 v9:v.ownBlock≠some b9
theorem Zj (l:List Nat):∀c∈l.map Ms,c.oneCell'=true:=λc hc=>by
 obtain⟨y,-,rfl⟩:=List.mem_map.1 hc
 rfl
theorem TlI.app {w w1 w2 w3:World}{t r:Nat}{s:Bytes}{b7 b9 n q:Nat}{p:Oq}{O M:List Nat}{v v3:Value}{a a2:Nat}(h:TlI w t r s b7 b9 n q p O v a w1)(ht:t<w.heap.size)(hr:r<w.heap.size)
  (hk:Kp (λk=>k=t\/k=r) w1 w2) (mx:Ye w2 t r s a2) (cO:Sl w3 v3 46 1 (O.length+M.length) (O.map Ms++M.map Ms)) (ar:Kp (λk=>v.ownBlock=some k) w2 w3) (kz:∀g,v3.ownBlock=some g->v.ownBlock=some g\/w2.heap.size<=g):
  TlI w t r s b7 b9 n q p (O++M) v3 a2 w3:=by
 have z1:=h.kp.size
 have z2:=hk.size
 have l7:=h.c7.lt
 have l9:=h.c9.lt
 have n7:=h.n7
 have n9:=h.n9
 have vz:∀k,k<w.heap.size->¬v.ownBlock=some k:=λk hk e=>by have:=h.fr k e;omega
 have cE:∀k,k<w1.heap.size->v.ownBlock≠some k->v3.ownBlock≠some k:=λk hk hv e=>by
  rcases kz k e with e| e
  ·exact hv e
  ·omega
 refine⟨⟨ar.LN mx.LN (vz t ht),⟨ar.LN mx.rd.1 (vz r hr),mx.rd.2⟩,mx.ne⟩,(h.kp.trans hk).LJ ar (λk hk=> .inl (h.fr k hk)),by rw[List.length_append,List.map_append];exact cO,λg hg=>?_,ar.LN (hk.LN h.c7 (λe=>by omega)) h.v7,ar.LN (hk.LN h.c9 (λe=>by omega)) h.v9,n7,n9,cE _ l7 h.v7,cE _ l9 h.v9⟩
 rcases kz g hg with e| e
 ·exact h.fr g e
 ·omega
theorem z4n {w : World}{t r a : Nat}{s : Bytes}(h : Ye w t r s a)(hG : LX w 1 (OU .gamma) 298)(cP : ¬ 1 = r)(mG : ¬ 1 = t)(p : Oq)(hp : p.N4)(x : Nat)(hx : x < 65536){sa : Option Addr}{sc : Nat}(succ ref : List Nat)(hs : Mw succ)(bI : succ ≠ [])(iV : succ.length < 50)(jp : Mw ref)
  (q:Nat) (hq:q<=p.Mh) (mH:q=0->ref=[]) (dQ:∀w2,Kp (λk=>k=r) w w2->Rd w2 (.slice sa ref.length sc) 1 ref.length (ref.map Ms)) (dU:ref.length<=sc) (rest:List Bool) (hb:(Md s).drop a=Mf (QO p x succ ref q)++rest):
  Mm Tryz.prog 171 [ptr t 0,I (x:Int),.agg #[I (succ.length:Int),I (q:Int)],.slice sa ref.length sc,lpV p] w λu w'=>Sl w' u 46 1 succ.length (succ.map Ms)/\(∀g,u.ownBlock=some g->w.heap.size<=g)/\
   Ye w' t r s (a+(Mf (QO p x succ ref q)).length)/\Kp (λk=>k=t\/k=r) w w':=by
 obtain⟨g1,g2,g3,g4⟩:=id hp
 have lt0:=h.LN.lt
 have lr0:=h.rd.1.lt
 have iQ:=z1C hs.Xo jp.Xo p.interval
 have qx:=iQ.length_eq
 rw[List.length_append,List.length_append] at qx
 have au:Mw (leftOf succ ref):=hs.sub List.filter_sublist
 have Hy:=(PX p.interval (leftOf succ ref)).length_eq
 rw[List.length_append] at Hy
 unfold QO at hb⊢
 rw[OR,List.append_assoc] at hb
 rw[OR,List.length_append]
 refine It (e:=[(0,_),(1,_),(2,_),(3,_),(4,_)]) Tryz.func171 rfl Tryz.ntmps171 rfl rfl (qN rfl (LV rfl rfl (NN rfl (cs:=[I (succ.length:Int),I (q:Int)]) rfl) ?_))
 rintro _ w1 ⟨b7,rfl,kX,ad,bN⟩
 refine LV rfl rfl (NN rfl (cs:=Wg p) rfl) ?_
 rintro _ w2 ⟨b9,rfl,o8,af,cB⟩
 replace cB:LX w2 b9 [I (p.Mh:Int),I (p.interval:Int),I (p.zeta:Int)] 245:=cB
 have z1:=ad.size
 have z2:=af.size
 have aD:=ad.trans af
 have dV:=af.LN bN
 refine M6 rfl (qM rfl (LU rfl (run_seq (qN rfl (M0 OT rfl (qV (LR U3 rfl rfl dV rfl) (Nc rfl rfl (LO (MA (λe' w'=>∃v11,e'=[(0,ptr t 0),(1,I (x:Int)),(7,ptr b7 0),(9,ptr b9 0),(11,v11)]/\TlI w t r s b7 b9 succ.length q p (ref.filter λy=>decide (y∈succ)) v11 (a+(Mf (TD succ ref q)).length) w') ?cu (λcu=>?cM))))))))))
 case cu =>
  rintro e' w3 ⟨v11,rfl,h3⟩;have en:=OG hb;obtain⟨va,vc,rfl,-⟩:=h3.sl.rd.shape;have jQ:=h3.c7;have ci:=h3.c9;have pe:=h3.tk.LN;refine run_seq (qN rfl (M0 PE rfl (qV ((by first|exact LR U3 rfl rfl jQ rfl|exact LR U3 rfl rfl ci rfl|exact LR U3 rfl rfl pe rfl)) ?_)));refine LM rfl (NX Ml rfl (NP rfl rfl ?_));rw[show(succ.length:Int)-((ref.filter λy=>decide (y∈succ)).length:Int)=((leftOf succ ref).length:Int) by omega]
  generalize KV:(a+(Mf (TD succ ref q)).length)=a3 at h3 en
  rw[z1t,OR,List.append_assoc] at en;rw[z1t,OR,List.length_append];have Hz:p.interval=0->(rowsN p.interval (leftOf succ ref)).1=[]:=λe=>by rw[e];exact TN _
  have HA:leftOf succ ref=[]->rowsN p.interval (leftOf succ ref)=([],[]):=λe=>by rw[e,rowsN]
  have oZ:=Ro p.interval (leftOf succ ref) 0 au.Xo (λy _=>Nat.zero_le _);have se:=λy hy=>(z44 (least:=p.interval) au y hy).2
  have Fu:(rowsN p.interval (leftOf succ ref)).1.length<=(Nq (rowsN p.interval (leftOf succ ref)).1).length:=by
   have key:∀(R:List (Nat×Nat)) (lo:Nat),Pc p.interval lo R->R.length<=(Nq R).length:=by
    intro R
    induction R with
    |nil=>intro lo h;exact Nat.le_refl _
    | cons z R ih =>
      intro lo h;have h5:=ih _ h.2.2.2;have h6:1<=z.2:=h.2.1;rw[show Nq (z::R)=(List.range z.2).map (z.1+·)++Nq R from rfl,List.length_append,List.length_map,List.length_range,List.length_cons];omega
   exact key _ 0 oZ
  have pf:Mw (rowsN p.interval (leftOf succ ref)).2:=au.sub (QS p.interval _)
  generalize (ref.filter λy=>decide (y∈succ))=O1 at h3 iQ qx
  have uf:z3V p x (leftOf succ ref)=if 0<p.interval/\leftOf succ ref≠[] then(.gamma,(rowsN p.interval (leftOf succ ref)).1.length)::longNums x p.interval none (rowsN p.interval (leftOf succ ref)).1 else []:=rfl
  generalize z3V p x (leftOf succ ref)=LT at en uf
  generalize rowsN p.interval (leftOf succ ref)=Q at*
  generalize leftOf succ ref=L1 at*
  have rH:L1=[]↔L1.length=0:=⟨λe=>by rw[e];rfl,List.eq_nil_of_length_eq_zero⟩;have fK:=hs.len;refine LU rfl (run_seq (MA (λe' w'=>∃s1:Bool,e'=[(0,ptr t 0),(1,I (x:Int)),(7,ptr b7 0),(9,ptr b9 0),(11,.slice va O1.length vc),(12,I (L1.length:Int)),(38,.bool s1)]/\w'=w3/\(s1=true↔0<p.interval/\L1≠[])) ?dJ (λdJ=>?eL)))
  case dJ =>
   rintro e' w4 ⟨s1,rfl,rfl,dP⟩;refine MA (λe' w'=>∃v11,e'=[(0,ptr t 0),(1,I (x:Int)),(7,ptr b7 0),(9,ptr b9 0),(11,v11)]/\TlI w t r s b7 b9 succ.length q p (O1++Nq Q.1) v11 (a3+(Mf LT).length) w') ?av (λav=>?dr)
   case av =>
    rintro e' w5 ⟨v5,rfl,h5⟩;have gN:=OG en;obtain⟨va5,vc5,rfl,-⟩:=h5.sl.rd.shape;have gA:=h5.c7;have gB:=h5.c9;have vA:=h5.tk.LN;have Fv:(O1++Nq Q.1).length=O1.length+(Nq Q.1).length:=List.length_append;refine run_seq (qN rfl (M0 PE rfl (qV ((by first|exact LR U3 rfl rfl gA rfl|exact LR U3 rfl rfl gB rfl|exact LR U3 rfl rfl vA rfl)) ?_)));refine LM rfl (NX Ml rfl (NP rfl rfl ?_));rw[show(succ.length:Int)-((O1++Nq Q.1).length:Int)=(Q.2.length:Int) by omega];refine LU rfl (run_seq (MA (λe' w'=>∃s2:Bool,e'=[(0,ptr t 0),(1,I (x:Int)),(7,ptr b7 0),(9,ptr b9 0),(11,.slice va5 (O1++Nq Q.1).length vc5),(13,I (Q.2.length:Int)),(60,.bool s2)]/\w'=w5/\(s2=true↔0<Q.2.length)) ?i6 (λi6=>?i7)))
    case i6=>
     rintro e' w6 ⟨s2,rfl,rfl,cS⟩;refine MA (λe' w'=>∃v11,e'=[(0,ptr t 0),(11,v11)]/\TlI w t r s b7 b9 succ.length q p (O1++Nq Q.1++Q.2) v11 (a3+(Mf LT).length+(Mf (restNums x p.zeta none Q.2)).length) w') ?oP (λoP=>?s6)
     case oP=>
      rintro e' w7 ⟨v7,rfl,h7⟩;have qy:(O1++Nq Q.1++Q.2).length=succ.length:=by rw[List.length_append,Fv];omega
      have HB:0<succ.length:=List.length_pos_iff.2 bI;refine qN rfl (LM rfl (Mb zc0 rfl (z5N h7.sl (λe=>by rw[e] at qy;simp at qy;omega) (by omega)) ?_));rintro _ w8 ⟨rfl,bj,l',HC,vB,eB⟩;have HD:l'=succ:=z2B ((HC.trans (by rw[List.append_assoc])).trans iQ) vB hs.Xo;rw[HD] at eB;refine qM rfl (LM rfl (LU rfl (LP Tryz.func171 rfl ?_)));have e9:a+((Mf (TD succ ref q)).length+((Mf LT).length+(Mf (restNums x p.zeta none Q.2)).length))=a3+(Mf LT).length+(Mf (restNums x p.zeta none Q.2)).length:=by omega
      rw[e9];have vz:∀k,k<w.heap.size->¬v7.ownBlock=some k:=λk hk e=>by have:=h7.fr k e;omega
      refine⟨_,rfl,eB,h7.fr,⟨bj.LN h7.tk.LN (vz t lt0),⟨bj.LN h7.tk.rd.1 (vz r lr0),h7.tk.rd.2⟩,h7.tk.ne⟩,h7.kp.LJ bj (λk hk=> .inl (h7.fr k hk))⟩
     case s6=>
      refine MR rfl (λh2=>?_) (λh2=>?_)
      ·refine LQ rfl (M4 rfl rfl (M4 rfl rfl (M0 Ww rfl (qV ((by first|exact LR U3 rfl rfl gA rfl|exact LR U3 rfl rfl gB rfl)) ?_))));refine qV ((by first|exact MH rfl U3 Ns (by omega)|exact Oc rfl U3 Ns)) ?_;refine qV (OJ (cs:=[_,_]) Nk rfl za8 rfl rfl) (Mb zcg rfl (z2q h5.tk x p.zeta hx ⟨g3,g4⟩ Q.2 pf _ gN) ?_);rintro u6 w6 ⟨iW,mB,rY,aR⟩;have Bw:=h5.sl.kp aR (λg hg e=>by have:=h5.fr g hg;omega);refine LV rfl rfl (pap Ml Mc rfl (by decide) rfl rfl Bw iW.rd (Zj _) (by omega) (by simp only[maxLen];omega)) ?_;rintro v7 w7 ⟨gV,aA,HE,-⟩;have h7:=h5.app lt0 lr0 aR rY gV aA HE;refine LU rfl ?_;exact(oP _ _ ⟨v7,rfl,h7⟩).qb
      ·have gy:Q.2=[]:=List.eq_nil_of_length_eq_zero (by
        rcases Nat.eq_zero_or_pos Q.2.length with e| e
        ·exact e
        ·rw[cS.2 e] at h2;cases h2)
       refine py ((oP _ _ ⟨_,rfl,?_⟩).qb);rw[gy,List.append_nil,show(Mf (restNums x p.zeta none [])).length=0 from rfl,Nat.add_zero];exact h5
    case i7=>
     rcases Nat.eq_zero_or_pos Q.2.length with hz|hz
     ·refine LQ rfl (LM rfl (Nc rfl rfl (MC (LM rfl (qS (qS (qS (qS (qS (ME rfl rfl (LO ?_)))))))))));exact(i6 _ _ ⟨false,rfl,rfl,by simp[hz]⟩).qb
     ·refine LQ rfl (LM rfl (Nc rfl rfl (O8 (M4 rfl rfl (Mp rfl (M0 Qa rfl (qV ((by first|exact LR U4 rfl rfl gA rfl|exact LR U4 rfl rfl gB rfl|exact LR U4 rfl rfl vA rfl)) ?_)))))));refine qV ((by first|exact ML rfl|exact Oh rfl)) ?_;refine NB rfl rfl (LO ?_);exact(i6 _ _ ⟨true,rfl,rfl,by simp[hz]⟩).qb
   case dr=>
    refine MR rfl (λh1=>?_) (λh1=>?_)
    ·obtain⟨yY,cK⟩:=dP.1 h1;rw[if_pos ⟨yY,cK⟩] at uf;refine LQ rfl (M4 rfl rfl (M4 rfl rfl (M0 Qx rfl (qV ((by first|exact LR U3 rfl rfl jQ rfl|exact LR U3 rfl rfl ci rfl)) ?_))));rw[uf] at en;refine Mb zch rfl (z5c h3.tk (h3.kp.LN hG (λe=>by rcases e with e|e;exact mG e;exact cP e)) cP mG x L1.length p.interval hx (by omega) (by omega) Q.1 oZ se (by omega) (by omega) _ en) ?_;rintro u4 w4 ⟨ee,oW,vC,ax⟩;have Bx:=h3.sl.kp ax (λg hg e=>by have:=h3.fr g hg;omega);have KW:=ee.rd;have HF:O1.length<=65536:=by omega
     refine LV rfl rfl (pap Ml Mc rfl (by decide) rfl rfl Bx ee.rd (Zj _) (by omega) (by simp only[maxLen];omega)) ?_;rintro v5 w5 ⟨gp,aj,HG,-⟩;have h5:=h3.app lt0 lr0 ax vC gp aj HG;refine LU rfl ((av _ _ ⟨v5,rfl,?_⟩).qb);rw[uf];exact h5
    ·have cK:¬(0<p.interval/\L1≠[]):=λe=>by rw[dP.2 e] at h1;cases h1
     have iC:Q.1=[]:=by
      by_cases e:L1=[]
      ·rw[HA e]
      ·exact Hz (by by_cases e2:0<p.interval;exact absurd ⟨e2,e⟩ cK;omega)
     rw[if_neg cK] at uf;refine py ((av _ _ ⟨_,rfl,?_⟩).qb);rw[iC,uf,show Nq []=[] from rfl,List.append_nil,show(Mf []).length=0 from rfl,Nat.add_zero];exact h3
  case eL=>
   rcases Nat.eq_zero_or_pos L1.length with hz|hz
   ·refine LQ rfl (LM rfl (Nc rfl rfl (MC (LM rfl (qS (qS (qS (ME rfl rfl (LM rfl (qS (qS (qS (qS ?_)))))))))))));refine qS (ME rfl rfl (LO (Mn.qb (e:=[(0,_),(1,_),(7,_),(9,_),(11,_),(12,_),(38,_)]) ?_)));exact(dJ _ _ ⟨false,rfl,rfl,⟨λe=>(by cases e),λe=>absurd (rH.2 hz) e.2⟩⟩).qb
   ·rcases Nat.eq_zero_or_pos p.interval with nZ|nZ
    ·refine LQ rfl (LM rfl (Nc rfl rfl (O8 (LM rfl (M0 Qx rfl (qV ((by first|exact LR U3 rfl rfl jQ rfl|exact LR U3 rfl rfl ci rfl|exact LR U3 rfl rfl pe rfl)) ?_))))));refine Nc rfl rfl (MC (NB rfl rfl (LM rfl (qS (qS (qS (qS (qS (ME rfl rfl (LO (Mn.qb (e:=[(0,_),(1,_),(7,_),(9,_),(11,_),(12,_),(38,_)]) ?_)))))))))));exact(dJ _ _ ⟨false,rfl,rfl,by simp[nZ]⟩).qb
    ·refine LQ rfl (LM rfl (Nc rfl rfl (O8 (LM rfl (M0 Qx rfl (qV ((by first|exact LR U3 rfl rfl jQ rfl|exact LR U3 rfl rfl ci rfl|exact LR U3 rfl rfl pe rfl)) ?_))))));refine Nc rfl rfl (O8 (NB rfl rfl (M4 rfl rfl (Mp rfl (M0 Qa rfl (qV ((by first|exact LR U4 rfl rfl jQ rfl|exact LR U4 rfl rfl ci rfl|exact LR U4 rfl rfl pe rfl)) ?_))))));refine qV ((by first|exact ML rfl|exact Oh rfl)) ?_;refine NB rfl rfl (LO (Mn.qb (e:=[(0,_),(1,_),(7,_),(9,_),(11,_),(12,_),(38,_)]) ?_));exact(dJ _ _ ⟨true,rfl,rfl,⟨λ_=>⟨nZ,λe=>(by have:=rH.1 e;omega)⟩,λ_=>rfl⟩⟩).qb
 case cM=>
  refine LY rfl (λh0=>?_) (λh0=>?_)
  ·have iC:0<q:=by omega
   have zn:=Ps succ ref;have iL:=zn.WL;rw[List.length_map] at iL;have vD:=jp.len
   have vE:(ND succ ref).sum=ref.length:=by
    have:=congrArg List.length zn.exp;rw[P7,List.length_map] at this;exact this
   have vF:=z4F succ ref;rw[show TD succ ref q=(.gamma,(ND succ ref).length-1)::runNums 0 (ND succ ref).dropLast from if_pos iC] at hb;obtain⟨l,m,gu⟩:∃l m,ND succ ref=l++[m]:=⟨_,_,(List.dropLast_concat_getLast zn.ne).symm⟩;have gX:=zn.pos;rw[gu] at hb vE iL gX;rw[gu,List.dropLast_concat] at vF;rw[List.dropLast_concat,show(l++[m]).length-1=l.length by simp] at hb;rw[List.sum_append] at vE;rw[List.length_append,List.length_singleton] at iL;have h2:=h.ext aD
   have vG:∀m'∈l.drop 1,1<=m':=λm' lE=>gX m' (by
    cases l with
    |nil=>simp at lE
    |cons a l=>rw[List.cons_append,List.drop_succ_cons,List.drop_zero];rw[List.drop_succ_cons,List.drop_zero] at lE;exact List.mem_append_left _ lE)
   refine LQ rfl (M4 rfl rfl (Mb zcI rfl (z09 h2 (aD.LN hG) cP ref l (λw5 k=>dQ w5 (aD.kp.trans k)) dU vD (by omega) (by omega) vG _ hb) ?_));rintro v11 w3 ⟨cO,pd,ph,ar⟩;refine LU rfl ((cu _ _ ⟨v11,rfl,?_⟩).qb);rw[vF] at cO;rw[show TD succ ref q=(.gamma,l.length)::runNums 0 l by unfold TD;rw[if_pos iC,gu,List.dropLast_concat,show(l++[m]).length-1=l.length by simp]];have l72:=dV.lt;have l92:=cB.lt;exact⟨ph,aD.kp.trans (ar.LZ λk e=> .inr e),cO,λg hg=>by have:=pd g hg;omega,ar.LN dV (by omega),ar.LN cB (by omega),by omega,by omega,λe=>by have:=pd _ e;omega,λe=>by have:=pd _ e;omega⟩
  ·have iC:q=0:=by omega
   have Bz:=mH iC;subst Bz;refine py ((cu _ _ ⟨.slice none 0 0,rfl,?_⟩).qb);rw[show TD succ [] q=[] by unfold TD;rw[if_neg (by omega)]];exact⟨h.ext aD,aD.kp,Sl.nil _ _ _,(λg hg=>by cases hg),dV,cB,by omega,by omega,(λe=>by cases e),(λe=>by cases e)⟩
theorem z0N {l b rest:List Bool}{a k n:Nat}(hb:l.drop a=b++rest)(hk:k+n<=b.length):(l.drop (a+k)).take n=(b.drop k).take n:=by
 rw[<-List.drop_drop,hb,List.drop_append_of_le_length (by omega),List.take_append_of_le_length (by rw[List.length_drop];omega)]
theorem z5M {w:World}{r a:Nat}{s:Bytes}(p:Oq)(hp:p.N4)(x:Nat)(hx:x<65536){la ra:Option Addr}{lc rc:Nat}(succ ref:List Nat)(hs:Mw succ)(bI:succ≠[])(jp:Mw ref)
  (q:Nat) (hq:q<=p.Mh) (mH:q=0->ref=[]) (hG:LX w 1 (OU .gamma) 298) (hU:LX w 2 (OU .unary) 298) (eg:Rd w (.slice la succ.length lc) 1 succ.length (succ.map Ms)) (iD:Rd w (.slice ra ref.length rc) 1 ref.length (ref.map Ms)) (gK:succ.length<=lc) (mP:ref.length<=rc)
  (hl:(Mf (NW p x succ ref q)).length<=134217728) (rest:List Bool) (hb:(Md s).drop a=Mf (QO p x succ ref q)++rest) (h:Qc w r s (a+(Mf (QO p x succ ref q)).length)):
  Mm Tryz.prog 172 [lpV p,ptr r 0,I (a:Int),I (x:Int),.agg #[I (succ.length:Int),I (q:Int)],.slice la succ.length lc,.slice ra ref.length rc] w λu w'=>u= .bool true/\Qc w' r s (a+(Mf (QO p x succ ref q)).length)/\Kp (λk=>k=r) w w':=by
 have lr0:=h.1.lt
 have l10:=hG.lt
 have l20:=hU.lt
 have fK:=hs.len
 have mY:=XS p x (ref:=ref) q bI
 have zo:Mf (NW p x succ ref q)=Mf (N7 p succ.length q)++Mf (QO p x succ ref q):=by rw[mY,OR]
 have ff:(Mf (NW p x succ ref q)).length=(Mf (N7 p succ.length q)).length+(Mf (QO p x succ ref q)).length:=by rw[mY,OR,List.length_append]
 generalize Mf (QO p x succ ref q)=TB at*
 have zp:succ.length≠0:=λe=>bI (List.eq_nil_of_length_eq_zero e)
 refine It (e:=[(0,_),(1,_),(2,_),(3,_),(4,_),(5,_),(6,_)]) Tryz.func172 rfl Tryz.ntmps172 rfl rfl (qN rfl (LV rfl rfl (NN rfl (cs:=Wg p) rfl) ?_))
 rintro _ w1 ⟨b7,rfl,kX,ad,bN⟩
 refine LV rfl rfl (NN rfl (cs:=[I (succ.length:Int),I (q:Int)]) rfl) ?_
 rintro _ w2 ⟨b11,rfl,iN,af,aH⟩
 have aD:=ad.trans af
 have z1:=ad.size
 have z2:=af.size
 have dV:=af.LN bN
 have h2:Qc w2 r s (a+TB.length):=⟨aD.LN h.1,h.2⟩
 refine M6 rfl (qM rfl (LM rfl (Mb Uy rfl (Qy h2) ?_)))
 rintro _ w2 ⟨rfl,rfl⟩
 refine M6 rfl (qM rfl (Mb WV rfl (QX w2) ?_))
 rintro _ w3 ⟨wp,F,rfl,lF,ah,pi⟩
 have z3:=ah.size
 have aO:=aD.trans ah
 have kM:=ah.LN aH
 have jQ:=ah.LN dV
 refine LU rfl (run_seq (qN rfl (M4 rfl rfl (M4 rfl rfl (M0 OT rfl (qV (LR U3 rfl rfl kM rfl) (qV (Mk (news:=Wg p) VH rfl Qr rfl (jQ.cells (n:=3) rfl) rfl) (Mb zaj rfl (VO lF p hp x hx succ ref hs jp q hq mH (aO.LN hG) (aO.LN hU) (eg.ext aO) (iD.ext aO) gK mP (by simpa using hl)) ?_))))))))
 rintro _ w4 ⟨rfl,F4,lD,ax,oW⟩
 rw[List.nil_append] at lD
 have z4:=ax.size
 have cZ:Ext w2 w4:=ah.LJ ax pi
 refine MY rfl rfl (LO (An rfl (py (qN rfl (LM rfl (Mb z42 rfl (Tj lD) ?_))))))
 rintro _ w4 ⟨rfl,rfl⟩
 refine LM rfl (MW rfl rfl (MW rfl rfl (M6 rfl (LU rfl (Mn.qb (e:=[(1,_),(2,_),(7,_),(14,_),(15,_),(16,_),(17,_)]) ?_)))))
 refine qN rfl (LM rfl ?_)
 have dZ:(Mi (Mf (NW p x succ ref q))).length<=16777217:=by rw[Mv];omega
 refine Mb z3n rfl (Tf (Mi (Mf (NW p x succ ref q))) (by omega) w4) ?_
 rintro _ w5 ⟨ow,rfl,ry,aT,KX⟩
 have ic:=cZ.trans aT
 have bC:=aD.trans ic
 obtain⟨z,mw,nZ,KY⟩:=OD (Mf (NW p x succ ref q))
 have zr:(Md (Mi (Mf (NW p x succ ref q)))).drop 0=Mf (N7 p succ.length q)++(TB++List.replicate z false):=by
  rw[mw,List.drop_zero,zo,List.append_assoc]
 refine LU rfl (run_seq (qN rfl (LM rfl (qV (Mk (news:=Wg p) VH rfl Qr rfl ((ic.LN dV).cells (n:=3) rfl) rfl) (Mb z9E rfl (Yq ry p hp (bC.LN hG) (bC.LN hU) (by omega) (by omega) succ.length q (by omega) hq (λe=>absurd e zp) _ zr) ?_)))))
 rintro _ w6 ⟨rfl,kN,aR⟩
 rw[Nat.zero_add] at kN
 have ie:Ext w2 w6:=ic.LJ aR (λk e=>by omega)
 have ss:=OG zr
 rw[Nat.zero_add] at ss
 generalize (Mi (Mf (NW p x succ ref q)))=os at*
 have z6:=ie.size
 refine LM rfl (MW rfl rfl (MW rfl rfl (LV rfl rfl (O9 (cs:=[_,_]) OE rfl) ?_)))
 rintro _ w7 ⟨b20,rfl,HH,bQ,BA⟩
 refine M1 rfl (MD (news:=[I (succ.length:Int),I (q:Int)]) OE rfl rfl rfl rfl BA (by simp)) ?_
 rintro w8 ⟨Fw,bj⟩
 have ig:Ext w6 w8:=bQ.LJ bj (λk e=>by omega)
 have iX:=ie.trans ig
 have h8:Qc w8 r s (a+TB.length):=⟨iX.LN h2.1,h2.2⟩
 have tZ:Qc w8 ow os (Mf (N7 p succ.length q)).length:=⟨ig.LN kN.1,kN.2⟩
 have rC:UH w8 wp (Mf (NW p x succ ref q)) F4:=((lD.ext aT).kp aR (λi hi e=>by have:=lD.lt hi;omega)).ext ig
 refine M6 rfl (qM rfl (LM rfl (MY rfl rfl (M4 rfl rfl (Mb Yz rfl (RS rC) ?_)))))
 rintro _ w8 ⟨rfl,rfl⟩
 refine LM rfl (Mb Uy rfl (Qy tZ) ?_)
 rintro _ w8 ⟨rfl,rfl⟩
 refine NP rfl rfl ?_
 rw[show((Mf (NW p x succ ref q)).length:Int)-((Mf (N7 p succ.length q)).length:Int)=(TB.length:Int) by omega]
 refine M4 rfl rfl (NP rfl rfl ?_)
 rw[show((a+TB.length:Nat):Int)-(a:Int)=(TB.length:Int) by omega]
 refine MY rfl rfl (MC (ME rfl rfl (LO (Mn.qb (e:=[(1,_),(2,_),(14,_),(15,_),(19,_),(64,_)]) ?_))))
 refine An rfl (py (qN rfl (M4 rfl rfl (Mb z81 rfl (Vy h8 a (by have:=h8.2.1;omega)) ?_))))
 rintro _ w9 ⟨rfl,h9,aL⟩
 have u9:Qc w9 ow os (Mf (N7 p succ.length q)).length:=⟨aL.LN tZ.1 (by omega),tZ.2⟩
 refine LO (run_seq (LK (Oe (α:=Nat) (0) (λk=>[(1,ptr r 0),(15,I ((a+TB.length:Nat):Int)),(19,ptr ow 0)]) (λk w'=>Qc w' r s (a+k)/\Qc w' ow os ((Mf (N7 p succ.length q)).length+k)/\Kp (λi=>i=r\/i=ow) w9 w'/\k<=TB.length) (λk=>TB.length-k) ?hI ?hround)))
 case hI=>exact⟨h9,u9,Kp.refl _ _,Nat.zero_le _⟩
 case hround=>
  rintro k w10 ⟨eK,vH,aw,KZ⟩ ih
  try dsimp only
  refine run_seq (qN rfl (LM rfl (Mb Uy rfl (Qy eK) ?_)));rintro _ w10 ⟨rfl,rfl⟩;refine LM rfl (Nr rfl rfl (LO (LY rfl (λh0=>?_) (λh0=>?_))))
  ·refine py (LK (qN rfl (M4 rfl rfl (Mb Uy rfl (Qy eK) ?_))));rintro _ w10 ⟨rfl,rfl⟩;refine NP rfl rfl ?_;rw[show((a+TB.length:Nat):Int)-((a+k:Nat):Int)=((TB.length-k:Nat):Int) by omega];refine qV (ymi rfl rfl) ?_;rw[show min (64:Int) ((TB.length-k:Nat):Int)=((min 64 (TB.length-k):Nat):Int) by omega];obtain⟨n,hn,cK,gW,BB⟩:∃n,min 64 (TB.length-k)=n/\1<=n/\n<=64/\k+n<=TB.length:=⟨_,rfl,by omega,by omega,by omega⟩;rw[hn];have vI:=eK.2.1;have eM:=z0N hb BB;have kC:=z0N ss BB;have EV:a+TB.length<=8*s.length:=h8.2.1
   have o4:(Mf (N7 p succ.length q)).length+TB.length<=8*os.length:=by
    have e:=congrArg List.length ss;rw[List.length_drop,bitsT_length,List.length_append] at e;omega
   refine M6 rfl (qM rfl (M4 rfl rfl (Mb z0W rfl (RN eK n gW) ?_)));rintro v11 w11 hv
   have iJ:v11= .tuple #[M7 (valB (((Md s).drop (a+k)).take n)),I 0]/\Qc w11 r s (a+k+n)/\Kp (λk=>k=r) w10 w11:=by
    rcases hv with hv|hv
    ·exact hv.2
    ·omega
   obtain⟨rfl,mA,aU⟩:=iJ;rw[eM];have BC:Qc w11 ow os ((Mf (N7 p succ.length q)).length+k):=⟨aU.LN vH.1 (by omega),vH.2⟩;refine LM rfl (MW rfl rfl (MW rfl rfl (M6 rfl (M6 rfl (qM rfl (M4 rfl rfl (Mb z0W rfl (RN BC n gW) ?_)))))));rintro v12 w12 hv
   have iJ:v12= .tuple #[M7 (valB (((Md os).drop ((Mf (N7 p succ.length q)).length+k)).take n)),I 0]/\Qc w12 ow os ((Mf (N7 p succ.length q)).length+k+n)/\Kp (λk=>k=ow) w11 w12:=by
    rcases hv with hv|hv
    ·exact hv.2
    ·omega
   obtain⟨rfl,BD,aV⟩:=iJ;rw[kC];have Fx:Qc w12 r s (a+k+n):=⟨aV.LN mA.1 (by omega),mA.2⟩;refine LM rfl (MW rfl rfl (MW rfl rfl (M6 rfl (M6 rfl (qM rfl (M4 rfl rfl (MY rfl rfl (LO (LY rfl (λh1=>?_) (λh1=>?_))))))))))
   ·exact absurd rfl h1
   ·refine py (LL ((ih (k+n) _ ⟨by rw[<-Nat.add_assoc];exact Fx,by rw[<-Nat.add_assoc];exact BD,(aw.trans (aU.LZ λi e=> .inl e)).trans (aV.LZ λi e=> .inr e),BB⟩ (by omega)).qb))
  ·have mf:k=TB.length:=by omega
   subst mf;refine LW rfl (qN rfl (LU rfl (LP Tryz.func172 rfl ?_)));exact⟨_,rfl,rfl,eK,((aD.trans iX).kp.trans aL).LJ aw (λi hi=>by rcases hi with e|e;exact .inr e;exact .inl (by omega))⟩
theorem VQ {w:World}{r a:Nat}{s:Bytes}(h:Qc w r s a)(p:Oq)(hp:p.N4)(x:Nat)(hx:x<65536)(N:Nat)(hN:N<=65536){ra:Option Addr}{rc:Nat}(succ ref:List Nat)(hs:Mw succ)(bI:succ≠[])(iV:succ.length<50)(BE:∀y∈succ,y<N)(jp:Mw ref)
  (q:Nat) (hq:q<=p.Mh) (mH:q=0->ref=[]) (hG:LX w 1 (OU .gamma) 298) (hU:LX w 2 (OU .unary) 298) (cP:¬1=r) (dx:¬2=r) (dQ:∀w2,Kp (λk=>k=r) w w2->Rd w2 (.slice ra ref.length rc) 1 ref.length (ref.map Ms)) (mP:ref.length<=rc)
  (hl:(Mf (NW p x succ ref q)).length<=134217728) (rest:List Bool) (hb:(Md s).drop a=Mf (QO p x succ ref q)++rest):
  Mm Tryz.prog 131 [ptr r 0,I (x:Int),I (N:Int),.agg #[I (succ.length:Int),I (q:Int)],.slice ra ref.length rc,lpV p] w λu w'=>∃v,u= .tuple #[v,I 0]/\Sl w' v 46 1 succ.length (succ.map Ms)/\(∀g,v.ownBlock=some g->w.heap.size<=g)/\Qc w' r s (a+(Mf (QO p x succ ref q)).length)/\Kp (λk=>k=r) w w':=by
 obtain⟨g1,g2,g3,g4⟩:=id hp
 have lr0:=h.1.lt
 have l10:=hG.lt
 have l20:=hU.lt
 have fK:=hs.len
 have gM:=jp.len
 have zp:0<succ.length:=List.length_pos_iff.2 bI
 refine It (e:=[(0,_),(1,_),(2,_),(3,_),(4,_),(5,_)]) Tryz.func131 rfl Tryz.ntmps131 rfl rfl (qN rfl (LV rfl rfl (NN rfl (cs:=[I (succ.length:Int),I (q:Int)]) rfl) ?_))
 rintro _ w1 ⟨b9,rfl,o8,ad,cB⟩
 refine LV rfl rfl (NN rfl (cs:=Wg p) rfl) ?_
 rintro _ w2 ⟨b11,rfl,iN,af,aH⟩
 replace aH:LX w2 b11 [I (p.Mh:Int),I (p.interval:Int),I (p.zeta:Int)] 245:=aH
 have aD:=ad.trans af
 have z1:=ad.size
 have z2:=af.size
 have cT:=af.LN cB
 have l9:=cT.lt
 have l11:=aH.lt
 have l90:=cB.lt
 refine M6 rfl (LU rfl (run_seq (MA (λe' w'=>e'=[(0,ptr r 0),(1,I (x:Int)),(2,I (N:Int)),(4,.slice ra ref.length rc),(9,ptr b9 0),(11,ptr b11 0)]/\Ext w2 w') ?lG (λlG=>?BG))))
 case lG=>
  rintro e' w3 ⟨rfl,ah⟩;have cI:=aD.trans ah;have h3:Qc w3 r s a:=⟨cI.LN h.1,h.2⟩;have ci:=ah.LN cT;have kM:=ah.LN aH;have z3:=ah.size;refine qN rfl (LM rfl (Mb Uy rfl (Qy h3) ?_));rintro _ w3 ⟨rfl,rfl⟩;refine M6 rfl (qM rfl (LM rfl (qV (OJ (cs:=[_,_]) zdO rfl zbZ rfl rfl) (LV rfl rfl (NN rfl (cs:=[ptr r 0,.bool false]) rfl) ?_))));rintro _ w4 ⟨tb,rfl,HI,aC,HJ⟩;have z4:=aC.size;have cj:=cI.trans aC;have h4:Ye w4 tb r s a:=⟨HJ,⟨aC.LN h3.1,h3.2⟩,by omega⟩;refine M6 rfl (qM rfl (M4 rfl rfl (qV (Mk (news:=[I (succ.length:Int),I (q:Int)]) z0K rfl OE rfl ((aC.LN ci).cells (n:=2) rfl) rfl) (LM rfl (qV (Mk (news:=Wg p) VH rfl Qr rfl ((aC.LN kM).cells (n:=3) rfl) rfl) (Mb zde rfl (z4n h4 (cj.LN hG) cP (by omega) p hp x hx succ ref hs bI iV jp q hq mH (λw2 k=>dQ w2 (cj.kp.trans k)) mP rest hb) ?_))))));rintro v w5 ⟨gp,sd,zt,aj⟩;have ck:Kp (λk=>k=r) w w5:=cj.kp.LJ aj (λi hi=>by rcases hi with e|e;exact .inl (by omega);exact .inr e);have gB:=aj.LN (aC.LN ci) (by omega);have vJ:=aj.LN (aC.LN kM) (by omega);have Fy:=zt.LN;have HK:=ck.LN hG cP;have HM:=ck.LN hU dx;have bZ:=dQ w5 ck;have uF:∀g,v.ownBlock=some g->w.heap.size<=g:=λg hg=>by have:=sd g hg;have:=cj.size;omega
  obtain⟨va,vc,rfl,zu⟩:=gp.rd.shape
  have BF:succ.length<=vc:=by
   rcases gp.shape with⟨-,h0⟩|⟨g,c1,hv,fx⟩
   ·omega
   ·cases hv;exact fx
  refine LU rfl (run_seq (qN rfl (LM rfl (Mp rfl (M0 Qa rfl (qV ((by first|exact LR U4 rfl rfl gB rfl|exact LR U4 rfl rfl Fy rfl)) ?_))))));refine M4 rfl rfl (NX Ml rfl (M0 PE rfl (qV ((by first|exact LR U3 rfl rfl gB rfl|exact LR U3 rfl rfl Fy rfl)) ?_)));refine MY rfl rfl (MC (ME rfl rfl (M4 rfl rfl (Mb z18 rfl (SB _ succ hs w5 gp.rd) ?_))));rintro _ w5 ⟨rfl,rfl⟩;refine qV ((by first|exact ML rfl|exact Oh rfl)) ?_;refine ME rfl rfl (M4 rfl rfl (NX Ml rfl (NS rfl rfl (MC (ME rfl rfl (M4 rfl rfl (LM rfl (NX Ml rfl (NP rfl rfl ?_)))))))));rw[show(succ.length:Int)-1=((succ.length-1:Nat):Int) by omega];obtain⟨y,hy⟩:∃y,succ[succ.length-1]? =some y:=⟨_,List.getElem?_eq_getElem (by omega)⟩;have L0:=BE y (List.mem_of_getElem? hy)
  obtain⟨g5,c5,e5⟩:∃g c,Value.slice va succ.length vc= .slice (some ⟨g,0,none⟩) succ.length c:=by
   rcases gp.shape with⟨-,h0⟩|⟨g,c,e,hc⟩
   ·omega
   ·exact⟨g,c,e⟩
  cases e5;refine qV (MN Ml Mc rfl rfl (by omega)) (qV (Mt N5 rfl rfl (MX gp.rd (show(succ.map Ms)[succ.length-1]? =some (Ms y) by rw[List.getElem?_map,hy];rfl))) ?_);refine qV (MB rfl N5 U3 (by omega)) (LM rfl (PQ rfl rfl (MC (ME rfl rfl (LM rfl (qV (Mk (news:=Wg p) VH rfl Qr rfl (vJ.cells (n:=3) rfl) rfl) (M4 rfl rfl (LM rfl (qV (Mk (news:=[I (succ.length:Int),I (q:Int)]) z0K rfl OE rfl (gB.cells (n:=2) rfl) rfl) (M4 rfl rfl (Mb zec rfl (z5M p hp x hx succ ref hs bI jp q hq mH HK HM gp.rd bZ BF mP hl rest hb zt.rd) ?_)))))))))));rintro _ w6 ⟨rfl,h6,aR⟩;refine qV ((by first|exact ML rfl|exact Oh rfl)) ?_;refine ME rfl rfl (LO (Mn.qb (e:=[(0,_),(14,_),(16,_),(134,_)]) ?_));refine An rfl (py (qN rfl (LM rfl (M6 rfl (LU rfl (LP Tryz.func131 rfl ?_))))));exact⟨_,rfl,_,rfl,gp.kp aR (λg hg e=>by have:=uF g hg;omega),uF,h6,ck.trans aR⟩
 case BG=>
  refine LK (qN rfl (LM rfl (qV (MU PW rfl rfl) (LU rfl (An rfl (run_seq (qN rfl (qV (Mk (news:=Wg p) VH rfl Qr rfl (aH.cells (n:=3) rfl) rfl) (Mb ZX rfl (Qg p hp w2) ?_)))))))));rintro _ w3 ⟨rfl,ah⟩;refine MY rfl rfl (M4 rfl rfl (Mb z3U rfl (S2 x hx w3) ?_));rintro _ w3 ⟨rfl,rfl⟩;refine qV ((by first|exact ML rfl|exact Oh rfl)) ?_;refine ME rfl rfl (M4 rfl rfl (Nr rfl rfl (MC (ME rfl rfl (M4 rfl rfl (Nc rfl rfl (MC (ME rfl rfl (M4 rfl rfl (Mb z18 rfl (SB _ ref jp w3 (dQ w3 (aD.trans ah).kp)) ?_))))))))));rintro _ w3 ⟨rfl,rfl⟩;refine qV ((by first|exact ML rfl|exact Oh rfl)) ?_;refine ME rfl rfl (LU rfl (Mn.qb (e:=[(0,_),(1,_),(2,_),(4,_),(9,_),(11,_),(12,_),(13,_),(20,_)]) ?_));refine An rfl (LQ rfl (M0 PE rfl (qV ((by first|exact LR U3 rfl rfl (ah.LN cT) rfl|exact LR U3 rfl rfl (ah.LN aH) rfl)) ?_)));refine Nr rfl rfl (MC (LM rfl (M0 PE rfl (qV ((by first|exact LR U3 rfl rfl (ah.LN cT) rfl|exact LR U3 rfl rfl (ah.LN aH) rfl)) ?_))));refine Nc rfl rfl (MC (ME rfl rfl (LM rfl (M0 OT rfl (qV ((by first|exact LR U3 rfl rfl (ah.LN cT) rfl|exact LR U3 rfl rfl (ah.LN aH) rfl)) ?_)))));refine Nr rfl rfl (MC (ME rfl rfl (LM rfl (M0 OT rfl (qV ((by first|exact LR U3 rfl rfl (ah.LN cT) rfl|exact LR U3 rfl rfl (ah.LN aH) rfl)) ?_)))));refine M0 PJ rfl (qV ((by first|exact LR U3 rfl rfl (ah.LN cT) rfl|exact LR U3 rfl rfl (ah.LN aH) rfl)) ?_);refine Nc rfl rfl (MC (ME rfl rfl (LM rfl ?_)));rcases Nat.eq_zero_or_pos q with e0|e0
  ·have HN:ref.length=0:=by rw[mH e0];rfl
   refine M0 OT rfl (qV ((by first|exact LR U3 rfl rfl (ah.LN cT) rfl|exact LR U3 rfl rfl (ah.LN aH) rfl)) ?_);refine NS rfl rfl (O8 (M4 rfl rfl (NX Ml rfl (Nc rfl rfl (MC (NB rfl rfl (ME rfl rfl (LU rfl (Mn.qb (e:=[(0,_),(1,_),(2,_),(4,_),(9,_),(11,_),(12,_),(13,_),(20,_)]) ?_)))))))));refine An rfl (qN rfl (M0 PE rfl (qV ((by first|exact LR U3 rfl rfl (ah.LN cT) rfl|exact LR U3 rfl rfl (ah.LN aH) rfl)) ?_)));refine NS rfl rfl (MC (LM rfl (qS (qS (qS (ME rfl rfl (LU rfl (An rfl (py (LL ?_))))))))));exact(lG _ _ ⟨rfl,ah⟩).qb
  ·refine M0 OT rfl (qV ((by first|exact LR U3 rfl rfl (ah.LN cT) rfl|exact LR U3 rfl rfl (ah.LN aH) rfl)) ?_);refine NS rfl rfl (MC (LM rfl (qS (qS (qS (ME rfl rfl (ME rfl rfl (LU rfl (Mn.qb (e:=[(0,_),(1,_),(2,_),(4,_),(9,_),(11,_),(12,_),(13,_),(20,_)]) ?_)))))))));refine An rfl (qN rfl (M0 PE rfl (qV ((by first|exact LR U3 rfl rfl (ah.LN cT) rfl|exact LR U3 rfl rfl (ah.LN aH) rfl)) ?_)));refine NS rfl rfl (MC (LM rfl (qS (qS (qS (ME rfl rfl (LU rfl (An rfl (py (LL ?_))))))))));exact(lG _ _ ⟨rfl,ah⟩).qb
theorem Zm {w:World}{r:Nat}(p:Oq)(hp:p.N4)(x:Nat)(hx:x<65536)(N:Nat)(hN:N<=65536):
  Mm Tryz.prog 131 [ptr r 0,I (x:Int),I (N:Int),.agg #[I ((0:Nat):Int),I ((0:Nat):Int)],.slice none 0 0,lpV p] w λu w'=>u= .tuple #[.slice none 0 0,I 0]/\Ext w w':=by
 obtain⟨g1,g2,g3,g4⟩:=id hp
 have rW:([]:List Nat).length=0:=rfl
 refine It (e:=[(0,_),(1,_),(2,_),(3,_),(4,_),(5,_)]) Tryz.func131 rfl Tryz.ntmps131 rfl rfl (qN rfl (LV rfl rfl (NN rfl (cs:=[I ((0:Nat):Int),I ((0:Nat):Int)]) rfl) ?_))
 rintro _ w1 ⟨b9,rfl,o8,ad,cB⟩
 refine LV rfl rfl (NN rfl (cs:=Wg p) rfl) ?_
 rintro _ w2 ⟨b11,rfl,iN,af,aH⟩
 replace aH:LX w2 b11 [I (p.Mh:Int),I (p.interval:Int),I (p.zeta:Int)] 245:=aH
 have aD:=ad.trans af
 have cT:=af.LN cB
 refine M6 rfl (LU rfl (run_seq (LK (qN rfl (LM rfl (qV (MU PW rfl rfl) (LU rfl (An rfl (run_seq (qN rfl (qV (Mk (news:=Wg p) VH rfl Qr rfl (aH.cells (n:=3) rfl) rfl) (Mb ZX rfl (Qg p hp w2) ?_))))))))))))
 rintro _ w3 ⟨rfl,ah⟩
 refine MY rfl rfl (M4 rfl rfl (Mb z3U rfl (S2 x hx w3) ?_))
 rintro _ w3 ⟨rfl,rfl⟩
 refine qV ((by first|exact ML rfl|exact Oh rfl)) ?_
 refine ME rfl rfl (M4 rfl rfl (Nr rfl rfl (MC (ME rfl rfl (M4 rfl rfl (Nc rfl rfl (MC (ME rfl rfl (M4 rfl rfl (Mb z18 rfl (SB (.slice none 0 0) [] ⟨List.Pairwise.nil,λy h=>(by cases h)⟩ w3 RD) ?_))))))))))
 rintro _ w3 ⟨rfl,rfl⟩
 refine qV ((by first|exact ML rfl|exact Oh rfl)) ?_
 refine ME rfl rfl (LU rfl (Mn.qb (e:=[(0,_),(1,_),(2,_),(4,_),(9,_),(11,_),(12,_),(13,_),(20,_)]) ?_))
 refine An rfl (LQ rfl (M0 PE rfl (qV ((by first|exact LR U3 rfl rfl (ah.LN cT) rfl|exact LR U3 rfl rfl (ah.LN aH) rfl)) ?_)))
 refine Nr rfl rfl (MC (LM rfl (M0 PE rfl (qV ((by first|exact LR U3 rfl rfl (ah.LN cT) rfl|exact LR U3 rfl rfl (ah.LN aH) rfl)) ?_))))
 refine Nc rfl rfl (MC (ME rfl rfl (LM rfl (M0 OT rfl (qV ((by first|exact LR U3 rfl rfl (ah.LN cT) rfl|exact LR U3 rfl rfl (ah.LN aH) rfl)) ?_)))))
 refine Nr rfl rfl (MC (ME rfl rfl (LM rfl (M0 OT rfl (qV ((by first|exact LR U3 rfl rfl (ah.LN cT) rfl|exact LR U3 rfl rfl (ah.LN aH) rfl)) ?_)))))
 refine M0 PJ rfl (qV ((by first|exact LR U3 rfl rfl (ah.LN cT) rfl|exact LR U3 rfl rfl (ah.LN aH) rfl)) ?_)
 refine Nc rfl rfl (MC (ME rfl rfl (LM rfl (M0 OT rfl (qV ((by first|exact LR U3 rfl rfl (ah.LN cT) rfl|exact LR U3 rfl rfl (ah.LN aH) rfl)) ?_)))))
 refine NS rfl rfl (O8 (M4 rfl rfl (NX Ml rfl (Nc rfl rfl (MC (NB rfl rfl (ME rfl rfl (LU rfl (Mn.qb (e:=[(0,_),(1,_),(2,_),(4,_),(9,_),(11,_),(12,_),(13,_),(20,_)]) ?_)))))))))
 refine An rfl (qN rfl (M0 PE rfl (qV ((by first|exact LR U3 rfl rfl (ah.LN cT) rfl|exact LR U3 rfl rfl (ah.LN aH) rfl)) ?_)))
 refine NS rfl rfl (O8 (LM rfl (M0 OT rfl (qV ((by first|exact LR U3 rfl rfl (ah.LN cT) rfl|exact LR U3 rfl rfl (ah.LN aH) rfl)) ?_))))
 refine NS rfl rfl (O8 (NB rfl rfl (LU rfl (M3 rfl (qN rfl (M6 rfl (LU rfl (LP Tryz.func131 rfl ?_))))))))
 exact⟨_,rfl,rfl,aD.trans ah⟩
/-! ### A packer's cells -/
def Sk (q:Value×Nat):List Value:=[q.1,I (q.2:Int)]
def TJ (p:MZ)(R:List (Value×Nat))(n wp ed:Nat):List Value:=Rz p++(R.flatMap Sk++[I (n:Int),ptr wp 0,I (ed:Int),I 0])
theorem Oa:∀R:List (Value×Nat),(R.flatMap Sk).length=R.length*2
 |[]=>rfl
 |q::R=>by rw[List.flatMap_cons,List.length_append,Oa R,List.length_cons,show(Sk q).length=2 from rfl];omega
theorem z0v:∀(R:List (Value×Nat)) (i j:Nat) (q:Value×Nat) (u:Value),R[i]? =some q->(Sk q)[j]? =some u->(R.flatMap Sk)[i*2+j]? =some u
 |[],i,j,q,u,h,_=>by simp at h
 | a :: R, 0, j, q, u, h, hj => by
   rw[List.getElem?_cons_zero] at h;cases h;have:=(List.getElem?_eq_some_iff.1 hj).1;rw[List.flatMap_cons,List.getElem?_append_left (by omega),Nat.zero_mul,Nat.zero_add]
   exact hj
 | a :: R, i + 1, j, q, u, h, hj => by
   rw[List.getElem?_cons_succ] at h;rw[List.flatMap_cons,List.getElem?_append_right (by show 2<=_;omega),show(i+1)*2+j-(Sk a).length=i*2+j by show _-2=_;omega];exact z0v R i j q u h hj
theorem z1A:∀(R:List (Value×Nat)) (i:Nat) (x:Value×Nat),i<R.length->(R.set i x).flatMap Sk=(R.flatMap Sk).take (i*2)++Sk x++(R.flatMap Sk).drop (i*2+2)
 |[],i,x,h=>by simp at h
 | a :: R, 0, x, h => by
   rw[List.set_cons_zero,List.flatMap_cons,List.flatMap_cons,Nat.zero_mul,List.take_zero,List.nil_append,Nat.zero_add,List.drop_left' (show(Sk a).length=2 from rfl)]
 | a :: R, i + 1, x, h => by
   rw[List.length_cons] at h;rw[List.set_cons_succ,List.flatMap_cons,List.flatMap_cons,z1A R i x (by omega)];rw[show(i+1)*2=(Sk a).length+i*2 by show _=2+_;omega,List.take_length_add_append,Nat.add_assoc,List.drop_length_add_append,List.append_assoc,List.append_assoc,List.append_assoc]
section
variable {p:MZ}{R:List (Value×Nat)}{n wp ed:Nat}
theorem z30 (hR:R.length=17):(TJ p R n wp ed).length=43:=by
 unfold TJ
 rw[List.length_append,List.length_append,Oa,hR];rfl
theorem Wp (hR:R.length=17)(j:Nat):(TJ p R n wp ed)[39+j]? =[I (n:Int),ptr wp 0,I (ed:Int),I 0][j]? :=by
 unfold TJ
 rw[List.getElem?_append_right (by show 5<=_;omega),List.getElem?_append_right (by rw[Oa,hR];show _<=_-5;omega),Oa,hR]
 congr 1
 show 39+j-5-17*2=j
 omega
theorem z3b (hR:R.length=17):(TJ p R n wp ed)[39]? =some (I (n:Int)):=Wp hR 0
theorem zbb (hR:R.length=17):(TJ p R n wp ed)[40]? =some (ptr wp 0):=Wp hR 1
theorem zcQ (hR:R.length=17):(TJ p R n wp ed)[41]? =some (I (ed:Int)):=Wp hR 2
theorem zfm (hR:R.length=17):(TJ p R n wp ed)[42]? =some (I 0):=Wp hR 3
theorem z8G (hR:R.length=17){i:Nat}{v:Value}{c:Nat}(h:R[i]? =some (v,c))(j:Nat)(u:Value)(hj:[v,I (c:Int)][j]? =some u):(TJ p R n wp ed)[5+i*2+j]? =some u:=by
 have hi:=(List.getElem?_eq_some_iff.1 h).1
 have kD:j<2:=(List.getElem?_eq_some_iff.1 hj).1
 unfold TJ
 rw[List.getElem?_append_right (by show 5<=_;omega),show 5+i*2+j-(Rz p).length=i*2+j by show _-5=_;omega,List.getElem?_append_left (by rw[Oa];omega)]
 exact z0v R i j _ u h hj
theorem z4S (hR:R.length=17){i:Nat}(hi:i<17)(v:Value)(c:Nat):Nh (TJ p R n wp ed) (5+i*2) [v,I (c:Int)]=TJ p (R.set i (v,c)) n wp ed:=by
 unfold TJ Nh
 rw[z1A R i (v,c) (by omega)]
 rw[show 5+i*2=(Rz p).length+i*2 from rfl,List.take_length_add_append,show(Rz p).length+i*2+[v,I (c:Int)].length=(Rz p).length+(i*2+2) from rfl,List.drop_length_add_append]
 rw[List.take_append_of_le_length (by rw[Oa];omega),List.drop_append_of_le_length (by rw[Oa];omega)]
 simp only[List.append_assoc]
 rfl
theorem z8A (hR:R.length=17)(m:Nat):(TJ p R n wp ed).set 39 (I (m:Int))=TJ p R m wp ed:=by
 unfold TJ
 rw[List.set_append_right _ _ (by show 5<=_;omega),List.set_append_right _ _ (by rw[Oa,hR];show _<=39-5;omega),Oa,hR]
 rfl
theorem z9b (hR:R.length=17)(m:Nat):(TJ p R n wp ed).set 41 (I (m:Int))=TJ p R n wp m:=by
 unfold TJ
 rw[List.set_append_right _ _ (by show 5<=_;omega),List.set_append_right _ _ (by rw[Oa,hR];show _<=41-5;omega),Oa,hR]
 rfl
end
theorem z6z {w:World}{k:Nat}{p:MZ}{R:List (Value×Nat)}{n wp ed:Nat}(hB:LX w k (TJ p R n wp ed) 255)(hR:R.length=17)(hn:n<=65536)(a:Option Addr)(m cp c:Nat):
  Mm Tryz.prog 140 [ptr k 5,.slice a m cp,I (c:Int)] w λu w'=>u= .tuple #[]/\LX w' k (TJ p (R.set (n%17) (.slice a m cp,c)) (n+1) wp ed) 255/\Kp (λi=>i=k) w w':=by
 refine It (e:=[(0,_),(1,_),(2,_)]) Tryz.func140 rfl Tryz.ntmps140 rfl rfl ?_
 have hg:=Ext.Ma w
 have dw:(R.set (n%17) (.slice a m cp,c)).length=17:=by rw[List.length_set];exact hR
 refine run_seq (Me [12] (λw'=>Ext w w') (by kernel_rfl) rfl (qL [9,10,11,12] 0 rfl (λ_ h=>My rfl) hg (qL [2,3,4,5,11,12] 1 rfl (λ_ h=>My rfl) hg (qL [3,4,5,11,12] 2 rfl (λ_ h=>MS rfl) hg (qL [4,5,11,12] 3 rfl (λ_ h=>Mo Rr rfl) hg (qL [8,11,12] 6 rfl (λ_ h=>My rfl) hg (qL [8,11,12] 7 rfl (λ_ h=>My rfl) hg (qL [11,12] 8 rfl (λ_ h=>OJ (cs:=[_,_]) N0 rfl za4 rfl rfl) hg (qL [10,11,12] 9 rfl (λ_ h=>MS rfl) hg (qL [11,12] 10 rfl (λ_ h=>Mo z3l rfl) hg (qL [5,11,12] 4 rfl (λ_ h=>LR U3 rfl rfl (h.LN hB) (z3b hR)) hg (qL [11,12] 5 rfl (λ_ h=>yre rfl rfl (by omega)) hg (qL [12] 11 rfl (λ_ h=>yia zbp N0 rfl rfl (by omega)) hg ?_)))))))))))))
 refine Pv [12] (qO 12 (Mx (i:=12) rfl rfl (MD (news:=[.slice a m cp,I (c:Int)]) N0 rfl rfl rfl rfl (hg.LN hB) (by rw[z30 hR];show 5+n%17*2+2<=43;omega)) ?_))
 rintro w1 ⟨ai,aK⟩
 refine⟨trivial,?_⟩
 replace ai:LX w1 k (Nh (TJ p R n wp ed) (5+n%17*2) [.slice a m cp,I (c:Int)]) 255:=ai
 rw[z4S hR (Nat.mod_lt _ (by decide))] at ai
 refine qE (LQ rfl (LM rfl (Mp rfl (M0 Rr rfl (qV (LR U3 rfl rfl ai (z3b dw)) (MK rfl rfl (Mp rfl (M0 Rr rfl (M1 rfl (NC MO rfl rfl rfl ai (by rw[z30 dw];decide)) ?_)))))))))
 rintro w2 ⟨am,ao⟩
 replace am:LX w2 k ((TJ p (R.set (n%17) (.slice a m cp,c)) n wp ed).set 39 (I ((n+1:Nat):Int))) 255:=am
 rw[z8A dw] at am
 refine LO (N9 Tryz.func140 rfl ?_)
 exact⟨_,rfl,rfl,am,(hg.kp.trans aK).trans ao⟩
def Qp (p:MZ)(m size c:Nat):Bool:=decide (0<m/\m<=p.most/\0<size/\size<=p.most/\c<p.chain)
theorem Tc {w:World}{k:Nat}{p:MZ}{R:List (Value×Nat)}{n wp ed:Nat}(hB:LX w k (TJ p R n wp ed) 255)(hR:R.length=17)(hn:n<=65536)(hp:p.N4)(ref size:Nat)(h1:1<=ref)(h2:ref<=p.Mh)
  {a:Option Addr} {m cp c:Nat} (hq:ref<=n->R[(n-ref)%17]? =some (.slice a m cp,c)):
  Mm Tryz.prog 138 [ptr k 5,I (ref:Int),I (size:Int),bpV p] w λu w'=>u=(if ref<=n then .tuple #[.agg #[.slice a m cp,I (c:Int)],.bool (Qp p m size c)] else .tuple #[.agg #[.slice none 0 0,I 0],.bool false])/\Ext w w':=by
 have vK:p.Mh<=16:=hp.1.1
 refine It (e:=[(0,_),(1,_),(2,_),(3,_)]) Tryz.func138 rfl Tryz.ntmps138 rfl rfl (qN rfl (LV rfl rfl (NN rfl (cs:=Rz p) rfl) ?_))
 rintro _ w1 ⟨b7,rfl,kX,ad,bN⟩
 refine LV rfl rfl (O9 (cs:=[_,_]) N0 rfl) ?_
 rintro _ w2 ⟨b8,rfl,jh,af,ce⟩
 have z1:=ad.size
 have z2:=af.size
 have l7:=bN.lt
 have l8:=ce.lt
 have aD:=ad.trans af
 have dV:=af.LN bN
 replace dV:LX w2 b7 [I (p.Mh:Int),I (p.chain:Int),I (p.interval:Int),I (p.zeta:Int),I (p.most:Int)] 77:=dV
 replace ce:LX w2 b8 [.slice none 0 0,I 0] 250:=ce
 have su:=aD.LN hB
 have aa:=Ext.Ma w2
 refine LU rfl (run_seq (run_seq ?_))
 rcases Nat.lt_or_ge n ref with aP|kW
 ·refine NF (λw'=>Ext w2 w') rfl (M9 0 rfl rfl (aa) (LS 1 rfl (XF rfl rfl) aa (QG (M9 2 rfl rfl (aa) (M9 3 rfl rfl (aa) (M9 4 rfl rfl (aa) (LS 5 rfl (MS rfl) aa (LS 6 rfl (Mo Rr rfl) aa (LS 8 rfl (Mo XC rfl) aa (qT 9 rfl (λ_ h=>LR U3 rfl rfl (h.LN dV) rfl) aa (qT 7 rfl (λ_ h=>LR U3 rfl rfl (h.LN su) (z3b hR)) aa (LS 10 rfl (ymi rfl rfl) aa (LS 11 rfl (UZ rfl rfl) aa ?_)))))))))))));refine Qq (LS 12 rfl (R8 rfl rfl) aa (qE (M3 rfl (qN rfl (qV (OJ (cs:=[_,_]) N0 rfl za4 rfl rfl) ?_)))));have sw:=aa.LN ce;refine M1 rfl (MD (news:=[.slice none 0 0,I 0]) N0 rfl rfl rfl rfl sw (by simp)) ?_;rintro w3 ⟨sx,ar⟩;replace sx:LX w3 b8 [.slice none 0 0,I 0] 250:=sx;refine LU rfl (Mj Tryz.func138 (.cell Rv rfl N0 rfl (LX.cells (n:=2) sx (news:=[_,_]) rfl) rfl (.tmp rfl .nil)) ?_);rw[if_neg (by omega)];exact⟨_,rfl,rfl,(aD.trans aa).LJ ar (λi e=>by omega)⟩
 ·have gy:=hq kW;rw[if_pos kW];refine NF (λw'=>Ext w2 w') rfl (M9 0 rfl rfl (aa) (LS 1 rfl (XF rfl rfl) aa (QG (M9 2 rfl rfl (aa) (M9 3 rfl rfl (aa) (M9 4 rfl rfl (aa) (LS 5 rfl (MS rfl) aa (LS 6 rfl (Mo Rr rfl) aa (LS 8 rfl (Mo XC rfl) aa (qT 9 rfl (λ_ h=>LR U3 rfl rfl (h.LN dV) rfl) aa (qT 7 rfl (λ_ h=>LR U3 rfl rfl (h.LN su) (z3b hR)) aa (LS 10 rfl (ymi rfl rfl) aa (LS 11 rfl (UZ rfl rfl) aa ?_)))))))))))));refine QG (LS 12 rfl (R8 rfl rfl) aa (qE (An rfl (py (run_seq ?_)))));have ag:=aa.trans (Ext.Ma w2.drew);have eQ:=Ext.Ma w2.drew;have mZ:=aa.LN su;refine Me [13] (λw'=>Ext w2.drew w') (by kernel_rfl) rfl (qL [8,9,10,11,13] 0 rfl (λ_ h=>My rfl) eQ (qL [2,3,4,6,7,10,11,13] 1 rfl (λ_ h=>My rfl) eQ (qL [3,4,6,7,10,11,13] 2 rfl (λ_ h=>MS rfl) eQ (qL [4,6,7,10,11,13] 3 rfl (λ_ h=>Mo Rr rfl) eQ (qL [6,7,10,11,13] 5 rfl (λ_ h=>My rfl) eQ (qL [9,10,11,13] 8 rfl (λ_ h=>MS rfl) eQ (qL [10,11,13] 9 rfl (λ_ h=>Mo z3l rfl) eQ (qL [6,7,10,11,13] 4 rfl (λ_ h=>LR U3 rfl rfl (h.LN mZ) (z3b hR)) eQ (qL [7,10,11,13] 6 rfl (λ_ h=>TF rfl rfl (by omega)) eQ ?_)))))))));rw[show(n:Int)-(ref:Int)=((n-ref:Nat):Int) by omega];refine qL [10,11,13] 7 rfl (λ_ h=>yre rfl rfl (by omega)) eQ (qL [11,13] 10 rfl (λ_ h=>yia zbp N0 rfl rfl (by omega)) eQ (qL [13] 11 rfl (λ_ h=>Mk (news:=[.slice a m cp,I (c:Int)]) Rv rfl N0 rfl (λj u hj=>by rw[(h.LN mZ).cell];exact z8G hR gy j u hj) rfl) eQ ?_));refine Nw (i:=12) (by kernel_rfl) (MV (i:=12) rfl rfl rfl (O9 (cs:=[_,_]) N0 rfl) ?_);rintro _ w3 ⟨b10,rfl,Ay,ah,fd⟩;refine⟨eQ.trans ah,?_⟩;refine Pv [13] (qO 13 (Mx (i:=13) rfl rfl (MD (news:=[.slice a m cp,I (c:Int)]) N0 rfl rfl rfl rfl fd (by simp)) ?_));rintro w4 ⟨aW,ax⟩;refine⟨trivial,?_⟩;replace aW:LX w4 b10 [.slice a m cp,I (c:Int)] 250:=aW;have z23:=ag.size;have z3:=ah.size;have cZ:Ext w2 w4:=(ag.trans ah).LJ ax (λi e=>by omega);have z4:=cZ.size;have et:=cZ.LN ce;have bV:=cZ.LN dV;have ae:=Ext.Ma w4;refine qE (Mn.qb (e:=[(2,_),(7,_),(8,_),(9,_),(10,_)]) ?_);refine run_seq ?_;rcases Nat.eq_zero_or_pos m with c0|c0
  ·refine NF (λw'=>Kp (λi=>i=b8) w4 w') rfl (qT 0 rfl (λ_ hS=>(by first|exact Mk Rv rfl N0 rfl (LX.cells (n:=2) (hS.LN aW (by omega)) (news:=[_,_]) rfl) rfl|exact Mk Rv rfl N0 rfl (LX.cells (n:=2) (hS.LN bV (by omega)) (news:=[_,_]) rfl) rfl)) (ae.kp) ?_);refine LS 1 rfl (Mo OP rfl) (ae.kp) (qT 2 rfl (λ_ hS=>(by first|exact LR Ml rfl rfl (hS.LN aW (by omega)) rfl|exact LR Ml rfl rfl (hS.LN bV (by omega)) rfl)) (ae.kp) ?_);refine LS 3 rfl (OZ Ml rfl) (ae.kp) (LS 4 rfl (UZ rfl rfl) (ae.kp) (QG (M9 5 rfl rfl (ae.kp) (qJ 6 rfl (ae.kp) (qJ 7 rfl (ae.kp) (qJ 8 rfl (ae.kp) (qJ 9 rfl (ae.kp) (qJ 10 rfl (ae.kp) (qJ 11 rfl (ae.kp) (LS 12 rfl (R8 rfl rfl) (ae.kp) (M9 13 rfl rfl (ae.kp) (qJ 14 rfl (ae.kp) (qJ 15 rfl (ae.kp) ?_)))))))))))));refine LS 16 rfl (R8 rfl rfl) (ae.kp) (M9 17 rfl rfl (ae.kp) (qJ 18 rfl (ae.kp) (qJ 19 rfl (ae.kp) (qJ 20 rfl (ae.kp) (qJ 21 rfl (ae.kp) (LS 22 rfl (R8 rfl rfl) (ae.kp) (M9 23 rfl rfl (ae.kp) (qJ 24 rfl (ae.kp) (qJ 25 rfl (ae.kp) (qJ 26 rfl (ae.kp) (qJ 27 rfl (ae.kp) (qJ 28 rfl (ae.kp) (LS 29 rfl (R8 rfl rfl) (ae.kp) ?_)))))))))))));refine qO 30 (Mx (i:=30) rfl rfl (MD (news:=[.slice a m cp,I (c:Int)]) N0 rfl rfl rfl rfl (ae.LN et) (by simp)) ?_);rintro w5 ⟨bE,aj⟩;refine⟨ae.kp.trans aj,?_⟩;replace bE:LX w5 b8 [.slice a m cp,I (c:Int)] 250:=bE;refine LS 31 rfl (NK rfl) (ae.kp.trans aj) (qE (Mn.qb (e:=[(8,_),(9,_)]) ?_));refine Mj Tryz.func138 (.cell Rv rfl N0 rfl (LX.cells (n:=2) bE (news:=[_,_]) rfl) rfl (.tmp rfl .nil)) ?_;have au:Qp p m size c=false:=decide_eq_false (λh=>by omega);rw[au];exact⟨_,rfl,rfl,((aD.trans cZ).trans ae).LJ aj (λi e=>by omega)⟩
  ·rcases Nat.lt_or_ge p.most m with c1|c1
   ·refine NF (λw'=>Kp (λi=>i=b8) w4 w') rfl (qT 0 rfl (λ_ hS=>(by first|exact Mk Rv rfl N0 rfl (LX.cells (n:=2) (hS.LN aW (by omega)) (news:=[_,_]) rfl) rfl|exact Mk Rv rfl N0 rfl (LX.cells (n:=2) (hS.LN bV (by omega)) (news:=[_,_]) rfl) rfl)) (ae.kp) ?_);refine LS 1 rfl (Mo OP rfl) (ae.kp) (qT 2 rfl (λ_ hS=>(by first|exact LR Ml rfl rfl (hS.LN aW (by omega)) rfl|exact LR Ml rfl rfl (hS.LN bV (by omega)) rfl)) (ae.kp) ?_);refine LS 3 rfl (OZ Ml rfl) (ae.kp) (LS 4 rfl (UZ rfl rfl) (ae.kp) (Qq (M9 5 rfl rfl (ae.kp) (LS 6 rfl (Mo OP rfl) (ae.kp) (qT 7 rfl (λ_ hS=>(by first|exact LR Ml rfl rfl (hS.LN aW (by omega)) rfl|exact LR Ml rfl rfl (hS.LN bV (by omega)) rfl)) (ae.kp) ?_)))));refine LS 8 rfl (OZ Ml rfl) (ae.kp) (LS 9 rfl (Mo PS rfl) (ae.kp) (qT 10 rfl (λ_ hS=>(by first|exact LR U3 rfl rfl (hS.LN aW (by omega)) rfl|exact LR U3 rfl rfl (hS.LN bV (by omega)) rfl)) (ae.kp) ?_));refine LS 11 rfl (V7 rfl rfl) (ae.kp) (QG (LS 12 rfl (Rx rfl rfl) (ae.kp) (M9 13 rfl rfl (ae.kp) (qJ 14 rfl (ae.kp) (qJ 15 rfl (ae.kp) (LS 16 rfl (R8 rfl rfl) (ae.kp) (M9 17 rfl rfl (ae.kp) (qJ 18 rfl (ae.kp) (qJ 19 rfl (ae.kp) (qJ 20 rfl (ae.kp) (qJ 21 rfl (ae.kp) (LS 22 rfl (R8 rfl rfl) (ae.kp) (M9 23 rfl rfl (ae.kp) ?_)))))))))))));refine qJ 24 rfl (ae.kp) (qJ 25 rfl (ae.kp) (qJ 26 rfl (ae.kp) (qJ 27 rfl (ae.kp) (qJ 28 rfl (ae.kp) (LS 29 rfl (R8 rfl rfl) (ae.kp) (qO 30 (Mx (i:=30) rfl rfl (MD (news:=[.slice a m cp,I (c:Int)]) N0 rfl rfl rfl rfl (ae.LN et) (by simp)) ?_)))))));rintro w5 ⟨bE,aj⟩;refine⟨ae.kp.trans aj,?_⟩;replace bE:LX w5 b8 [.slice a m cp,I (c:Int)] 250:=bE;refine LS 31 rfl (NK rfl) (ae.kp.trans aj) (qE (Mn.qb (e:=[(8,_),(9,_)]) ?_));refine Mj Tryz.func138 (.cell Rv rfl N0 rfl (LX.cells (n:=2) bE (news:=[_,_]) rfl) rfl (.tmp rfl .nil)) ?_;have au:Qp p m size c=false:=decide_eq_false (λh=>by omega);rw[au];exact⟨_,rfl,rfl,((aD.trans cZ).trans ae).LJ aj (λi e=>by omega)⟩
   ·rcases Nat.eq_zero_or_pos size with c2|c2
    ·refine NF (λw'=>Kp (λi=>i=b8) w4 w') rfl (qT 0 rfl (λ_ hS=>(by first|exact Mk Rv rfl N0 rfl (LX.cells (n:=2) (hS.LN aW (by omega)) (news:=[_,_]) rfl) rfl|exact Mk Rv rfl N0 rfl (LX.cells (n:=2) (hS.LN bV (by omega)) (news:=[_,_]) rfl) rfl)) (ae.kp) ?_);refine LS 1 rfl (Mo OP rfl) (ae.kp) (qT 2 rfl (λ_ hS=>(by first|exact LR Ml rfl rfl (hS.LN aW (by omega)) rfl|exact LR Ml rfl rfl (hS.LN bV (by omega)) rfl)) (ae.kp) ?_);refine LS 3 rfl (OZ Ml rfl) (ae.kp) (LS 4 rfl (UZ rfl rfl) (ae.kp) (Qq (M9 5 rfl rfl (ae.kp) (LS 6 rfl (Mo OP rfl) (ae.kp) (qT 7 rfl (λ_ hS=>(by first|exact LR Ml rfl rfl (hS.LN aW (by omega)) rfl|exact LR Ml rfl rfl (hS.LN bV (by omega)) rfl)) (ae.kp) ?_)))));refine LS 8 rfl (OZ Ml rfl) (ae.kp) (LS 9 rfl (Mo PS rfl) (ae.kp) (qT 10 rfl (λ_ hS=>(by first|exact LR U3 rfl rfl (hS.LN aW (by omega)) rfl|exact LR U3 rfl rfl (hS.LN bV (by omega)) rfl)) (ae.kp) ?_));refine LS 11 rfl (V7 rfl rfl) (ae.kp) (Qq (LS 12 rfl (Rx rfl rfl) (ae.kp) (M9 13 rfl rfl (ae.kp) (M9 14 rfl rfl (ae.kp) (LS 15 rfl (UZ rfl rfl) (ae.kp) (QG (LS 16 rfl (Rx rfl rfl) (ae.kp) (M9 17 rfl rfl (ae.kp) (qJ 18 rfl (ae.kp) (qJ 19 rfl (ae.kp) (qJ 20 rfl (ae.kp) (qJ 21 rfl (ae.kp) (LS 22 rfl (R8 rfl rfl) (ae.kp) ?_)))))))))))));refine M9 23 rfl rfl (ae.kp) (qJ 24 rfl (ae.kp) (qJ 25 rfl (ae.kp) (qJ 26 rfl (ae.kp) (qJ 27 rfl (ae.kp) (qJ 28 rfl (ae.kp) (LS 29 rfl (R8 rfl rfl) (ae.kp) (qO 30 (Mx (i:=30) rfl rfl (MD (news:=[.slice a m cp,I (c:Int)]) N0 rfl rfl rfl rfl (ae.LN et) (by simp)) ?_))))))));rintro w5 ⟨bE,aj⟩;refine⟨ae.kp.trans aj,?_⟩;replace bE:LX w5 b8 [.slice a m cp,I (c:Int)] 250:=bE;refine LS 31 rfl (NK rfl) (ae.kp.trans aj) (qE (Mn.qb (e:=[(8,_),(9,_)]) ?_));refine Mj Tryz.func138 (.cell Rv rfl N0 rfl (LX.cells (n:=2) bE (news:=[_,_]) rfl) rfl (.tmp rfl .nil)) ?_;have au:Qp p m size c=false:=decide_eq_false (λh=>by omega);rw[au];exact⟨_,rfl,rfl,((aD.trans cZ).trans ae).LJ aj (λi e=>by omega)⟩
    ·rcases Nat.lt_or_ge p.most size with c3|c3
     ·refine NF (λw'=>Kp (λi=>i=b8) w4 w') rfl (qT 0 rfl (λ_ hS=>(by first|exact Mk Rv rfl N0 rfl (LX.cells (n:=2) (hS.LN aW (by omega)) (news:=[_,_]) rfl) rfl|exact Mk Rv rfl N0 rfl (LX.cells (n:=2) (hS.LN bV (by omega)) (news:=[_,_]) rfl) rfl)) (ae.kp) ?_);refine LS 1 rfl (Mo OP rfl) (ae.kp) (qT 2 rfl (λ_ hS=>(by first|exact LR Ml rfl rfl (hS.LN aW (by omega)) rfl|exact LR Ml rfl rfl (hS.LN bV (by omega)) rfl)) (ae.kp) ?_);refine LS 3 rfl (OZ Ml rfl) (ae.kp) (LS 4 rfl (UZ rfl rfl) (ae.kp) (Qq (M9 5 rfl rfl (ae.kp) (LS 6 rfl (Mo OP rfl) (ae.kp) (qT 7 rfl (λ_ hS=>(by first|exact LR Ml rfl rfl (hS.LN aW (by omega)) rfl|exact LR Ml rfl rfl (hS.LN bV (by omega)) rfl)) (ae.kp) ?_)))));refine LS 8 rfl (OZ Ml rfl) (ae.kp) (LS 9 rfl (Mo PS rfl) (ae.kp) (qT 10 rfl (λ_ hS=>(by first|exact LR U3 rfl rfl (hS.LN aW (by omega)) rfl|exact LR U3 rfl rfl (hS.LN bV (by omega)) rfl)) (ae.kp) ?_));refine LS 11 rfl (V7 rfl rfl) (ae.kp) (Qq (LS 12 rfl (Rx rfl rfl) (ae.kp) (M9 13 rfl rfl (ae.kp) (M9 14 rfl rfl (ae.kp) (LS 15 rfl (UZ rfl rfl) (ae.kp) (Qq (LS 16 rfl (Rx rfl rfl) (ae.kp) (M9 17 rfl rfl (ae.kp) (M9 18 rfl rfl (ae.kp) (LS 19 rfl (Mo PS rfl) (ae.kp) (qT 20 rfl (λ_ hS=>(by first|exact LR U3 rfl rfl (hS.LN aW (by omega)) rfl|exact LR U3 rfl rfl (hS.LN bV (by omega)) rfl)) (ae.kp) ?_)))))))))));refine LS 21 rfl (V7 rfl rfl) (ae.kp) (QG (LS 22 rfl (Rx rfl rfl) (ae.kp) (M9 23 rfl rfl (ae.kp) (qJ 24 rfl (ae.kp) (qJ 25 rfl (ae.kp) (qJ 26 rfl (ae.kp) (qJ 27 rfl (ae.kp) (qJ 28 rfl (ae.kp) (LS 29 rfl (R8 rfl rfl) (ae.kp) (qO 30 (Mx (i:=30) rfl rfl (MD (news:=[.slice a m cp,I (c:Int)]) N0 rfl rfl rfl rfl (ae.LN et) (by simp)) ?_)))))))))));rintro w5 ⟨bE,aj⟩;refine⟨ae.kp.trans aj,?_⟩;replace bE:LX w5 b8 [.slice a m cp,I (c:Int)] 250:=bE;refine LS 31 rfl (NK rfl) (ae.kp.trans aj) (qE (Mn.qb (e:=[(8,_),(9,_)]) ?_));refine Mj Tryz.func138 (.cell Rv rfl N0 rfl (LX.cells (n:=2) bE (news:=[_,_]) rfl) rfl (.tmp rfl .nil)) ?_;have au:Qp p m size c=false:=decide_eq_false (λh=>by omega);rw[au];exact⟨_,rfl,rfl,((aD.trans cZ).trans ae).LJ aj (λi e=>by omega)⟩
     ·rcases Nat.lt_or_ge c p.chain with c4|c4
      ·refine NF (λw'=>Kp (λi=>i=b8) w4 w') rfl (qT 0 rfl (λ_ hS=>(by first|exact Mk Rv rfl N0 rfl (LX.cells (n:=2) (hS.LN aW (by omega)) (news:=[_,_]) rfl) rfl|exact Mk Rv rfl N0 rfl (LX.cells (n:=2) (hS.LN bV (by omega)) (news:=[_,_]) rfl) rfl)) (ae.kp) ?_);refine LS 1 rfl (Mo OP rfl) (ae.kp) (qT 2 rfl (λ_ hS=>(by first|exact LR Ml rfl rfl (hS.LN aW (by omega)) rfl|exact LR Ml rfl rfl (hS.LN bV (by omega)) rfl)) (ae.kp) ?_);refine LS 3 rfl (OZ Ml rfl) (ae.kp) (LS 4 rfl (UZ rfl rfl) (ae.kp) (Qq (M9 5 rfl rfl (ae.kp) (LS 6 rfl (Mo OP rfl) (ae.kp) (qT 7 rfl (λ_ hS=>(by first|exact LR Ml rfl rfl (hS.LN aW (by omega)) rfl|exact LR Ml rfl rfl (hS.LN bV (by omega)) rfl)) (ae.kp) ?_)))));refine LS 8 rfl (OZ Ml rfl) (ae.kp) (LS 9 rfl (Mo PS rfl) (ae.kp) (qT 10 rfl (λ_ hS=>(by first|exact LR U3 rfl rfl (hS.LN aW (by omega)) rfl|exact LR U3 rfl rfl (hS.LN bV (by omega)) rfl)) (ae.kp) ?_));refine LS 11 rfl (V7 rfl rfl) (ae.kp) (Qq (LS 12 rfl (Rx rfl rfl) (ae.kp) (M9 13 rfl rfl (ae.kp) (M9 14 rfl rfl (ae.kp) (LS 15 rfl (UZ rfl rfl) (ae.kp) (Qq (LS 16 rfl (Rx rfl rfl) (ae.kp) (M9 17 rfl rfl (ae.kp) (M9 18 rfl rfl (ae.kp) (LS 19 rfl (Mo PS rfl) (ae.kp) (qT 20 rfl (λ_ hS=>(by first|exact LR U3 rfl rfl (hS.LN aW (by omega)) rfl|exact LR U3 rfl rfl (hS.LN bV (by omega)) rfl)) (ae.kp) ?_)))))))))));refine LS 21 rfl (V7 rfl rfl) (ae.kp) (Qq (LS 22 rfl (Rx rfl rfl) (ae.kp) (M9 23 rfl rfl (ae.kp) (LS 24 rfl (Mo Zt rfl) (ae.kp) (qT 25 rfl (λ_ hS=>(by first|exact LR U3 rfl rfl (hS.LN aW (by omega)) rfl|exact LR U3 rfl rfl (hS.LN bV (by omega)) rfl)) (ae.kp) ?_)))));refine LS 26 rfl (Mo Vj rfl) (ae.kp) (qT 27 rfl (λ_ hS=>(by first|exact LR U3 rfl rfl (hS.LN aW (by omega)) rfl|exact LR U3 rfl rfl (hS.LN bV (by omega)) rfl)) (ae.kp) ?_);refine LS 28 rfl (XF rfl rfl) (ae.kp) (Qq (LS 29 rfl (Rx rfl rfl) (ae.kp) (qO 30 (Mx (i:=30) rfl rfl (MD (news:=[.slice a m cp,I (c:Int)]) N0 rfl rfl rfl rfl (ae.LN et) (by simp)) ?_))));rintro w5 ⟨bE,aj⟩;refine⟨ae.kp.trans aj,?_⟩;replace bE:LX w5 b8 [.slice a m cp,I (c:Int)] 250:=bE;refine LS 31 rfl (NK rfl) (ae.kp.trans aj) (qE (Mn.qb (e:=[(8,_),(9,_)]) ?_));refine Mj Tryz.func138 (.cell Rv rfl N0 rfl (LX.cells (n:=2) bE (news:=[_,_]) rfl) rfl (.tmp rfl .nil)) ?_;have au:Qp p m size c=true:=decide_eq_true ⟨by omega,by omega,by omega,by omega,by omega⟩;rw[au];exact⟨_,rfl,rfl,((aD.trans cZ).trans ae).LJ aj (λi e=>by omega)⟩
      ·refine NF (λw'=>Kp (λi=>i=b8) w4 w') rfl (qT 0 rfl (λ_ hS=>(by first|exact Mk Rv rfl N0 rfl (LX.cells (n:=2) (hS.LN aW (by omega)) (news:=[_,_]) rfl) rfl|exact Mk Rv rfl N0 rfl (LX.cells (n:=2) (hS.LN bV (by omega)) (news:=[_,_]) rfl) rfl)) (ae.kp) ?_);refine LS 1 rfl (Mo OP rfl) (ae.kp) (qT 2 rfl (λ_ hS=>(by first|exact LR Ml rfl rfl (hS.LN aW (by omega)) rfl|exact LR Ml rfl rfl (hS.LN bV (by omega)) rfl)) (ae.kp) ?_);refine LS 3 rfl (OZ Ml rfl) (ae.kp) (LS 4 rfl (UZ rfl rfl) (ae.kp) (Qq (M9 5 rfl rfl (ae.kp) (LS 6 rfl (Mo OP rfl) (ae.kp) (qT 7 rfl (λ_ hS=>(by first|exact LR Ml rfl rfl (hS.LN aW (by omega)) rfl|exact LR Ml rfl rfl (hS.LN bV (by omega)) rfl)) (ae.kp) ?_)))));refine LS 8 rfl (OZ Ml rfl) (ae.kp) (LS 9 rfl (Mo PS rfl) (ae.kp) (qT 10 rfl (λ_ hS=>(by first|exact LR U3 rfl rfl (hS.LN aW (by omega)) rfl|exact LR U3 rfl rfl (hS.LN bV (by omega)) rfl)) (ae.kp) ?_));refine LS 11 rfl (V7 rfl rfl) (ae.kp) (Qq (LS 12 rfl (Rx rfl rfl) (ae.kp) (M9 13 rfl rfl (ae.kp) (M9 14 rfl rfl (ae.kp) (LS 15 rfl (UZ rfl rfl) (ae.kp) (Qq (LS 16 rfl (Rx rfl rfl) (ae.kp) (M9 17 rfl rfl (ae.kp) (M9 18 rfl rfl (ae.kp) (LS 19 rfl (Mo PS rfl) (ae.kp) (qT 20 rfl (λ_ hS=>(by first|exact LR U3 rfl rfl (hS.LN aW (by omega)) rfl|exact LR U3 rfl rfl (hS.LN bV (by omega)) rfl)) (ae.kp) ?_)))))))))));refine LS 21 rfl (V7 rfl rfl) (ae.kp) (Qq (LS 22 rfl (Rx rfl rfl) (ae.kp) (M9 23 rfl rfl (ae.kp) (LS 24 rfl (Mo Zt rfl) (ae.kp) (qT 25 rfl (λ_ hS=>(by first|exact LR U3 rfl rfl (hS.LN aW (by omega)) rfl|exact LR U3 rfl rfl (hS.LN bV (by omega)) rfl)) (ae.kp) ?_)))));refine LS 26 rfl (Mo Vj rfl) (ae.kp) (qT 27 rfl (λ_ hS=>(by first|exact LR U3 rfl rfl (hS.LN aW (by omega)) rfl|exact LR U3 rfl rfl (hS.LN bV (by omega)) rfl)) (ae.kp) ?_);refine LS 28 rfl (XF rfl rfl) (ae.kp) (QG (LS 29 rfl (Rx rfl rfl) (ae.kp) (qO 30 (Mx (i:=30) rfl rfl (MD (news:=[.slice a m cp,I (c:Int)]) N0 rfl rfl rfl rfl (ae.LN et) (by simp)) ?_))));rintro w5 ⟨bE,aj⟩;refine⟨ae.kp.trans aj,?_⟩;replace bE:LX w5 b8 [.slice a m cp,I (c:Int)] 250:=bE;refine LS 31 rfl (NK rfl) (ae.kp.trans aj) (qE (Mn.qb (e:=[(8,_),(9,_)]) ?_));refine Mj Tryz.func138 (.cell Rv rfl N0 rfl (LX.cells (n:=2) bE (news:=[_,_]) rfl) rfl (.tmp rfl .nil)) ?_;have au:Qp p m size c=false:=decide_eq_false (λh=>by omega);rw[au];exact⟨_,rfl,rfl,((aD.trans cZ).trans ae).LJ aj (λi e=>by omega)⟩
abbrev z3I:List (Value×Nat):=List.replicate 17 (.slice none 0 0,0)
theorem z5R (p:MZ)(hp:p.N4)(w:World):Mm Tryz.prog 96 [bpV p] w λu w'=>∃k wp F,u= .tuple #[ptr k 0,I 0]/\LX w' k (TJ p z3I 0 wp 0) 255/\UH w' wp [] F/\¬F k/\Ext w w'/\w.heap.size<=k/\∀i,F i->w.heap.size<=i:=by
 refine It (e:=[(0,_)]) Tryz.func96 rfl Tryz.ntmps96 rfl rfl (qN rfl (LV rfl rfl (NN rfl (cs:=Rz p) rfl) ?_))
 rintro _ w1 ⟨b1,rfl,bR,ad,ai⟩
 have z1:=ad.size
 refine M6 rfl (LU rfl (run_seq (qN rfl (qV (Mk (news:=Rz p) Xi rfl O3 rfl (ai.cells (n:=5) rfl) rfl) (Mb z9P rfl (W3 p hp w1) ?_)))))
 rintro _ w2 ⟨rfl,af⟩
 have z2:=af.size
 have hg:=Ext.Ma w2
 refine M6 rfl (qM rfl (LM rfl (MY rfl rfl (LO (An rfl (py (run_seq (NF (λw'=>Ext w2 w') rfl (qT 0 rfl (λ_ hS=>Mk (news:=Rz p) Xi rfl O3 rfl ((hS.LN (af.LN ai)).cells (n:=5) rfl) rfl) hg (Pw 1 rfl WV rfl (QX _) ?_))))))))))
 rintro _ w3 ⟨wp,F,rfl,lF,ah,pi⟩
 refine⟨hg.trans ah,?_⟩
 have dy:=hg.trans ah
 have z3:=dy.size
 refine LS 2 rfl (OJ zc6 rfl zbV rfl rfl) (hg.trans ah) (qO 3 (VP (i:=3) rfl rfl rfl (NN rfl (cs:=TJ p z3I 0 wp 0) rfl) ?_))
 rintro _ w4 ⟨k,rfl,hk,aC,aM⟩
 refine⟨dy.trans aC,?_⟩
 refine LS 4 rfl (NK rfl) (dy.trans aC) (LS 5 rfl (NK rfl) (dy.trans aC) (qE (LP Tryz.func96 rfl ?_)))
 exact⟨_,rfl,k,wp,F,rfl,aM,lF.ext aC,λe=>by have:=lF.lt e;omega,((ad.trans af).trans dy).trans aC,by omega,λi hi=>by have:=pi i hi;have:=hg.size;omega⟩
structure PkM (w:World)(k:Nat)(p:MZ)(L:List (List Nat))(E:List (Nat×Nat))(bs:List Bool)(F:Nat->Prop)(R:List (Value×Nat))(wp ed:Nat):Prop where
 LN:LX w k (TJ p R L.length wp ed) 255
 len:R.length=17
 wr:UH w wp bs F
 nk:¬F k
 el:E.length=L.length
 ok:∀l∈L,Mw l
 ring:∀j l e,L[j]? =some l->E[j]? =some e->L.length<=j+17->∃a cp,R[j%17]? =some (.slice a l.length cp,e.2)/\l.length<=cp/\Sl w (.slice a l.length cp) 46 1 l.length (l.map Ms)/\(∀g,(Value.slice a l.length cp).ownBlock=some g->¬F g/\g≠k)
theorem PkM.ext {w w':World}{k:Nat}{p:MZ}{L:List (List Nat)}{E:List (Nat×Nat)}{bs:List Bool}{F:Nat->Prop}{R:List (Value×Nat)}{wp ed:Nat}(h:PkM w k p L E bs F R wp ed)(hx:Ext w w'):PkM w' k p L E bs F R wp ed:=
 ⟨hx.LN h.LN,h.len,h.wr.ext hx,h.nk,h.el,h.ok,λj l e h1 h2 h3=>by
  obtain⟨a,cp,g1,g2,g3,g4⟩:=h.ring j l e h1 h2 h3
  exact⟨a,cp,g1,g2,g3.ext hx,g4⟩⟩
def Found (p:MZ)(L:List (List Nat))(E:List (Nat×Nat))(R:List (Value×Nat))(size ref:Nat)(v:Value)(c:Nat):Prop:=
 (ref=0/\v= .slice none 0 0/\c=0)\/(1<=ref/\ref<=p.Mh/\ref<=L.length/\R[(L.length-ref)%17]? =some (v,c)/\∃l e,L[L.length-ref]? =some l/\E[L.length-ref]? =some e/\c=e.2/\Qp p l.length size e.2=true)
structure AdM (w:World)(k b2 b3 b7 b8 b4 b9:Nat)(a:Option Addr)(m cp n least ref:Nat)(v:Value)(c:Nat):Prop where
 c2:LX w b2 [ptr k 0] 197
 c3:LX w b3 [.slice a m cp] 45
 c7:LX w b7 [I (n:Int)] 3
 c8:LX w b8 [I (least:Int)] 3
 c4:LX w b4 [I (ref:Int)] 3
 c9:LX w b9 [v,I (c:Int)] 250
theorem AdM.kp {S:Nat->Prop}{w w':World}{k b2 b3 b7 b8 b4 b9:Nat}{a:Option Addr}{m cp n least ref:Nat}{v:Value}{c:Nat}(h:AdM w k b2 b3 b7 b8 b4 b9 a m cp n least ref v c)(hk:Kp S w w')(hn:∀i,S i->i≠b2/\i≠b3/\i≠b7/\i≠b8/\i≠b4/\i≠b9):AdM w' k b2 b3 b7 b8 b4 b9 a m cp n least ref v c:=
 ⟨hk.LN h.c2 (λe=>(hn _ e).1 rfl),hk.LN h.c3 (λe=>(hn _ e).2.1 rfl),hk.LN h.c7 (λe=>(hn _ e).2.2.1 rfl),hk.LN h.c8 (λe=>(hn _ e).2.2.2.1 rfl),hk.LN h.c4 (λe=>(hn _ e).2.2.2.2.1 rfl),hk.LN h.c9 (λe=>(hn _ e).2.2.2.2.2 rfl)⟩
theorem AdM.ext {w w':World}{k b2 b3 b7 b8 b4 b9:Nat}{a:Option Addr}{m cp n least ref:Nat}{v:Value}{c:Nat}(h:AdM w k b2 b3 b7 b8 b4 b9 a m cp n least ref v c)(hk:Ext w w'):AdM w' k b2 b3 b7 b8 b4 b9 a m cp n least ref v c:=h.kp (S:=λ_=>False) hk.kp (λi e=>e.elim)
theorem z9e {w:World}{k:Nat}{p:MZ}(hp:p.N4){L:List (List Nat)}{E:List (Nat×Nat)}{bs:List Bool}{F:Nat->Prop}{R:List (Value×Nat)}{wp ed:Nat}(h:PkM w k p L E bs F R wp ed)(hG:LX w 1 (OU .gamma) 298)(hU:LX w 2 (OU .unary) 298)(hL:L.length<65536)
  {b2 b3 b7 b8 b4 b9:Nat} {a:Option Addr} {cp least ref:Nat} {v:Value} {c:Nat} {succ:List Nat} (hs:Mw succ) (kL:succ.length<=cp) (eg:Rd w (.slice a succ.length cp) 1 succ.length (succ.map Ms)) (hA:AdM w k b2 b3 b7 b8 b4 b9 a succ.length cp L.length least ref v c) (hF:Found p L E R succ.length ref v c)
  (hd:b8≠b2/\b8≠b3/\b8≠b7/\b4≠b2/\b4≠b3/\b4≠b7/\b9≠b2/\b9≠b3/\b9≠b7/\b8≠b4/\b8≠b9/\b4≠b9) (r:Nat) (h1:1<=r) (h2:r<=p.Mh):
  Mm Tryz.prog 137 [I (r:Int),ptr b2 0,ptr b3 0,ptr b7 0,ptr b8 0,ptr b4 0,ptr b9 0] w λu w'=>u= .tuple #[]/\Kp (λi=>i=b8\/i=b4\/i=b9) w w'/\∃least' ref' v' c',AdM w' k b2 b3 b7 b8 b4 b9 a succ.length cp L.length least' ref' v' c'/\Found p L E R succ.length ref' v' c':=by
 have vK:p.Mh<=16:=hp.1.1
 obtain⟨a1,c1,m1,e1,vL,HO⟩:∃a1 c1 m1 e1,(r<=L.length->R[(L.length-r)%17]? =some (.slice a1 m1 c1,e1))/\(r<=L.length->∃l e,L[L.length-r]? =some l/\E[L.length-r]? =some e/\m1=l.length/\e1=e.2/\l.length<=c1/\Sl w (.slice a1 l.length c1) 46 1 l.length (l.map Ms)):=by
  by_cases hr:r<=L.length
  ·obtain⟨l,hl⟩:∃l,L[L.length-r]? =some l:=⟨_,List.getElem?_eq_getElem (by omega)⟩;obtain⟨e,he⟩:∃e,E[L.length-r]? =some e:=⟨_,List.getElem?_eq_getElem (by have:=h.el;omega)⟩;obtain⟨a1,c1,g1,g2,g3,g4⟩:=h.ring _ l e hl he (by omega);exact⟨a1,c1,l.length,e.2,λ_=>g1,λ_=>⟨l,e,hl,he,rfl,rfl,g2,g3⟩⟩
  ·exact⟨none,0,0,0,λe=>absurd e hr,λe=>absurd e hr⟩
 have eI:=hA.c2
 have lH:=hA.c3
 have hg:=Ext.Ma w
 have lI:∀{w2:World},LX w2 k (TJ p R L.length wp ed) 255->∀j u,(Rz p)[j]? =some u->w2.cell? ⟨k,0+j,none⟩=some u:=λhB j u hj=>hB.cells (i:=0) (n:=5) (news:=Rz p) rfl j u hj
 refine It (e:=[(0,_),(1,_),(2,_),(3,_),(4,_),(5,_),(6,_)]) Tryz.func137 rfl Tryz.ntmps137 rfl rfl (run_seq (MA (λe' w'=>∃tb v1 d1 ok,e'=[(0,I (r:Int)),(1,ptr b2 0),(2,ptr b3 0),(3,ptr b7 0),(4,ptr b8 0),(5,ptr b4 0),(6,ptr b9 0),(8,ptr tb 0),(9,.bool ok)]/\Ext w w'/\w.heap.size<=tb/\LX w' tb [v1,I ((d1:Nat):Int)] 250/\(ok=true->r<=L.length/\v1= .slice a1 m1 c1/\d1=e1/\Qp p m1 succ.length e1=true)) ?cu (λcu=>?cM)))
 case cu=>
  rintro e' w1 ⟨tb,v1,d1,ok,rfl,ad,HI,vM,au⟩;have kF:=hA.ext ad;have og:=kF.c2;have ji:=kF.c3;have zv:=kF.c7;have Fz:=kF.c8;refine run_seq (qN rfl (LM rfl (qV ((by first|exact ML rfl|exact Oh rfl)) ?_)));refine LO (MR rfl (λh3=>?_) (λh3=>?_))
  ·refine LP Tryz.func137 rfl ?_;exact⟨_,rfl,rfl,ad.kp,_,_,_,_,kF,hF⟩
  ·have BH:ok=true:=by cases ok<;>simp_all
   obtain⟨BI,rfl,rfl,gd⟩:=au BH;obtain⟨l,e,hl,he,rfl,rfl,oe,HP⟩:=HO BI;have BJ:=vL BI;have BK:Mw l:=h.ok l (List.mem_of_getElem? hl);have aG:=Ext.Ma w1;refine py (run_seq (NF (λw'=>Ext w1 w') rfl (qT 0 rfl (λ_ h=>(by first|exact LR U3 rfl rfl (h.LN og) rfl|exact LR U3 rfl rfl (h.LN ji) rfl|exact LR U3 rfl rfl (h.LN zv) rfl|exact LR U3 rfl rfl (h.LN vM) rfl)) aG ?_)));refine qT 1 rfl (λ_ h=>(by first|exact LR Ml rfl rfl (h.LN og) rfl|exact LR Ml rfl rfl (h.LN ji) rfl|exact LR Ml rfl rfl (h.LN zv) rfl|exact LR Ml rfl rfl (h.LN vM) rfl)) aG ?_;refine LS 2 rfl (Mo OP rfl) aG (qT 3 rfl (λ_ h=>(by first|exact LR Ml rfl rfl (h.LN og) rfl|exact LR Ml rfl rfl (h.LN ji) rfl|exact LR Ml rfl rfl (h.LN zv) rfl|exact LR Ml rfl rfl (h.LN vM) rfl)) aG ?_);refine M9 4 rfl rfl (aG) (qT 5 rfl (λ_ h=>(by first|exact LR Od rfl rfl (h.LN og) rfl|exact LR Od rfl rfl (h.LN ji) rfl|exact LR Od rfl rfl (h.LN zv) rfl|exact LR Od rfl rfl (h.LN vM) rfl)) aG ?_);refine LS 6 rfl (MS rfl) aG (LS 7 rfl (Mo Tb rfl) aG (qT 8 rfl (λ_ hS=>Mk (news:=Rz p) Xi rfl O3 rfl (lI (hS.LN (ad.LN h.LN))) rfl) aG (Pw 9 rfl Xk rfl (Pk p _) ?_)));rintro _ w9 ⟨rfl,fg⟩;refine⟨aG.trans fg,?_⟩;have gC:=aG.trans fg;have fP:=ad.trans gC;refine Pw 10 rfl z1g rfl (RE p.list hp.1 L.length hL succ l hs BK r h2 (λe=>by omega) (fP.LN hG) (fP.LN hU) (eg.ext fP) (HP.rd.ext fP) kL oe) ?_;rintro _ w10 ⟨rfl,bL⟩;refine⟨gC.trans bL,?_⟩;have eu:=gC.trans bL;have lu:=kF.ext eu;have BL:=lu.c8;have BM:=eu.LN vM
   generalize (Mf (NW p.list L.length succ l r)).length=nb
   refine M9 11 rfl rfl (gC.trans bL) (LS 12 rfl (NO rfl rfl) (gC.trans bL) (LS 13 rfl (NO rfl rfl) (gC.trans bL) (LS 14 rfl (NK rfl) (gC.trans bL) (LS 15 rfl (NK rfl) (gC.trans bL) (qE (Mn.qb (e:=[(0,_),(4,_),(5,_),(6,_),(8,_),(10,_)]) ?_))))));refine qN rfl (LM rfl (qV (LR U3 rfl rfl BL rfl) (Nr rfl rfl (LO (LY rfl (λh4=>?_) (λh4=>?_))))))
   ·have jR:=Ext.Ma w10;have gP:=lu.ext jR;have lb8:=hA.c8.lt;have lb4:=hA.c4.lt;have lb9:=hA.c9.lt;have HQ:¬(tb=b8\/tb=b4\/tb=b9):=by omega
    refine NF (λw'=>Kp (λi=>i=b8\/i=b4\/i=b9) w10 w') rfl (M9 0 rfl rfl (jR.kp) (M9 1 rfl rfl (jR.kp) (qT 2 rfl (λ_ h=>Mk Rv rfl N0 rfl (LX.cells (n:=2) (h.LN BM HQ) (news:=[_,_]) rfl) rfl) (jR.kp) (qO 3 (Mx (i:=3) rfl rfl (NC MO rfl rfl rfl gP.c8 (by simp)) ?_)))));rintro w11 ⟨aH,aU⟩;refine⟨jR.kp.trans (aU.LZ λi e=> .inl e),?_⟩;have qz:Kp (λi=>i=b8\/i=b4\/i=b9) w10 w11:=jR.kp.trans (aU.LZ λi e=> .inl e);have HR:=aU.LN gP.c4 (λe=>hd.2.2.2.2.2.2.2.2.2.1 e.symm);refine qO 4 (Mx (i:=4) rfl rfl (NC MO rfl rfl rfl HR (by simp)) ?_);rintro w12 ⟨bu,aV⟩;refine⟨qz.trans (aV.LZ λi e=> .inr (.inl e)),?_⟩;have vO:Kp (λi=>i=b8\/i=b4\/i=b9) w10 w12:=qz.trans (aV.LZ λi e=> .inr (.inl e));have HS:=aV.LN (aU.LN gP.c9 (λe=>hd.2.2.2.2.2.2.2.2.2.2.1 e.symm)) (λe=>hd.2.2.2.2.2.2.2.2.2.2.2 e.symm);refine qO 5 (Mx (i:=5) rfl rfl (MD (news:=[.slice a1 l.length c1,I (e.2:Int)]) N0 rfl rfl rfl rfl HS (by simp)) ?_);rintro w13 ⟨ev,da⟩;refine⟨vO.trans (da.LZ λi e=> .inr (.inr e)),?_⟩;replace ev:LX w13 b9 [.slice a1 l.length c1,I (e.2:Int)] 250:=ev;replace bu:LX w12 b4 [I (r:Int)] 3:=bu;replace aH:LX w11 b8 [I (nb:Int)] 3:=aH;refine qE (N9 Tryz.func137 rfl ?_);obtain⟨d1,d2,d3,d4,d5,d6,d7,d8,d9,d10,d11,d12⟩:=hd;have md:∀{b:Nat} {cs:List Value} {T:TypeId},LX w10.drew b cs T->b8≠b->b4≠b->b9≠b->LX w13 b cs T:=λhB n1 n2 n3=>da.LN (aV.LN (aU.LN hB (λe=>n1 e.symm)) (λe=>n2 e.symm)) (λe=>n3 e.symm);refine⟨_,rfl,rfl,?_,nb,r,.slice a1 l.length c1,e.2,⟨md gP.c2 d1 d4 d7,md gP.c3 d2 d5 d8,md gP.c7 d3 d6 d9,da.LN (aV.LN aH d10) d11,da.LN bu d12,ev⟩,.inr ⟨h1,h2,BI,BJ,l,e,hl,he,rfl,gd⟩⟩;exact((ad.trans eu).trans jR).kp.trans ((aU.LZ λi e=> .inl e).trans ((aV.LZ λi e=> .inr (.inl e)).trans (da.LZ λi e=> .inr (.inr e))))
   ·refine py (N9 Tryz.func137 rfl ?_);exact⟨_,rfl,rfl,(ad.trans eu).kp,_,_,_,_,lu,hF⟩
 case cM=>
  rcases Nat.lt_or_ge L.length r with aP|kW
  ·have av:=hg;refine Me [15] (λw'=>Ext w w') (by kernel_rfl) rfl (qL [1,2,10,11,12,13,15,16] 0 rfl (λ_ h=>(by first|exact LR Od rfl rfl (h.LN eI) rfl|exact LR Od rfl rfl (h.LN lH) rfl)) av ?_);refine qL [2,10,11,12,13,15,16] 1 rfl (λ_ h=>MS rfl) av (qL [10,11,12,13,15,16] 2 rfl (λ_ h=>Mo UR rfl) av (qL [10,11,12,13,15,16] 3 rfl (λ_ h=>My rfl) av (qL [5,10,11,12,13,15,16] 4 rfl (λ_ h=>(by first|exact LR Ml rfl rfl (h.LN eI) rfl|exact LR Ml rfl rfl (h.LN lH) rfl)) av ?_)));refine qL [10,11,12,13,15,16] 5 rfl (λ_ h=>OZ Ml rfl) av (qL [7,8,9,10,11,12,13,15,16] 6 rfl (λ_ h=>(by first|exact LR Od rfl rfl (h.LN eI) rfl|exact LR Od rfl rfl (h.LN lH) rfl)) av ?_);refine qL [8,9,10,11,12,13,15,16] 7 rfl (λ_ h=>MS rfl) av (qL [9,10,11,12,13,15,16] 8 rfl (λ_ h=>Mo Tb rfl) av (qL [10,11,12,13,15,16] 9 rfl (λ_ hS=>Mk (news:=Rz p) Xi rfl O3 rfl (lI (hS.LN h.LN)) rfl) av (Sv (i:=10) (j:=14) (by kernel_rfl) ?_ ?_)))
   ·refine O4 (i:=10) rfl rfl rfl (yc z3x rfl) (Tc (av.LN h.LN) h.len (by omega) hp r succ.length h1 h2 vL) ?_;rintro _ w10 ⟨ln,bL⟩;refine⟨av.trans bL,?_⟩;rw[if_neg (by omega)] at ln;subst ln
    try have cY:=bL.LN cY
    have av:=av.trans bL;refine qL [12,13,15,16] 11 rfl (λ_ h=>My rfl) av (qL [15,16] 12 rfl (λ_ h=>NO rfl rfl) av (MM (i:=13) rfl (by kernel_rfl) rfl rfl (λ_=>NO rfl rfl) av (Nw (i:=14) (by kernel_rfl) (MV (i:=14) rfl rfl rfl (O9 (cs:=[_,_]) N0 rfl) ?_))));rintro _ w14 ⟨tb,rfl,mX,bF,cY⟩;refine⟨av.trans bF,?_⟩;have jS:w.heap.size<=tb:=by have:=av.size;omega
    have av:=av.trans bF;refine Pv [15] (qO 15 (Mx (i:=15) rfl rfl (MD (news:=[.slice none 0 0,I ((0:Nat):Int)]) N0 rfl rfl rfl rfl cY (by simp)) ?_));rintro w15 ⟨dM,jT⟩;refine⟨trivial,?_⟩;refine LS 16 rfl (NK rfl) trivial (qE ?_);exact(cu _ _ ⟨tb,.slice none 0 0,0,false,rfl,av.LJ jT (λi e=>by omega),jS,dM,λe=>by cases e⟩).qb
   ·refine MV (i:=14) rfl rfl rfl (O9 (cs:=[_,_]) N0 rfl) ?_;rintro _ w14 ⟨tb,rfl,mX,bF,cY⟩;refine⟨av.trans bF,?_⟩;have jS:w.heap.size<=tb:=by have:=av.size;omega
    have av:=av.trans bF;refine Nw (i:=10) (by kernel_rfl) (O4 (i:=10) rfl rfl rfl (yc z3x rfl) (Tc (av.LN h.LN) h.len (by omega) hp r succ.length h1 h2 vL) ?_);rintro _ w10 ⟨ln,bL⟩;refine⟨av.trans bL,?_⟩;rw[if_neg (by omega)] at ln;subst ln
    try have cY:=bL.LN cY
    have av:=av.trans bL;refine qL [12,13,15,16] 11 rfl (λ_ h=>My rfl) av (qL [15,16] 12 rfl (λ_ h=>NO rfl rfl) av (MM (i:=13) rfl (by kernel_rfl) rfl rfl (λ_=>NO rfl rfl) av (Pv [15] (qO 15 (Mx (i:=15) rfl rfl (MD (news:=[.slice none 0 0,I ((0:Nat):Int)]) N0 rfl rfl rfl rfl cY (by simp)) ?_)))));rintro w15 ⟨dM,jT⟩;refine⟨trivial,?_⟩;refine LS 16 rfl (NK rfl) trivial (qE ?_);exact(cu _ _ ⟨tb,.slice none 0 0,0,false,rfl,av.LJ jT (λi e=>by omega),jS,dM,λe=>by cases e⟩).qb
  ·have av:=hg;refine Me [15] (λw'=>Ext w w') (by kernel_rfl) rfl (qL [1,2,10,11,12,13,15,16] 0 rfl (λ_ h=>(by first|exact LR Od rfl rfl (h.LN eI) rfl|exact LR Od rfl rfl (h.LN lH) rfl)) av ?_);refine qL [2,10,11,12,13,15,16] 1 rfl (λ_ h=>MS rfl) av (qL [10,11,12,13,15,16] 2 rfl (λ_ h=>Mo UR rfl) av (qL [10,11,12,13,15,16] 3 rfl (λ_ h=>My rfl) av (qL [5,10,11,12,13,15,16] 4 rfl (λ_ h=>(by first|exact LR Ml rfl rfl (h.LN eI) rfl|exact LR Ml rfl rfl (h.LN lH) rfl)) av ?_)));refine qL [10,11,12,13,15,16] 5 rfl (λ_ h=>OZ Ml rfl) av (qL [7,8,9,10,11,12,13,15,16] 6 rfl (λ_ h=>(by first|exact LR Od rfl rfl (h.LN eI) rfl|exact LR Od rfl rfl (h.LN lH) rfl)) av ?_);refine qL [8,9,10,11,12,13,15,16] 7 rfl (λ_ h=>MS rfl) av (qL [9,10,11,12,13,15,16] 8 rfl (λ_ h=>Mo Tb rfl) av (qL [10,11,12,13,15,16] 9 rfl (λ_ hS=>Mk (news:=Rz p) Xi rfl O3 rfl (lI (hS.LN h.LN)) rfl) av (Sv (i:=10) (j:=14) (by kernel_rfl) ?_ ?_)))
   ·refine O4 (i:=10) rfl rfl rfl (yc z3x rfl) (Tc (av.LN h.LN) h.len (by omega) hp r succ.length h1 h2 vL) ?_;rintro _ w10 ⟨ln,bL⟩;refine⟨av.trans bL,?_⟩;rw[if_pos kW] at ln;subst ln
    try have cY:=bL.LN cY
    have av:=av.trans bL;refine qL [12,13,15,16] 11 rfl (λ_ h=>My rfl) av (qL [15,16] 12 rfl (λ_ h=>NO rfl rfl) av (MM (i:=13) rfl (by kernel_rfl) rfl rfl (λ_=>NO rfl rfl) av (Nw (i:=14) (by kernel_rfl) (MV (i:=14) rfl rfl rfl (O9 (cs:=[_,_]) N0 rfl) ?_))));rintro _ w14 ⟨tb,rfl,mX,bF,cY⟩;refine⟨av.trans bF,?_⟩;have jS:w.heap.size<=tb:=by have:=av.size;omega
    have av:=av.trans bF;refine Pv [15] (qO 15 (Mx (i:=15) rfl rfl (MD (news:=[.slice a1 m1 c1,I ((e1:Nat):Int)]) N0 rfl rfl rfl rfl cY (by simp)) ?_));rintro w15 ⟨dM,jT⟩;refine⟨trivial,?_⟩;refine LS 16 rfl (NK rfl) trivial (qE ?_);exact(cu _ _ ⟨tb,.slice a1 m1 c1,e1,Qp p m1 succ.length e1,rfl,av.LJ jT (λi e=>by omega),jS,dM,λe=>⟨kW,rfl,rfl,e⟩⟩).qb
   ·refine MV (i:=14) rfl rfl rfl (O9 (cs:=[_,_]) N0 rfl) ?_;rintro _ w14 ⟨tb,rfl,mX,bF,cY⟩;refine⟨av.trans bF,?_⟩;have jS:w.heap.size<=tb:=by have:=av.size;omega
    have av:=av.trans bF;refine Nw (i:=10) (by kernel_rfl) (O4 (i:=10) rfl rfl rfl (yc z3x rfl) (Tc (av.LN h.LN) h.len (by omega) hp r succ.length h1 h2 vL) ?_);rintro _ w10 ⟨ln,bL⟩;refine⟨av.trans bL,?_⟩;rw[if_pos kW] at ln;subst ln
    try have cY:=bL.LN cY
    have av:=av.trans bL;refine qL [12,13,15,16] 11 rfl (λ_ h=>My rfl) av (qL [15,16] 12 rfl (λ_ h=>NO rfl rfl) av (MM (i:=13) rfl (by kernel_rfl) rfl rfl (λ_=>NO rfl rfl) av (Pv [15] (qO 15 (Mx (i:=15) rfl rfl (MD (news:=[.slice a1 m1 c1,I ((e1:Nat):Int)]) N0 rfl rfl rfl rfl cY (by simp)) ?_)))));rintro w15 ⟨dM,jT⟩;refine⟨trivial,?_⟩;refine LS 16 rfl (NK rfl) trivial (qE ?_);exact(cu _ _ ⟨tb,.slice a1 m1 c1,e1,Qp p m1 succ.length e1,rfl,av.LJ jT (λi e=>by omega),jS,dM,λe=>⟨kW,rfl,rfl,e⟩⟩).qb
end Go.Proofs.YtpldpcjdjcgicaaGreatDoor
