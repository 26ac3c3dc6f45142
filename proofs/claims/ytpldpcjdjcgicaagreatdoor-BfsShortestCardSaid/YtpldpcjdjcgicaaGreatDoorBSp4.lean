/- Texts SoD, SoE, LiM, LiN, LiO, LiP, LiQ, BvB, BvC, BvD, one behind the other (what the statement BfsShortest does not use is left out). -/
import Derived.Test.YtpldpcjdjcgicaaGreatDoorBSp2
import Derived.Test.YtpldpcjdjcgicaaGreatDoorBSp3
set_option maxHeartbeats 16000000
namespace Go.Proofs.YtpldpcjdjcgicaaGreatDoor
open Go Go.RowKit
set_option linter.all false
set_option maxRecDepth 100000
theorem z6X {w:World}{g n cap:Nat}{d:Array Nat}(h:NL w g n cap d)(a b pv:Nat)(Gt:a<=pv)(pR:pv<b)(hb:b<=n)(hn:n<=65536):
  Lk Tryz.prog 230 [.slice (some ⟨g,0,none⟩) n cap,I (a:Int),I (b:Int),I (pv:Int)] w fun u w'=>u=I ((Go.Sort.partitionEqual Mc d a b pv).1:Int)/\NL w' g n cap (Go.Sort.partitionEqual Mc d a b pv).2/\Kp (fun k=>k=g) w w':=by
 refine KJ (e:=[(0,_),(1,_),(2,_),(3,_)]) Tryz.func230 rfl Tryz.ntmps230 rfl rfl (qN rfl (KO rfl (py (run_seq ?_))))
 have ay:=Ext.Lb w
 refine Le [13,15] (fun w'=>Ext w w') (by kernel_rfl) rfl (qL [12,13,14,15] 0 rfl (fun _ h=>KW rfl) ay (qL [12,13,14,15] 1 rfl (fun _ h=>KW rfl) ay (LP (i:=2) rfl (by kernel_rfl) rfl rfl (fun _=>KW rfl) (ay) (LP (i:=3) rfl (by kernel_rfl) rfl rfl (fun _=>KW rfl) (ay) (qL [6,7,12,13,14,15] 4 rfl (fun _ h=>KW rfl) ay (qL [6,7,12,13,14,15] 5 rfl (fun _ h=>KW rfl) ay (qL [7,12,13,14,15] 6 rfl (fun _ h=>LC Li L8 rfl rfl (by omega)) ay (qL [10,11,12,13,14,15] 8 rfl (fun _ h=>KW rfl) ay (qL [10,11,12,13,14,15] 9 rfl (fun _ h=>KW rfl) ay (qL [11,12,13,14,15] 10 rfl (fun _ h=>LC Li L8 rfl rfl (by omega)) ay (qL [12,13,14,15] 7 rfl (fun _ hS=>Lm Mk rfl rfl ((h.ext hS).get (i:=pv) (by omega))) ay (qL [12,13,14,15] 11 rfl (fun _ hS=>Lm Mk rfl rfl ((h.ext hS).get (i:=a) (by omega))) ay (qL [13,14,15] 12 rfl (fun _ h=>LC Li L8 rfl rfl (by omega)) ay ?_)))))))))))))
 refine LD [13] (by kernel_rfl) (by kernel_rfl) (qO 13 (Lv (i:=13) rfl rfl (MY L8 rfl rfl rfl (h.ext ay).sl ((h.ext ay).UM (by omega))) ?_))
 rintro w1a ⟨mm,mn⟩
 refine⟨trivial,?_⟩
 have fB:=(h.ext ay).set mm
 refine KR 14 rfl (LC Li L8 rfl rfl (by omega)) trivial (qO 15 (Lv (i:=15) rfl rfl (MY L8 rfl rfl rfl fB.sl (fB.UM (by omega))) ?_))
 rintro w1 ⟨rl,ro⟩
 refine⟨trivial,?_⟩
 have gR:=fB.set rl
 have kg:Kp (fun k=>k=g) w w1:=ay.kp.trans (mn.trans ro)
 refine qE (qN rfl (An rfl (LH rfl rfl (An rfl (qV (Md rfl rfl (by omega)) (KO rfl (KO rfl (py (Ll.qb (e:=[(0,_),(1,_),(8,_),(9,_),(10,_)]) ?_)))))))))
 refine run_seq (KL ?_)
 unfold Go.Sort.partitionEqual
 replace gR:NL w1 g n cap (Go.Sort.swp d a pv):=gR
 generalize Go.Sort.swp d a pv=D at gR
 rw[show(a:Int)+1=((a+1:Nat):Int) by omega,show(b:Int)-1=((b-1:Nat):Int) by omega]
 refine MV (α:=Nat×Nat×Array Nat) ((a+1,b-1,D)) (fun y=>[(0,.slice (some ⟨g,0,none⟩) n cap),(1,I (a:Int)),(9,I (y.1:Int)),(10,I (y.2.1:Int))]) (fun y w'=>NL w' g n cap y.2.2/\Kp (fun k=>k=g) w1 w'/\Go.Sort.partEqLoop Mc a y.1 y.2.1 y.2.2=Go.Sort.partEqLoop Mc a (a+1) (b-1) D/\(a<y.1/\y.1<=n/\y.2.1<n)) (fun y=>y.2.1+1-y.1) ?hI ?hround
 case hI=>exact⟨gR,Kp.refl _ _,rfl,by dsimp only;omega⟩
 case hround =>
  rintro⟨i,j,d4⟩ w4 ⟨dE,aw,ck,bC⟩ ih;dsimp only at dE aw ck bC;rw[Go.Sort.partEqLoop_eq] at ck
  try dsimp only
  refine KL (run_seq (KL (Nl (fun e' w'=>e'=[(0,.slice (some ⟨g,0,none⟩) n cap),(1,I (a:Int)),(9,I (((Go.Sort.scanUp (fun x=>!Mc d4[a]! x) d4 j (i)):Nat):Int)),(10,I ((j:Nat):Int))]/\NL w' g n cap d4/\Kp (fun k=>k=g) w4 w') ?j7 (fun j7=>?rq))))
  case j7=>
   rintro e' wC ⟨rfl,Ao,j7⟩;have di:=Go.Sort.scanUp_ge (fun x=>!Mc d4[a]! x) d4 j i;have lJ:=RB (fun x=>!Mc d4[a]! x) d4 j i
   generalize Go.Sort.scanUp (fun x=>!Mc d4[a]! x) d4 j i=i2 at ck di lJ
   refine run_seq (KL (Nl (fun e' w'=>e'=[(0,.slice (some ⟨g,0,none⟩) n cap),(1,I (a:Int)),(9,I ((i2:Nat):Int)),(10,I (((Go.Sort.scanDown (fun x=>Mc d4[a]! x) d4 i2 (j)):Nat):Int))]/\NL w' g n cap d4/\Kp (fun k=>k=g) wC w') ?f7 (fun f7=>?rp)))
   case f7=>
    rintro e' wD ⟨rfl,iB,f7⟩;have kf:=Go.Sort.scanDown_le (fun x=>Mc d4[a]! x) d4 i2 j
    generalize Go.Sort.scanDown (fun x=>Mc d4[a]! x) d4 i2 j=j2 at ck kf
    refine run_seq (qN rfl (An rfl (An rfl (qV (LU rfl rfl) (py (KZ rfl (fun h5=>?_) (fun h5=>?_)))))))
    ·rw[if_pos (by omega)] at ck;rw[<-ck];refine KX rfl (qN rfl (An rfl (KO rfl (py (KP Tryz.func230 rfl ?_)))));exact⟨_,rfl,rfl,iB,kg.trans (aw.trans (j7.trans f7))⟩
    ·rw[if_neg (by omega)] at ck;refine It (run_seq ?_);have bH:=Ext.Lb wD;refine Le [13,15] (fun w'=>Ext wD w') (by kernel_rfl) rfl (qL [12,13,14,15] 0 rfl (fun _ h=>KW rfl) bH (qL [12,13,14,15] 1 rfl (fun _ h=>KW rfl) bH (LP (i:=2) rfl (by kernel_rfl) rfl rfl (fun _=>KW rfl) (bH) (LP (i:=3) rfl (by kernel_rfl) rfl rfl (fun _=>KW rfl) (bH) (qL [6,7,12,13,14,15] 4 rfl (fun _ h=>KW rfl) bH (qL [6,7,12,13,14,15] 5 rfl (fun _ h=>KW rfl) bH (qL [7,12,13,14,15] 6 rfl (fun _ h=>LC Li L8 rfl rfl (by omega)) bH (qL [10,11,12,13,14,15] 8 rfl (fun _ h=>KW rfl) bH (qL [10,11,12,13,14,15] 9 rfl (fun _ h=>KW rfl) bH (qL [11,12,13,14,15] 10 rfl (fun _ h=>LC Li L8 rfl rfl (by omega)) bH (qL [12,13,14,15] 7 rfl (fun _ h=>Lm Mk rfl rfl ((iB.ext h).get (i:=j2) (by omega))) bH (qL [12,13,14,15] 11 rfl (fun _ h=>Lm Mk rfl rfl ((iB.ext h).get (i:=i2) (by omega))) bH (qL [13,14,15] 12 rfl (fun _ h=>LC Li L8 rfl rfl (by omega)) bH ?_)))))))))))));refine LD [13] (by kernel_rfl) (by kernel_rfl) (qO 13 (Lv (i:=13) rfl rfl (MY L8 rfl rfl rfl (iB.ext bH).sl ((iB.ext bH).UM (by omega))) ?_));rintro w8a ⟨fC,fD⟩;refine⟨trivial,?_⟩;have cx:=(iB.ext bH).set fC;refine KR 14 rfl (LC Li L8 rfl rfl (by omega)) trivial (qO 15 (Lv (i:=15) rfl rfl (MY L8 rfl rfl rfl cx.sl (cx.UM (by omega))) ?_));rintro w8 ⟨jt,ju⟩;refine⟨trivial,?_⟩;have jv:=cx.set jt;have eQ:Kp (fun k=>k=g) wD w8:=bH.kp.trans (fD.trans ju);refine qE (qN rfl (An rfl (LH rfl rfl (KO rfl (py (KQ rfl (An rfl (qV (Md rfl rfl (by omega)) (KO rfl (py (KM ?_)))))))))));rw[show(j2:Int)-1=((j2-1:Nat):Int) by omega];exact(ih (i2+1,j2-1,Go.Sort.swp d4 i2 j2) _ ⟨jv,(aw.trans (j7.trans f7)).trans eQ,ck,by dsimp only;omega⟩ (by dsimp only;omega)).qb
   case rp=>
    refine MV (α:=Nat) (j) (fun r=>[(0,.slice (some ⟨g,0,none⟩) n cap),(1,I (a:Int)),(9,I ((i2:Nat):Int)),(10,I ((r:Nat):Int))]) (fun r w'=>NL w' g n cap d4/\Kp (fun k=>k=g) wC w'/\Go.Sort.scanDown (fun x=>Mc d4[a]! x) d4 i2 r=Go.Sort.scanDown (fun x=>Mc d4[a]! x) d4 i2 (j)/\r<n) (fun r=>r) ?hI ?hround
    case hI=>exact⟨Ao,Kp.refl _ _,rfl,by omega⟩
    case hround=>
     rintro r w5 ⟨aS,aj,bO,bU⟩ ih
     try dsimp only
     have hg:=Ext.Lb w5;rcases Nat.lt_or_ge r (i2) with hj|hj
     ·refine run_seq (run_seq (KV (fun w'=>Ext w5 w') (by kernel_rfl) rfl (KR 0 rfl (KW rfl) hg (KR 1 rfl (KW rfl) hg (KR 2 rfl (Qv rfl rfl) hg (PA (KR 3 rfl (KW rfl) hg (qJ 4 rfl (hg) (qJ 5 rfl (hg) (qJ 6 rfl (hg) (qJ 7 rfl (hg) (qJ 8 rfl (hg) (qJ 9 rfl (hg) ?_)))))))))))));refine qJ 10 rfl (hg) (qJ 11 rfl (hg) (qJ 12 rfl (hg) (KR 13 rfl (Ls rfl rfl) hg (qE (KH rfl (KX rfl ?_))))));rw[Nf _ _ _ _ (.inl hj)] at bO;subst bO;exact(f7 _ _ ⟨rfl,aS.ext hg,aj.trans hg.kp⟩).qb
     ·refine run_seq (run_seq (KV (fun w'=>Ext w5 w') (by kernel_rfl) rfl (KR 0 rfl (KW rfl) hg (KR 1 rfl (KW rfl) hg (KR 2 rfl (Qv rfl rfl) hg (OL (KR 3 rfl (KW rfl) hg (KR 4 rfl (KW rfl) hg (KR 5 rfl (KW rfl) hg (KR 6 rfl (LC Li L8 rfl rfl (by omega)) hg (KR 8 rfl (KW rfl) hg (KR 9 rfl (KW rfl) hg (KR 10 rfl (LC Li L8 rfl rfl (by omega)) hg ?_)))))))))))));refine qT 7 rfl (fun _ h=>Lm Mk rfl rfl ((aS.ext h).get (i:=a) (by omega))) hg (qT 11 rfl (fun _ h=>Lm Mk rfl rfl ((aS.ext h).get (i:=r) (by omega))) hg (O2 12 [.tmp 53,.tmp 57] rfl QS rfl (Nb _ _ _) ?_));rintro _ w6 ⟨rfl,rfl⟩;refine⟨hg,?_⟩;refine KR 13 rfl (LR rfl rfl) hg (qE (LO rfl (fun h1=>?_) (fun h1=>?_)))
      ·rw[Rg _ _ _ _ hj (by simpa[Mc] using h1) (by omega)] at bO;refine It (KL (KQ rfl (An rfl (qV (Md rfl rfl (by omega)) (KO rfl (py (KM ?_)))))));rw[show(r:Int)-1=((r-1:Nat):Int) by omega];exact(ih (r-1) _ ⟨aS.ext hg,aj.trans hg.kp,bO,by omega⟩ (by omega)).qb
      ·rw[Nf _ _ _ _ (.inr (by simpa[Mc] using h1))] at bO;refine KX rfl ?_;subst bO;exact(f7 _ _ ⟨rfl,aS.ext hg,aj.trans hg.kp⟩).qb
  case rq=>
   refine MV (α:=Nat) (i) (fun r=>[(0,.slice (some ⟨g,0,none⟩) n cap),(1,I (a:Int)),(9,I ((r:Nat):Int)),(10,I ((j:Nat):Int))]) (fun r w'=>NL w' g n cap d4/\Kp (fun k=>k=g) w4 w'/\Go.Sort.scanUp (fun x=>!Mc d4[a]! x) d4 j r=Go.Sort.scanUp (fun x=>!Mc d4[a]! x) d4 j (i)/\i<=r/\r<=n+1) (fun r=>j+1-r) ?hI ?hround
   case hI=>exact⟨dE,Kp.refl _ _,rfl,Nat.le_refl _,by omega⟩
   case hround=>
    rintro r w5 ⟨aS,aj,bO,bU⟩ ih
    try dsimp only
    have hg:=Ext.Lb w5;rcases Nat.lt_or_ge (j) r with hj|hj
    ·refine run_seq (run_seq (KV (fun w'=>Ext w5 w') (by kernel_rfl) rfl (KR 0 rfl (KW rfl) hg (KR 1 rfl (KW rfl) hg (KR 2 rfl (Qv rfl rfl) hg (PA (KR 3 rfl (KW rfl) hg (qJ 4 rfl (hg) (qJ 5 rfl (hg) (qJ 6 rfl (hg) (qJ 7 rfl (hg) (qJ 8 rfl (hg) (qJ 9 rfl (hg) ?_)))))))))))));refine qJ 10 rfl (hg) (qJ 11 rfl (hg) (qJ 12 rfl (hg) (qJ 13 rfl (hg) (KR 14 rfl (Ls rfl rfl) hg (qE (KH rfl (KX rfl ?_)))))));rw[O7 _ _ _ _ (.inl hj)] at bO;subst bO;exact(j7 _ _ ⟨rfl,aS.ext hg,aj.trans hg.kp⟩).qb
    ·refine run_seq (run_seq (KV (fun w'=>Ext w5 w') (by kernel_rfl) rfl (KR 0 rfl (KW rfl) hg (KR 1 rfl (KW rfl) hg (KR 2 rfl (Qv rfl rfl) hg (OL (KR 3 rfl (KW rfl) hg (KR 4 rfl (KW rfl) hg (KR 5 rfl (KW rfl) hg (KR 6 rfl (LC Li L8 rfl rfl (by omega)) hg (KR 8 rfl (KW rfl) hg (KR 9 rfl (KW rfl) hg (KR 10 rfl (LC Li L8 rfl rfl (by omega)) hg ?_)))))))))))));refine qT 7 rfl (fun _ h=>Lm Mk rfl rfl ((aS.ext h).get (i:=a) (by omega))) hg (qT 11 rfl (fun _ h=>Lm Mk rfl rfl ((aS.ext h).get (i:=r) (by omega))) hg (O2 12 [.tmp 36,.tmp 40] rfl QS rfl (Nb _ _ _) ?_));rintro _ w6 ⟨rfl,rfl⟩;refine⟨hg,?_⟩;refine KR 13 rfl ((by first|exact LN rfl|exact Na rfl)) hg ?_;refine KR 14 rfl (LR rfl rfl) hg (qE (LO rfl (fun h1=>?_) (fun h1=>?_)))
     ·rw[TC _ _ _ _ hj (by simpa[Mc] using h1)] at bO;refine It (KL (KQ rfl (An rfl (LH rfl rfl (KO rfl (py (KM ?_)))))));exact(ih (r+1) _ ⟨aS.ext hg,aj.trans hg.kp,bO,by omega,by omega⟩ (by omega)).qb
     ·rw[O7 _ _ _ _ (.inr (by simpa[Mc] using h1))] at bO;refine KX rfl ?_;subst bO;exact(j7 _ _ ⟨rfl,aS.ext hg,aj.trans hg.kp⟩).qb
section
variable (d:Array Nat)(b i:Nat)
theorem Wu (h:i<b)(hp:Mc d[i]! d[i-1]! =false):Go.Sort.scanSorted Mc d b i=Go.Sort.scanSorted Mc d b (i+1):=by
 conv=>lhs;rw[Go.Sort.scanSorted]
 rw[if_pos]
 rw[Bool.and_eq_true];exact⟨by simpa using h,by rw[hp];rfl⟩
theorem QV (h:b<=i\/Mc d[i]! d[i-1]! =true):Go.Sort.scanSorted Mc d b i=i:=by
 rw[Go.Sort.scanSorted,if_neg]
 intro hc
 rw[Bool.and_eq_true] at hc
 rcases h with h| h
 ·have:=of_decide_eq_true hc.1;omega
 ·rw[h] at hc;cases hc.2
end
theorem z1H (d:Array Nat)(a b:Nat)(h:b-a<50):Go.Sort.partialInsertionSort Mc d a b=(d,decide (Go.Sort.scanSorted Mc d b (a+1)=b)):=by
 unfold Go.Sort.partialInsertionSort
 rw[Go.Sort.partialIns]
 by_cases e:Go.Sort.scanSorted Mc d b (a+1)=b
 ·simp only[e,if_pos,decide_true]
 ·simp only[if_neg e,if_pos h,decide_eq_false e]
theorem z5I {w:World}{g n cap:Nat}{d:Array Nat}(h:NL w g n cap d)(a b:Nat)(iZ:a<b)(hb:b<=n)(hn:n<50):
  Lk Tryz.prog 228 [.slice (some ⟨g,0,none⟩) n cap,I (a:Int),I (b:Int)] w fun u w'=>u= .bool (Go.Sort.partialInsertionSort Mc d a b).2/\NL w' g n cap d/\Kp (fun k=>k=g) w w':=by
 rw[z1H d a b (by omega)]
 dsimp only
 refine KJ (e:=[(0,_),(1,_),(2,_)]) Tryz.func228 rfl Tryz.ntmps228 rfl rfl (qN rfl (KO rfl (qM rfl (An rfl (LH rfl rfl (KO rfl (py (run_seq (qN rfl (KO rfl (py (KL ?_))))))))))))
 rw[show(a:Int)+1=((a+1:Nat):Int) by omega]
 refine MV (α:=Unit) (()) (fun _=>[(0,.slice (some ⟨g,0,none⟩) n cap),(1,I (a:Int)),(2,I (b:Int)),(7,I ((a+1:Nat):Int)),(8,I 0)]) (fun y w'=>w'=w) (fun y=>0) ?hI ?hround
 case hI=>rfl
 case hround =>
  rintro _ w4 rfl ih0
  try dsimp only
  refine run_seq (qN rfl (An rfl (qV (LX rfl rfl) (py (KZ rfl (fun h0=>?_) (fun h0=>?_))))))
  ·refine It (run_seq (KL (run_seq (KL (Nl (fun e' w'=>e'=[(0,.slice (some ⟨g,0,none⟩) n cap),(1,I (a:Int)),(2,I (b:Int)),(7,I (Go.Sort.scanSorted Mc d b (a+1):Int)),(8,I 0)]/\NL w' g n cap d/\Kp (fun k=>k=g) w4 w') ?fY (fun fY=>?Ar))))))
   case fY=>
    rintro e' ws ⟨rfl,Ev,fY⟩;refine run_seq (qN rfl (An rfl (An rfl (qV (Mr rfl rfl) (py (KZ rfl (fun h1=>?_) (fun h1=>?_)))))))
    ·have tG:Go.Sort.scanSorted Mc d b (a+1)=b:=by omega
     rw[decide_eq_true tG];refine qN rfl (KO rfl (py (KP Tryz.func228 rfl ?_)));exact⟨_,rfl,rfl,Ev,fY⟩
    ·have tG:¬Go.Sort.scanSorted Mc d b (a+1)=b:=by omega
     rw[decide_eq_false tG];refine It (run_seq (qN rfl (An rfl (An rfl (qV (Md rfl rfl (by omega)) (qV (LX rfl rfl) (py (KZ rfl (fun h2=>?_) (fun h2=>?_)))))))))
     ·refine qN rfl (KO rfl (py (KP Tryz.func228 rfl ?_)));exact⟨_,rfl,rfl,Ev,fY⟩
     ·omega
   case Ar=>
    refine MV (α:=Nat) (a+1) (fun r=>[(0,.slice (some ⟨g,0,none⟩) n cap),(1,I (a:Int)),(2,I (b:Int)),(7,I (r:Int)),(8,I 0)]) (fun r w'=>NL w' g n cap d/\Kp (fun k=>k=g) w4 w'/\Go.Sort.scanSorted Mc d b r=Go.Sort.scanSorted Mc d b (a+1)/\a<r/\r<=b) (fun r=>b-r) ?hI ?hround
    case hI=>exact⟨h,Kp.refl _ _,rfl,Nat.lt_succ_self a,iZ⟩
    case hround=>
     rintro r w5 ⟨aS,aj,bO,bU,As⟩ ih
     try dsimp only
     have hg:=Ext.Lb w5;rcases Nat.lt_or_ge r b with hj|hj
     ·refine run_seq (run_seq (KV (fun w'=>Ext w5 w') (by kernel_rfl) rfl (KR 0 rfl (KW rfl) hg (KR 1 rfl (KW rfl) hg (KR 2 rfl (LX rfl rfl) hg (OL (KR 3 rfl (KW rfl) hg (KR 4 rfl (KW rfl) hg (KR 5 rfl (KW rfl) hg (KR 6 rfl (LC Li L8 rfl rfl (by omega)) hg (KR 8 rfl (KW rfl) hg (KR 9 rfl (KW rfl) hg (KR 10 rfl (Md rfl rfl (by omega)) hg ?_)))))))))))));rw[show(r:Int)-1=((r-1:Nat):Int) by omega];refine qT 7 rfl (fun _ h=>Lm Mk rfl rfl ((aS.ext h).get (i:=r) (by omega))) hg (KR 11 rfl (LC Li L8 rfl rfl (by omega)) hg (qT 12 rfl (fun _ h=>Lm Mk rfl rfl ((aS.ext h).get (i:=r-1) (by omega))) hg (O2 13 [.tmp 24,.tmp 29] rfl QS rfl (Nb _ _ _) ?_)));rintro _ w6 ⟨rfl,rfl⟩;refine⟨hg,?_⟩;refine KR 14 rfl ((by first|exact LN rfl|exact Na rfl)) hg ?_;refine KR 15 rfl (LR rfl rfl) hg (qE (LO rfl (fun h3=>?_) (fun h3=>?_)))
      ·rw[Wu _ _ _ hj (by simpa[Mc] using h3)] at bO;refine It (KL (KQ rfl (An rfl (LH rfl rfl (KO rfl (py (KM ?_)))))));exact(ih (r+1) _ ⟨aS.ext hg,aj.trans hg.kp,bO,by omega,by omega⟩ (by omega)).qb
      ·rw[QV _ _ _ (.inr (by simpa[Mc] using h3))] at bO;refine KX rfl ?_;subst bO;exact(fY _ _ ⟨rfl,aS.ext hg,aj.trans hg.kp⟩).qb
     ·refine run_seq (run_seq (KV (fun w'=>Ext w5 w') (by kernel_rfl) rfl (KR 0 rfl (KW rfl) hg (KR 1 rfl (KW rfl) hg (KR 2 rfl (LX rfl rfl) hg (PA (KR 3 rfl (KW rfl) hg (qJ 4 rfl (hg) (qJ 5 rfl (hg) (qJ 6 rfl (hg) (qJ 7 rfl (hg) (qJ 8 rfl (hg) (qJ 9 rfl (hg) ?_)))))))))))));refine qJ 10 rfl (hg) (qJ 11 rfl (hg) (qJ 12 rfl (hg) (qJ 13 rfl (hg) (qJ 14 rfl (hg) (KR 15 rfl (Ls rfl rfl) hg (qE (KH rfl (KX rfl ?_))))))));rw[QV _ _ _ (.inl hj)] at bO;subst bO;exact(fY _ _ ⟨rfl,aS.ext hg,aj.trans hg.kp⟩).qb
  ·exact absurd (by decide) h0
theorem SA {w:World}{g n cap sb s:Nat}{d:Array Nat}(h:NL w g n cap d)(hB:KY w sb [I (s:Int)] 3)(hs:s<=1000)(x y:Nat)(hx:x<n)(hy:y<n)(pS:sb≠g):
  Lk Tryz.prog 239 [.slice (some ⟨g,0,none⟩) n cap,I (x:Int),I (y:Int),ptr sb 0] w fun u w'=>∃x' y' s':Nat,u= .tuple #[I (x':Int),I (y':Int)]/\((x'=x/\y'=y)\/(x'=y/\y'=x))/\s'<=s+1/\KY w' sb [I (s':Int)] 3/\NL w' g n cap d/\Kp (fun k=>k=sb) w w':=by
 refine KJ (e:=[(0,_),(1,_),(2,_),(3,_)]) Tryz.func239 rfl Tryz.ntmps239 rfl rfl ?_
 have hg:=Ext.Lb w
 refine qN rfl (KO rfl (KO rfl (py (run_seq (run_seq (KV (fun w'=>Ext w w') (by kernel_rfl) rfl (KR 0 rfl (KW rfl) hg (KR 1 rfl (KW rfl) hg (KR 2 rfl (LC Li L8 rfl rfl (by omega)) hg (KR 4 rfl (KW rfl) hg (KR 5 rfl (KW rfl) hg (KR 6 rfl (LC Li L8 rfl rfl (by omega)) hg (qT 3 rfl (fun _ hS=>Lm Mk rfl rfl ((h.ext hS).get (i:=y) (by omega))) hg ?_)))))))))))))
 refine qT 7 rfl (fun _ hS=>Lm Mk rfl rfl ((h.ext hS).get (i:=x) (by omega))) hg (O2 8 [.tmp 13,.tmp 17] rfl QS rfl (Nb _ _ _) ?_)
 rintro _ w6 ⟨rfl,rfl⟩
 refine⟨hg,?_⟩
 refine qE (LO rfl (fun h1=>?_) (fun h1=>?_))
 ·have ak:=hg.KN hB;refine qN rfl (An rfl (qV (L6 rfl) (qV (KS U3 rfl rfl ak rfl) (LH rfl rfl (qV (L6 rfl) (L0 rfl (Mt LG rfl rfl rfl ak (by simp)) ?_))))));rintro w3 ⟨ao,au⟩;refine qM rfl (An rfl (An rfl (KO rfl (KO rfl (py (KP Tryz.func239 rfl ?_))))));exact⟨_,rfl,y,x,s+1,rfl,.inr ⟨rfl,rfl⟩,Nat.le_refl _,ao,(h.ext hg).kp au (fun e=>pS e.symm),hg.kp.trans au⟩
 ·refine It (qN rfl (An rfl (An rfl (KO rfl (KO rfl (py (KP Tryz.func239 rfl ?_)))))));exact⟨_,rfl,x,y,s,rfl,.inl ⟨rfl,rfl⟩,Nat.le_succ _,hg.KN hB,h.ext hg,hg.kp⟩
theorem z0B {w:World}{g n cap sb s:Nat}{d:Array Nat}(h:NL w g n cap d)(hB:KY w sb [I (s:Int)] 3)(hs:s<=500)(x y z:Nat)(hx:x<n)(hy:y<n)(hz:z<n)(pS:sb≠g):
  Lk Tryz.prog 237 [.slice (some ⟨g,0,none⟩) n cap,I (x:Int),I (y:Int),I (z:Int),ptr sb 0] w fun u w'=>∃x' s':Nat,u=I (x':Int)/\(x'=x\/x'=y\/x'=z)/\s'<=s+3/\KY w' sb [I (s':Int)] 3/\NL w' g n cap d/\Kp (fun k=>k=sb) w w':=by
 refine KJ (e:=[(0,_),(1,_),(2,_),(3,_),(4,_)]) Tryz.func237 rfl Tryz.ntmps237 rfl rfl (qN rfl (KO rfl (qM rfl (An rfl (An rfl (An rfl (An rfl (La [.tmp 12,.tmp 13,.tmp 14,.tmp 15] z5K rfl (SA h hB (by omega) x y hx hy pS) ?_))))))))
 rintro _ w1 ⟨x1,y1,s1,rfl,Gw,dC,ai,kh,aM⟩
 refine An rfl (qV (Lu rfl rfl) (qV (Lu rfl rfl) (KO rfl (KO rfl (qM rfl (An rfl (An rfl (An rfl (An rfl (La [.tmp 20,.tmp 21,.tmp 22,.tmp 23] z5K rfl (SA kh ai (by omega) y1 z (by omega) hz pS) ?_))))))))))
 rintro _ w2 ⟨y2,z2,s2,rfl,Gx,cP,ak,kM,am⟩
 refine An rfl (qV (Lu rfl rfl) (qV (Lu rfl rfl) (KO rfl (KO rfl (qM rfl (An rfl (An rfl (An rfl (An rfl (La [.tmp 28,.tmp 29,.tmp 30,.tmp 31] z5K rfl (SA kM ak (by omega) x1 y2 (by omega) (by omega) pS) ?_))))))))))
 rintro _ w3 ⟨x3,y3,s3,rfl,Gy,o2,ao,mu,au⟩
 refine An rfl (qV (Lu rfl rfl) (qV (Lu rfl rfl) (KO rfl (KO rfl (py (Ll.qb (e:=[(2,_),(10,_)]) ?_))))))
 refine qN rfl (An rfl (KO rfl (py (KP Tryz.func237 rfl ?_))))
 exact⟨_,rfl,y3,s3,rfl,by omega,by omega,ao,mu,(aM.trans am).trans au⟩
theorem z3j {w:World}{g n cap:Nat}{d:Array Nat}(h:NL w g n cap d)(a b:Nat)(iZ:a+12<b)(hb:b<=n)(hn:n<50):
  Lk Tryz.prog 226 [.slice (some ⟨g,0,none⟩) n cap,I (a:Int),I (b:Int)] w fun u w'=>∃p t:Nat,u= .tuple #[I (p:Int),I (t:Int)]/\a<=p/\p<b/\t<=2/\NL w' g n cap d/\Ext w w':=by
 have Gz:g<w.heap.size:=h.sl.lt rfl
 refine KJ (e:=[(0,_),(1,_),(2,_)]) Tryz.func226 rfl Tryz.ntmps226 rfl rfl (qN rfl (KO rfl (KO rfl (qM rfl (An rfl (An rfl (qV (Md rfl rfl (by omega)) (KO rfl (qM rfl ?_)))))))))
 rw[show(b:Int)-(a:Int)=((b-a:Nat):Int) by omega]
 refine KU rfl rfl (N3 (cs:=[_]) LG rfl) ?_
 rintro _ w1 ⟨sb,rfl,pS,ad,ai⟩
 replace ai:KY w1 sb [I ((0:Nat):Int)] 3:=ai
 refine qM rfl (An rfl (An rfl (qV (RE rfl rfl (by omega)) (qV (Tu rfl rfl (by omega)) (LH rfl rfl (KO rfl (qM rfl (An rfl (An rfl (qV (RE rfl rfl (by omega)) (qV (Tu rfl rfl (by omega)) (LH rfl rfl (KO rfl ?_)))))))))))))
 refine qM rfl (An rfl (An rfl (qV (RE rfl rfl (by omega)) (qV (Tu rfl rfl (by omega)) (LH rfl rfl (KO rfl (py (Ll.qb (e:=[(0,_),(6,_),(7,_),(8,_),(9,_),(10,_),(11,_),(12,_)]) ?_))))))))
 refine run_seq (qN rfl (An rfl (qV (Ou rfl rfl) (py ?_))))
 rw[show(a:Int)+((b-a:Nat):Int) / 4*1=((a+(b-a) / 4*1:Nat):Int) by omega,show(a:Int)+((b-a:Nat):Int) / 4*2=((a+(b-a) / 4*2:Nat):Int) by omega,show(a:Int)+((b-a:Nat):Int) / 4*3=((a+(b-a) / 4*3:Nat):Int) by omega]
 refine KZ rfl (fun h0=>?_) (fun h0=>?_)
 ·refine run_seq (qN rfl (An rfl (qV (Ou rfl rfl) (py (KZ rfl (fun h1=>?_) (fun h1=>?_))))))
  ·omega
  ·refine It (KQ rfl (An rfl (An rfl (An rfl (An rfl (La [.tmp 44,.tmp 45,.tmp 46,.tmp 47,.tmp 9] zbT rfl (z0B (h.ext ad) ai (by omega) (a+(b-a) / 4*1) (a+(b-a) / 4*2) (a+(b-a) / 4*3) (by omega) (by omega) (by omega) (by omega)) ?_))))));rintro _ w2 ⟨p,s,rfl,hp,hs,ak,kM,am⟩;have af:Ext w w2:=ad.KK am (fun k e=>by omega);refine KO rfl (qM rfl (qV (KS U3 rfl rfl ak rfl) (py (KL (qN rfl (qV (Mr rfl rfl) (KO rfl (py (KZ rfl (fun h2=>?_) (fun h2=>?_))))))))))
   ·refine qN rfl (An rfl (KO rfl (KO rfl (py (KP Tryz.func226 rfl ?_)))));exact⟨_,rfl,p,1,rfl,by omega,by omega,by omega,kM,af⟩
   ·refine qN rfl (qV (Mr rfl rfl) (KO rfl (py (KZ rfl (fun h3=>?_) (fun h3=>?_)))))
    ·refine qN rfl (An rfl (KO rfl (KO rfl (py (KP Tryz.func226 rfl ?_)))));exact⟨_,rfl,p,2,rfl,by omega,by omega,by omega,kM,af⟩
    ·refine qN rfl (An rfl (KO rfl (KO rfl (py (KP Tryz.func226 rfl ?_)))));exact⟨_,rfl,p,0,rfl,by omega,by omega,by omega,kM,af⟩
 ·omega
theorem z4k {w:World}{xb r:Nat}(hB:KY w xb [L5 r] 355)(hr:r<18446744073709551616):
  Lk Tryz.prog 235 [ptr xb 0] w fun u w'=>∃r':Nat,u=L5 r'/\r'<18446744073709551616/\KY w' xb [L5 r'] 355/\Kp (fun k=>k=xb) w w':=by
 refine KJ (e:=[(0,_)]) Tryz.func235 rfl Tryz.ntmps235 rfl rfl ?_
 have bj:=Ext.Lb w
 refine qN rfl (KO rfl (py (run_seq (Le [9] (fun w'=>Ext w w') (by kernel_rfl) rfl (qL [1,2,7,8,9] 0 rfl (fun _ h=>KW rfl) bj (qL [2,7,8,9] 1 rfl (fun _ h=>L6 rfl) bj (qL [7,8,9] 2 rfl (fun _ h=>KS Yb rfl rfl (h.KN hB) rfl) bj (qL [4,5,6,7,8,9] 3 rfl (fun _ h=>KW rfl) bj (qL [5,6,7,8,9] 4 rfl (fun _ h=>L6 rfl) bj (qL [6,7,8,9] 5 rfl (fun _ h=>KS Yb rfl rfl (h.KN hB) rfl) bj (qL [7,8,9] 6 rfl (fun _ h=>MD 13 8192 rfl rfl (by decide) rfl) bj (qL [8,9] 7 rfl (fun _ h=>VN rfl rfl (by omega) (by omega)) bj (qL [9] 8 rfl (fun _ h=>L6 rfl) bj ?_)))))))))))))
 generalize im:r^^^r*8192%18446744073709551616=r1
 have cT:r1<18446744073709551616:=by rw[<-im];exact Nat.xor_lt_two_pow (n:=64) (by omega) (by omega)
 refine LD [9] (by kernel_rfl) (by kernel_rfl) (qO 9 (Lv (i:=9) rfl rfl (Mt Za rfl rfl rfl (bj.KN hB) (by simp)) ?_))
 rintro w1 ⟨ai,aM⟩
 refine⟨trivial,?_⟩
 replace ai:KY w1 xb [L5 r1] 355:=ai
 have aa:=Ext.Lb w1
 refine qE (run_seq (Le [9] (fun w'=>Ext w1 w') (by kernel_rfl) rfl (qL [1,2,7,8,9] 0 rfl (fun _ h=>KW rfl) aa (qL [2,7,8,9] 1 rfl (fun _ h=>L6 rfl) aa (qL [7,8,9] 2 rfl (fun _ h=>KS Yb rfl rfl (h.KN ai) rfl) aa (qL [4,5,6,7,8,9] 3 rfl (fun _ h=>KW rfl) aa (qL [5,6,7,8,9] 4 rfl (fun _ h=>L6 rfl) aa (qL [6,7,8,9] 5 rfl (fun _ h=>KS Yb rfl rfl (h.KN ai) rfl) aa (qL [7,8,9] 6 rfl (fun _ h=>Ps 7 128 rfl rfl (by decide) rfl) aa (qL [8,9] 7 rfl (fun _ h=>VN rfl rfl (by omega) (by omega)) aa (qL [9] 8 rfl (fun _ h=>L6 rfl) aa ?_)))))))))))
 generalize fE:r1^^^r1 / 128=r2
 have dz:r2<18446744073709551616:=by rw[<-fE];exact Nat.xor_lt_two_pow (n:=64) (by omega) (by omega)
 refine LD [9] (by kernel_rfl) (by kernel_rfl) (qO 9 (Lv (i:=9) rfl rfl (Mt Za rfl rfl rfl (aa.KN ai) (by simp)) ?_))
 rintro w2 ⟨ak,am⟩
 refine⟨trivial,?_⟩
 replace ak:KY w2 xb [L5 r2] 355:=ak
 have ag:=Ext.Lb w2
 refine qE (run_seq (Le [9] (fun w'=>Ext w2 w') (by kernel_rfl) rfl (qL [1,2,7,8,9] 0 rfl (fun _ h=>KW rfl) ag (qL [2,7,8,9] 1 rfl (fun _ h=>L6 rfl) ag (qL [7,8,9] 2 rfl (fun _ h=>KS Yb rfl rfl (h.KN ak) rfl) ag (qL [4,5,6,7,8,9] 3 rfl (fun _ h=>KW rfl) ag (qL [5,6,7,8,9] 4 rfl (fun _ h=>L6 rfl) ag (qL [6,7,8,9] 5 rfl (fun _ h=>KS Yb rfl rfl (h.KN ak) rfl) ag (qL [7,8,9] 6 rfl (fun _ h=>MD 17 131072 rfl rfl (by decide) rfl) ag (qL [8,9] 7 rfl (fun _ h=>VN rfl rfl (by omega) (by omega)) ag (qL [9] 8 rfl (fun _ h=>L6 rfl) ag ?_)))))))))))
 generalize GA:r2^^^r2*131072%18446744073709551616=r3
 have bX:r3<18446744073709551616:=by rw[<-GA];exact Nat.xor_lt_two_pow (n:=64) (by omega) (by omega)
 refine LD [9] (by kernel_rfl) (by kernel_rfl) (qO 9 (Lv (i:=9) rfl rfl (Mt Za rfl rfl rfl (ag.KN ak) (by simp)) ?_))
 rintro w3 ⟨ao,au⟩
 refine⟨trivial,?_⟩
 replace ao:KY w3 xb [L5 r3] 355:=ao
 refine qE (Ll.qb (e:=[(0,_),(2,_)]) ?_)
 refine qN rfl (An rfl (qV (L6 rfl) (qV (KS Yb rfl rfl ao rfl) (KO rfl (py (KP Tryz.func235 rfl ?_))))))
 exact⟨_,rfl,r3,rfl,bX,ao,(bj.kp.trans aM).trans ((aa.kp.trans am).trans (ag.kp.trans au))⟩
theorem z2k (x:Nat)(hx:x<18446744073709551616)(w:World):Lk Tryz.prog 214 [L5 x] w fun v w'=>v=I (LB x:Int)/\w'=w:=by
 refine KJ (e:=[(0,_)]) Tryz.func214 rfl Tryz.ntmps214 rfl rfl (qN rfl (KO rfl (py (run_seq (KH rfl (It (qN rfl (An rfl (La [.tmp 6] WY rfl (Pn x hx w) ?_)))))))))
 rintro _ w ⟨rfl,rfl⟩
 refine KO rfl (py (KP Tryz.func214 rfl ?_))
 exact⟨_,rfl,rfl,rfl⟩
theorem z5p (x:Nat)(hx:x<4294967296)(w:World):Lk Tryz.prog 234 [I (x:Int)] w fun v w'=>v=L5 (2^LB x)/\w'=w:=by
 have hl:LB x<=32:=Mu (by omega)
 have hp:2^LB x<=2^32:=Nat.pow_le_pow_right (by decide) hl
 refine KJ (e:=[(0,_)]) Tryz.func234 rfl Tryz.ntmps234 rfl rfl (qN rfl (KO rfl (qM rfl (An rfl (qV ((by first|exact LF rfl U3 z4w (by omega)|exact N0 rfl U3 z4w)) ?_)))))
 refine La [.tmp 4] z8c rfl (z2k x (by omega) w) ?_
 rintro _ w ⟨rfl,rfl⟩
 refine qV (MD (LB x) (2^LB x) rfl rfl (by omega) rfl) ?_
 rw[show 1*2^LB x%18446744073709551616=2^LB x by rw[Nat.one_mul];exact Nat.mod_eq_of_lt (by omega)]
 refine KO rfl (py (KP Tryz.func234 rfl ?_))
 exact⟨_,rfl,rfl,rfl⟩
open Go.Sort in
theorem z57 {d:Array Nat}{a b i j:Nat}(h1:a<=i)(h2:i<b)(h3:a<=j)(h4:j<b)(h5:b<=d.size):PermIn a b d (swp d i j):=swp_permIn d a b i j h1 h2 h3 h4 h5
theorem z6n {w:World}{g n cap:Nat}{d:Array Nat}(h:NL w g n cap d)(a b:Nat)(iZ:a+12<b)(hb:b<=n)(hn:n<50):
  Lk Tryz.prog 225 [.slice (some ⟨g,0,none⟩) n cap,I (a:Int),I (b:Int)] w fun u w'=>u= .tuple #[]/\∃d',Go.Sort.PermIn a b d d'/\NL w' g n cap d'/\Kp (fun k=>k=g) w w':=by
 have Gz:g<w.heap.size:=h.sl.lt rfl
 have At:2^(LB (b-a)-1)<=b-a:=UZ (by omega)
 have rt:2^LB (b-a)<=2*(b-a):=by
  have ru:LB (b-a)≠0:=fun e=>by have:=RW (v:=b-a);rw[e] at this;omega
  rw[show LB (b-a)=LB (b-a)-1+1 by omega,Nat.pow_succ];omega
 have zP:1<=2^LB (b-a):=Nat.one_le_two_pow
 refine KJ (e:=[(0,_),(1,_),(2,_)]) Tryz.func225 rfl Tryz.ntmps225 rfl rfl (qN rfl (An rfl (An rfl (qV (Md rfl rfl (by omega)) ?_))))
 rw[show(b:Int)-(a:Int)=((b-a:Nat):Int) by omega]
 refine KO rfl (qM rfl (An rfl (qV (Ou rfl rfl) (py (KZ rfl (fun h0=>?_) (fun h0=>?_))))))
 ·refine qN rfl (An rfl (qV ((by first|exact LF rfl U3 Yb (by omega)|exact N0 rfl U3 Yb)) ?_));refine KU rfl rfl (N3 (cs:=[_]) Za rfl) ?_;rintro _ w1 ⟨xb,rfl,JP,ad,ai⟩;refine L0 rfl (Mt Za rfl rfl rfl ai (by simp)) ?_;rintro w2 ⟨ak,am⟩;have af:Ext w w2:=ad.KK am (fun k e=>by omega);replace ak:KY w2 xb [L5 (b-a)] 355:=ak;refine qM rfl (An rfl (La [.tmp 18] zaa rfl (z5p (b-a) (by omega) _) ?_));rintro _ w2 ⟨rfl,rfl⟩
  generalize 2^LB (b-a)=M at rt zP
  refine KO rfl (qM rfl (An rfl (An rfl (qV (RE rfl rfl (by omega)) (qV (Tu rfl rfl (by omega)) (LH rfl rfl (qV (Md rfl rfl (by omega)) (KO rfl (py (KL ?_))))))))));rw[show(a:Int)+((b-a:Nat):Int) / 4*2-1=((a+(b-a) / 4*2-1:Nat):Int) by omega];refine MV (α:=Nat×Array Nat×Nat) ((a+(b-a) / 4*2-1,d,b-a)) (fun y=>[(0,.slice (some ⟨g,0,none⟩) n cap),(1,I (a:Int)),(6,I ((b-a:Nat):Int)),(7,ptr xb 0),(8,L5 M),(9,I (y.1:Int))]) (fun y w'=>NL w' g n cap y.2.1/\KY w' xb [L5 y.2.2] 355/\y.2.2<18446744073709551616/\Go.Sort.PermIn a b d y.2.1/\Kp (fun k=>k=g) w w'/\a<=y.1) (fun y=>a+b+2-y.1) ?hI ?hround
  case hI=>exact⟨h.ext af,ak,by dsimp only;omega,Go.Sort.permIn_refl _ _ _,af.kp,by dsimp only;omega⟩
  case hround=>
   rintro⟨idx,d4,r⟩ w4 ⟨dE,aJ,bC,kN,aw,nW⟩ ih;dsimp only at dE aJ bC kN aw nW;have co:=dE.size
   try dsimp only
   refine run_seq (qN rfl (An rfl (An rfl (An rfl (qV (RE rfl rfl (by omega)) (qV (Tu rfl rfl (by omega)) (LH rfl rfl (LH rfl rfl (qV (Qv rfl rfl) (py (KZ rfl (fun h1=>?_) (fun h1=>?_))))))))))))
   ·have oy:idx<b:=by omega
    refine It (run_seq (KL (qN rfl (La [.tmp 7] z9Y rfl (z4k aJ bC) ?_))));rintro _ w5 ⟨r5,rfl,bU,aF,aj⟩;have aS:=dE.kp aj (fun e=>by omega);have cu:Kp (fun k=>k=g) w w5:=aw.KK aj (fun k e=> .inl (by omega));refine An rfl (qV (Rh (m:=M) (n:=1) rfl rfl rfl (by show M<2^64;omega) (by omega)) ?_);refine qV (PF rfl rfl (by omega) (by omega)) ?_;have Au:r5&&&(M-1)<=M-1:=Nat.and_le_right
    generalize r5&&&(M-1)=q at Au
    refine qV (Lw rfl z4w U3 (by omega)) (KO rfl (py (run_seq (qN rfl (An rfl (An rfl (qV (Ou rfl rfl) (py (Lx (fun e' w'=>∃o:Nat,e'=[(0,.slice (some ⟨g,0,none⟩) n cap),(1,I (a:Int)),(6,I ((b-a:Nat):Int)),(7,ptr xb 0),(8,L5 M),(9,I (idx:Int)),(10,I (o:Int))]/\w'=w5/\o<b-a) ?Av (fun Av=>?Aw))))))))))
    case Av=>
     rintro e' w5' ⟨o,rfl,rfl,ho⟩;have ay:=Ext.Lb w5';refine Le [17,19] (fun w'=>Ext w5' w') (by kernel_rfl) rfl (qL [16,17,18,19] 0 rfl (fun _ h=>KW rfl) ay (qL [16,17,18,19] 1 rfl (fun _ h=>KW rfl) ay (LP (i:=2) rfl (by kernel_rfl) rfl rfl (fun _=>KW rfl) (ay) (LP (i:=3) rfl (by kernel_rfl) rfl rfl (fun _=>KW rfl) (ay) (LP (i:=4) rfl (by kernel_rfl) rfl rfl (fun _=>KW rfl) (ay) (LP (i:=5) rfl (by kernel_rfl) rfl rfl (fun _=>PM rfl rfl (by omega)) (ay) (qL [10,11,16,17,18,19] 6 rfl (fun _ h=>KW rfl) ay (qL [9,10,11,16,17,18,19] 7 rfl (fun _ h=>KW rfl) ay (qL [9,10,11,16,17,18,19] 8 rfl (fun _ h=>KW rfl) ay (qL [10,11,16,17,18,19] 9 rfl (fun _ h=>PM rfl rfl (by omega)) ay (qL [11,16,17,18,19] 10 rfl (fun _ h=>LC Li L8 rfl rfl (by omega)) ay (qL [14,15,16,17,18,19] 12 rfl (fun _ h=>KW rfl) ay (qL [14,15,16,17,18,19] 13 rfl (fun _ h=>KW rfl) ay ?_)))))))))))));refine qL [15,16,17,18,19] 14 rfl (fun _ h=>LC Li L8 rfl rfl (by omega)) ay (qL [16,17,18,19] 11 rfl (fun _ h=>Lm Mk rfl rfl ((aS.ext h).get (i:=a+o) (by omega))) ay (qL [16,17,18,19] 15 rfl (fun _ h=>Lm Mk rfl rfl ((aS.ext h).get (i:=idx) (by omega))) ay (qL [17,18,19] 16 rfl (fun _ h=>LC Li L8 rfl rfl (by omega)) ay (LD [17] (by kernel_rfl) (by kernel_rfl) (qO 17 (Lv (i:=17) rfl rfl (MY L8 rfl rfl rfl (aS.ext ay).sl ((aS.ext ay).UM (by omega))) ?_))))));rintro w8a ⟨fC,fD⟩;refine⟨trivial,?_⟩;have cx:=(aS.ext ay).set fC;refine KR 18 rfl (LC Li L8 rfl rfl (by omega)) trivial (qO 19 (Lv (i:=19) rfl rfl (MY L8 rfl rfl rfl cx.sl (cx.UM (by omega))) ?_));rintro w8 ⟨jt,ju⟩;refine⟨trivial,?_⟩;have jv:=cx.set jt;have eQ:Kp (fun k=>k=g) w5' w8:=ay.kp.trans (fD.trans ju);refine qE (KM (KQ rfl (An rfl (LH rfl rfl (KO rfl (py ?_))))));rw[show(idx:Int)+1=((idx+1:Nat):Int) by omega];exact(ih (idx+1,Go.Sort.swp d4 idx (a+o),r5) _ ⟨jv,eQ.KN aF (by omega),bU,Go.Sort.permIn_trans _ _ _ a b kN (z57 nW oy (by omega) (by omega) (by omega)),cu.trans eQ,by dsimp only;omega⟩ (by dsimp only;omega)).qb
    case Aw=>
     refine KZ rfl (fun h2=>?_) (fun h2=>?_)
     ·refine KQ rfl (An rfl (An rfl (qV (Md rfl rfl (by omega)) (KO rfl (py ?_)))));rw[show(q:Int)-((b-a:Nat):Int)=((q-(b-a):Nat):Int) by omega];exact(Av _ _ ⟨q-(b-a),rfl,rfl,by omega⟩).qb
     ·refine It ?_;exact(Av _ _ ⟨q,rfl,rfl,by omega⟩).qb
   ·refine KX rfl (M8 Tryz.func225 rfl ?_);exact⟨_,rfl,rfl,d4,kN,dE,aw⟩
 ·omega
end Go.Proofs.YtpldpcjdjcgicaaGreatDoor
namespace Go.Proofs.YtpldpcjdjcgicaaGreatDoor
open Go Go.RowKit
set_option linter.all false
set_option maxRecDepth 100000
open Go.Sort in
def z8D (g n cap m:Nat):Prop:=∀(w:World) (d:Array Nat),NL w g n cap d->∀(a b limit:Nat),b-a<m->a<=b->b<=n->limit<=64->Below Mc a b d->
 Lk Tryz.prog 213 [.slice (some ⟨g,0,none⟩) n cap,I (a:Int),I (b:Int),I (limit:Int)] w fun u w'=>u= .tuple #[]/\∃d',NL w' g n cap d'/\PermIn a b d d'/\SortedIn Mc a b d'/\Kp (fun k=>k=g) w w'
open Go.Sort in
structure z0j (w:World)(g n cap a b:Nat)(d:Array Nat)(a1 b1 l1:Nat)(d1:Array Nat)(w':World):Prop where
 arr:NL w' g n cap d1
 kp:Kp (fun k=>k=g) w w'
 ab:a1<=b1
 bn:b1<=n
 sm:b1-a1<=b-a
 lim:l1<=64
 bel:Below Mc a1 b1 d1
 fin:∀R,PermIn a1 b1 d1 R->SortedIn Mc a1 b1 R->PermIn a b d R/\SortedIn Mc a b R
open Go.Sort in
theorem z0j.perm {w:World}{g n cap a b:Nat}{d:Array Nat}{a1 b1 l1 l2:Nat}{d1 d2:Array Nat}{w1 w2:World}(h:z0j w g n cap a b d a1 b1 l1 d1 w1)(hA:NL w2 g n cap d2)(hk:Kp (fun k=>k=g) w1 w2)(hp:PermIn a1 b1 d1 d2)(hl:l2<=64):z0j w g n cap a b d a1 b1 l2 d2 w2:=
 ⟨hA,h.kp.trans hk,h.ab,h.bn,h.sm,hl,h.bel.perm (by rw[h.arr.size];exact h.bn) hp,fun R h1 h2=>h.fin R (permIn_trans _ _ _ _ _ hp h1) h2⟩
open Go.Sort in
theorem z6l {g n cap m : Nat}(eG : z8D g n cap m){w : World}{d : Array Nat}(h : NL w g n cap d)(a b limit : Nat)(hm : b - a <= m)(iZ : a <= b)(hb : b <= n)(hn : n < 50)(hl : limit <= 64)(hB : Below Mc a b d) :
  Lk Tryz.prog 213 [.slice (some ⟨g,0,none⟩) n cap,I (a:Int),I (b:Int),I (limit:Int)] w fun u w'=>u= .tuple #[]/\∃d',NL w' g n cap d'/\PermIn a b d d'/\SortedIn Mc a b d'/\Kp (fun k=>k=g) w w':=by
 refine KJ (e:=[(0,_),(1,_),(2,_),(3,_)]) Tryz.func213 rfl Tryz.ntmps213 rfl rfl (qN rfl (KO rfl (qM rfl (KO rfl (py (KL (MV (α:=Nat×Nat×Nat×Bool×Bool×Array Nat) ((a,b,limit,true,true,d)) (fun y=>[(0,.slice (some ⟨g,0,none⟩) n cap),(1,I (y.1:Int)),(2,I (y.2.1:Int)),(3,I (y.2.2.1:Int)),(8,.bool y.2.2.2.1),(9,.bool y.2.2.2.2.1)]) (fun y w'=>z0j w g n cap a b d y.1 y.2.1 y.2.2.1 y.2.2.2.2.2 w') (fun y=>y.2.1-y.1) ?hI ?hround)))))))
 case hI=>exact⟨h,Kp.refl _ _,iZ,hb,Nat.le_refl _,hl,hB,fun R h1 h2=>⟨h1,h2⟩⟩
 case hround =>
  rintro⟨a1,b1,l1,wb,wp,d1⟩ w4 hI ih;dsimp only at hI;have oz:=hI.ab;have fF:=hI.bn;have GB:=hI.sm;have Ew:=hI.lim;have uw:=hI.arr.size
  try dsimp only
  refine KL (qN rfl (An rfl (An rfl (qV (Md rfl rfl (by omega)) (KO rfl (py (run_seq (qN rfl ?_))))))));rw[show(b1:Int)-(a1:Int)=((b1-a1:Nat):Int) by omega];refine An rfl (qV (Qv rfl rfl) (py (KZ rfl (fun h0=>?_) (fun h0=>?_))))
  ·obtain⟨r1,r2⟩:=insertionSort_holds SN d1 a1 b1 oz (by omega);obtain⟨q1,q2⟩:=hI.fin _ r1 r2;refine qN rfl (An rfl (An rfl (An rfl (La [.tmp 24,.tmp 25,.tmp 26] zcQ rfl (WA hI.arr a1 b1 oz fF (by omega)) ?_))));rintro _ w5 ⟨rfl,aS,aj⟩;refine py (KP Tryz.func213 rfl ?_);exact⟨_,rfl,rfl,_,aS,q1,q2,hI.kp.trans aj⟩
  ·refine It (run_seq (qN rfl (An rfl (qV (Mr rfl rfl) (py (KZ rfl (fun h1 => ?_) (fun h1 => ?_)))))))
   ·obtain⟨r1,r2⟩:=heapSort_holds SN d1 a1 b1 oz (by omega);obtain⟨q1,q2⟩:=hI.fin _ r1 r2;refine qN rfl (An rfl (An rfl (An rfl (La [.tmp 30,.tmp 31,.tmp 32] zbW rfl (z5P hI.arr a1 b1 (by omega) fF (by omega)) ?_))));rintro _ w5 ⟨rfl,aS,aj⟩;refine py (KP Tryz.func213 rfl ?_);exact⟨_,rfl,rfl,_,aS,q1,q2,hI.kp.trans aj⟩
   ·refine It (run_seq (qN rfl (An rfl (qV ((by first | exact LN rfl | exact Na rfl)) ?_)))); refine py (Lx (fun e' w' => ∃ l5 d5, e' = [(0, .slice (some ⟨g, 0, none⟩) n cap), (1, I (a1 : Int)), (2, I (b1 : Int)), (3, I ((l5 : Nat) : Int)), (8, .bool wb), (9, .bool wp), (10, I ((b1 - a1 : Nat) : Int))] /\ z0j w g n cap a b d a1 b1 l5 d5 w') ?ey (fun ey => ?fk))
    case ey =>
     rintro e' w5 ⟨l5,d5,rfl,jw⟩;have pT:=jw.lim;have Ax:=jw.arr.size;have GC:g<w5.heap.size:=jw.arr.sl.lt rfl;refine qN rfl (An rfl (An rfl (An rfl (La [.tmp 43,.tmp 44,.tmp 45] zcU rfl (z3j jw.arr a1 b1 (by omega) fF hn) ?_))));rintro _ w6 ⟨p6,t6,rfl,GD,rv,tH,ov,aG⟩;have oA:=jw.perm ov aG.kp (permIn_refl _ _ _) pT;refine An rfl (qV (Lu rfl rfl) (qV (Lu rfl rfl) (KO rfl (KO rfl (py (run_seq (qN rfl (An rfl (qV (Mr rfl rfl) (py (Lx (fun e' w'=>∃d7 p7 t7,e'=[(0,.slice (some ⟨g,0,none⟩) n cap),(1,I (a1:Int)),(2,I (b1:Int)),(3,I (l5:Int)),(8,.bool wb),(9,.bool wp),(10,I ((b1-a1:Nat):Int)),(11,I ((p7:Nat):Int)),(12,I ((t7:Nat):Int))]/\z0j w g n cap a b d a1 b1 l5 d7 w'/\a1<=p7/\p7<b1) ?ar (fun ar=>?dJ))))))))))))
     case ar =>
      rintro e' w7 ⟨d7,p7,t7,rfl,j8,yv,oB⟩;have GE:=j8.arr.size;refine run_seq (run_seq (Lx (fun e' w'=>∃s,e'=[(0,.slice (some ⟨g,0,none⟩) n cap),(1,I (a1:Int)),(2,I (b1:Int)),(3,I (l5:Int)),(8,.bool wb),(9,.bool wp),(10,I ((b1-a1:Nat):Int)),(11,I (p7:Int)),(68,.bool s)]/\w'=w7) ?mv (fun mv=>?mw)))
      case mv=>
       rintro e' w8 ⟨s,rfl,rfl⟩;refine Lx (fun e' w'=>e'=[(0,.slice (some ⟨g,0,none⟩) n cap),(1,I (a1:Int)),(2,I (b1:Int)),(3,I (l5:Int)),(8,.bool wb),(9,.bool wp),(10,I ((b1-a1:Nat):Int)),(11,I (p7:Int))]/\z0j w g n cap a b d a1 b1 l5 d7 w') ?oC (fun oC=>?rA)
       case oC=>
        rintro e' w9 ⟨rfl,j9⟩;have pU:=j9.arr;have hg:=Ext.Lb w9;refine run_seq (run_seq (Lx (fun e' w'=>∃s,e'=[(0,.slice (some ⟨g,0,none⟩) n cap),(1,I (a1:Int)),(2,I (b1:Int)),(3,I (l5:Int)),(8,.bool wb),(9,.bool wp),(10,I ((b1-a1:Nat):Int)),(11,I (p7:Int)),(87,.bool s)]/\w'=w9.drew/\(s=true->0<a1/\Mc d7[a1-1]! d7[p7]! =false)) ?qX (fun qX=>?qY)))
        case qX=>
         rintro e' w10 ⟨s,rfl,rfl,hs⟩;have kO:=pU.ext hg;have ax:Kp (fun k=>k=g) w w9.drew:=j9.kp.trans hg.kp;refine LO rfl (fun h6=>?_) (fun h6=>?_)
         ·obtain⟨GF,kP⟩:=hs h6;obtain⟨mid,d11,hx⟩:∃m e,partitionEqual Mc d7 a1 b1 p7=(m,e):=⟨_,_,rfl⟩;have Ay:=z6X kO a1 b1 p7 yv oB fF (by omega);rw[hx] at Ay;dsimp only at Ay;obtain⟨e1,e2,e3,e4,e5⟩:=round_eq SN (partitionEqual_holds _) GF yv oB (by omega) j9.bel kP hx;refine qN rfl (An rfl (An rfl (An rfl (An rfl (La [.tmp 88,.tmp 89,.tmp 90,.tmp 91] z9J rfl (Ay) ?_)))));rintro _ w11 ⟨rfl,oD,aP⟩;refine KO rfl (qM rfl (An rfl (KO rfl (py (KX rfl ?_)))));exact(ih (mid,b1,l5,wb,wp,d11) _ ⟨oD,ax.trans aP,e2,fF,by dsimp only;omega,j9.lim,e4,fun R r1 r2=>j9.fin R (e5 R r1 r2).1 (e5 R r1 r2).2⟩ (by dsimp only;omega)).qb
         ·obtain⟨mid,ap,d11,hx⟩:∃m q e,partition Mc d7 a1 b1 p7=(m,q,e):=⟨_,_,_,rfl⟩;have rx:=z5x kO a1 b1 p7 yv oB fF (by omega);rw[hx] at rx;dsimp only at rx;obtain⟨e1,e2,e3,e4,e5,e6,e7⟩:=round_part SN (partition_holds _) yv oB (by omega) j9.bel hx;refine It (qN rfl (An rfl (An rfl (An rfl (An rfl (La [.tmp 95,.tmp 96,.tmp 97,.tmp 98] zcx rfl (rx) ?_))))));rintro _ w11 ⟨rfl,oD,aP⟩;refine An rfl (qV (Lu rfl rfl) (qV (Lu rfl rfl) (KO rfl (KO rfl (qM rfl (An rfl (KO rfl (qM rfl (An rfl (An rfl (qV (Md rfl rfl (by omega)) (An rfl (An rfl ?_)))))))))))));refine qV (Md rfl rfl (by omega)) (KO rfl (KO rfl (qM rfl ?_)));rw[show(mid:Int)-(a1:Int)=((mid-a1:Nat):Int) by omega,show(b1:Int)-(mid:Int)=((b1-mid:Nat):Int) by omega];refine An rfl (qV (RE rfl rfl (by omega)) (KO rfl (qM rfl (An rfl (An rfl (qV (LX rfl rfl) (py (KZ rfl (fun h7=>?_) (fun h7=>?_)))))))))
          ·refine qN rfl (An rfl (An rfl (qV (Ou rfl rfl) (KO rfl (qM rfl (An rfl (An rfl (An rfl (An rfl (La [.tmp 117,.tmp 118,.tmp 119,.tmp 120] z5N rfl (eG _ _ oD a1 mid l5 (by omega) e1 (by omega) j9.lim e4) ?_))))))))));rintro _ w12 ⟨rfl,d12,ry,rz,jq,aU⟩;obtain⟨f1,f2⟩:=e6 _ rz jq;refine py (KQ rfl (An rfl (LH rfl rfl (KO rfl (py (KM ?_))))));exact(ih (mid+1,b1,l5,decide (((b1-a1:Nat):Int) / 8<=((mid-a1:Nat):Int)),ap,d12) _ ⟨ry,(ax.trans aP).trans aU,by dsimp only;omega,fF,by dsimp only;omega,j9.lim,f1,fun R r1 r2=>j9.fin R (f2 R r1 r2).1 (f2 R r1 r2).2⟩ (by dsimp only;omega)).qb
          ·refine qN rfl (An rfl (An rfl (qV (Ou rfl rfl) (KO rfl (qM rfl (An rfl (An rfl (LH rfl rfl (An rfl (An rfl ?_))))))))));rw[show(mid:Int)+1=((mid+1:Nat):Int) by omega];refine La [.tmp 127,.tmp 129,.tmp 130,.tmp 131] z5N rfl (eG _ _ oD (mid+1) b1 l5 (by omega) (by omega) fF j9.lim e5) ?_;rintro _ w12 ⟨rfl,d12,ry,rz,jq,aU⟩;obtain⟨f1,f2⟩:=e7 _ rz jq;refine py (KQ rfl (An rfl (KO rfl (py (KM ?_)))));exact(ih (a1,mid,l5,decide (((b1-a1:Nat):Int) / 8<=((b1-mid:Nat):Int)),ap,d12) _ ⟨ry,(ax.trans aP).trans aU,e1,by dsimp only;omega,by dsimp only;omega,j9.lim,f1,fun R r1 r2=>j9.fin R (f2 R r1 r2).1 (f2 R r1 r2).2⟩ (by dsimp only;omega)).qb
        case qY=>
         rcases Nat.eq_zero_or_pos a1 with hj|hj
         ·refine KV (fun w'=>Ext w9 w') (by kernel_rfl) rfl (KR 0 rfl (KW rfl) hg (KR 1 rfl (LU rfl rfl) hg (PA (KR 2 rfl (KW rfl) hg (qJ 3 rfl (hg) (qJ 4 rfl (hg) (qJ 5 rfl (hg) (qJ 6 rfl (hg) (qJ 7 rfl (hg) (qJ 8 rfl (hg) (qJ 9 rfl (hg) (qJ 10 rfl (hg) (qJ 11 rfl (hg) ?_)))))))))))));refine qJ 12 rfl (hg) (qJ 13 rfl (hg) (KR 14 rfl (Ls rfl rfl) hg (qE ?_)));exact(qX _ _ ⟨false,rfl,rfl,fun e=>by cases e⟩).qb
         ·refine KV (fun w'=>Ext w9 w') (by kernel_rfl) rfl (KR 0 rfl (KW rfl) hg (KR 1 rfl (LU rfl rfl) hg (OL (KR 2 rfl (KW rfl) hg (KR 3 rfl (KW rfl) hg (KR 4 rfl (KW rfl) hg (KR 5 rfl (Md rfl rfl (by omega)) hg (KR 8 rfl (KW rfl) hg (KR 9 rfl (KW rfl) hg (KR 10 rfl (LC Li L8 rfl rfl (by omega)) hg ?_))))))))));rw[show(a1:Int)-1=((a1-1:Nat):Int) by omega];refine KR 6 rfl (LC Li L8 rfl rfl (by omega)) hg (qT 7 rfl (fun _ h=>Lm Mk rfl rfl ((pU.ext h).get (i:=a1-1) (by omega))) hg (qT 11 rfl (fun _ h=>Lm Mk rfl rfl ((pU.ext h).get (i:=p7) (by omega))) hg (O2 12 [.tmp 80,.tmp 84] rfl QS rfl (Nb _ _ _) ?_)));rintro _ w10 ⟨rfl,rfl⟩;refine⟨hg,?_⟩;refine KR 13 rfl ((by first|exact LN rfl|exact Na rfl)) hg ?_;refine KR 14 rfl (LR rfl rfl) hg (qE ?_);exact(qX _ _ ⟨decide (¬d7[a1-1]!<d7[p7]!),rfl,rfl,fun e=>⟨hj,by simpa[Mc] using e⟩⟩).qb
       case rA=>
        refine LO rfl (fun h4=>?_) (fun h4=>?_)
        ·obtain⟨r1,r2⟩:=partialInsertionSort_holds SN d7 a1 b1 (by omega) (by omega) j8.bel;refine qN rfl (An rfl (An rfl (An rfl (La [.tmp 69,.tmp 70,.tmp 71] zae rfl (z5I j8.arr a1 b1 (by omega) fF hn) ?_))));rintro _ w9 ⟨rfl,pU,aL⟩;refine py (LO rfl (fun h5=>?_) (fun h5=>?_))
         ·have r3:=r2 h5;rw[z1H d7 a1 b1 (by omega)] at r3;dsimp only at r3;obtain⟨q1,q2⟩:=j8.fin _ (permIn_refl _ _ _) r3;refine KP Tryz.func213 rfl ?_;exact⟨_,rfl,rfl,d7,pU,q1,q2,j8.kp.trans aL⟩
         ·refine It ?_;exact(oC _ _ ⟨rfl,j8.perm pU aL (permIn_refl _ _ _) j8.lim⟩).qb
        ·refine It ?_;exact(oC _ _ ⟨rfl,j8⟩).qb
      case mw =>
       cases wb with
       | false =>
         refine KQ rfl (An rfl (An rfl (qS (qV (Ls rfl rfl) (An rfl (qS (qS (qV (Ls rfl rfl) (py ?_)))))))))
         exact(mv _ _ ⟨false,rfl,rfl⟩).qb
       | true =>
         cases wp with
         | false =>
           refine KQ rfl (An rfl (An rfl (An rfl (qV (LR rfl rfl) (An rfl (qS (qS (qV (Ls rfl rfl) (py ?_)))))))))
           exact(mv _ _ ⟨false,rfl,rfl⟩).qb
         | true =>
           refine KQ rfl (An rfl (An rfl (An rfl (qV (LR rfl rfl) (An rfl (An rfl (qV (Mr rfl rfl) (qV (LR rfl rfl) (py ?_)))))))));exact(mv _ _ ⟨decide ((t7:Int)=1),rfl,rfl⟩).qb
     case dJ=>
      refine KZ rfl (fun h3=>?_) (fun h3=>?_)
      ·refine qN rfl (An rfl (An rfl (An rfl (La [.tmp 51,.tmp 52,.tmp 53] z9I rfl (Z7 ov a1 b1 (by omega) fF (by omega)) ?_))));rintro _ w7 ⟨rfl,yw,aA⟩;refine qM rfl (An rfl (qV (Md rfl rfl (by omega)) (An rfl (An rfl (qV (Md rfl rfl (by omega)) (qV (Md rfl rfl (by omega)) (KO rfl (py (KQ rfl (KO rfl (py ?_)))))))))));rw[show(b1:Int)-1-((p6:Int)-(a1:Int))=((b1-1-(p6-a1):Nat):Int) by omega];exact(ar _ _ ⟨reverseRange d5 a1 b1,b1-1-(p6-a1),1,rfl,oA.perm yw aA (reverseRange_holds _ _ _ oz (by omega)) pT,by omega,by omega⟩).qb
      ·refine It ?_;exact(ar _ _ ⟨d5,p6,t6,rfl,oA,GD,rv⟩).qb
    case fk=>
     refine LO rfl (fun h2=>?_) (fun h2=>?_)
     ·refine qN rfl (An rfl (An rfl (An rfl (La [.tmp 36,.tmp 37,.tmp 38] zbB rfl (z6n hI.arr a1 b1 (by omega) fF hn) ?_))));rintro _ w5 ⟨rfl,d5,gE,aS,aj⟩;refine py (KQ rfl (An rfl (qV (Md rfl rfl (by omega)) (KO rfl (py ?_)))));rw[show(l1:Int)-1=((l1-1:Nat):Int) by omega];exact(ey _ _ ⟨l1-1,d5,rfl,hI.perm aS aj gE (by omega)⟩).qb
     ·refine It ?_;exact(ey _ _ ⟨l1,d1,rfl,hI⟩).qb
theorem z2i (g n cap:Nat)(hn:n<50):∀m,z8D g n cap m
 |0=>fun w d h a b limit hm=>absurd hm (Nat.not_lt_zero _)
 |m+1=>fun w d h a b limit hm iZ hb hl hB=>z6l (z2i g n cap hn m) h a b limit (by omega) iZ hb hn hl hB
open Go.Sort in
theorem z41 {w:World}{v:Value}{l:List Nat}(hS:Sl w v 46 1 l.length (l.map Lp))(bG:l≠[])(hl:l.length<50):
  Lk Tryz.prog 194 [v] w fun u w'=>u= .tuple #[]/\Kp (fun k=>v.ownBlock=some k) w w'/\∃l':List Nat,l'.Perm l/\l'.Pairwise (·<=·)/\Sl w' v 46 1 l'.length (l'.map Lp):=by
 obtain⟨g,cap,rfl⟩:∃g c,v= .slice (some ⟨g,0,none⟩) l.length c:=by
  rcases hS.shape with⟨-,h0⟩|⟨g,c,e,hc⟩
  ·exact absurd (List.eq_nil_of_length_eq_zero (by omega)) bG
  ·exact⟨g,c,e⟩
 have hA:NL w g l.length cap l.toArray:=⟨by simpa using hS,by simp⟩
 have aD:LB l.length<=6:=Mu (by omega)
 refine KJ (e:=[(0,_)]) Tryz.func194 rfl Tryz.ntmps194 rfl rfl (qN rfl (An rfl (qV (LM Li rfl) (KO rfl (py (KQ rfl (An rfl (An rfl (An rfl (qV ((by first|exact LF rfl U3 z4w (by omega)|exact N0 rfl U3 z4w)) ?_))))))))))
 refine La [.tmp 8] z8c rfl (z2k l.length (by omega) w) ?_
 rintro _ w ⟨rfl,rfl⟩
 refine La [.tmp 5,.const (Value.int .i64 0),.tmp 6,.tmp 9] z5N rfl (z2i g l.length cap hl (l.length+1) w l.toArray hA 0 l.length (LB l.length) (by omega) (by omega) (Nat.le_refl _) (by omega) (.inl rfl)) ?_
 rintro _ w1 ⟨rfl,d',kh,hP,hO,hk⟩
 refine py (M8 Tryz.func194 rfl ?_)
 have co:=kh.size
 have iC:d'.toList.Perm l:=by
  have:=hP.2.2;rw[Array.toList_extract,Array.toList_extract] at this;have h1:(d'.toList.take l.length).Perm (l.take l.length):=by simpa using this
  rwa [List.take_of_length_le (by rw[Array.length_toList,co];exact Nat.le_refl _),List.take_length] at h1
 refine⟨_,rfl,rfl,hk.L2 (fun k e=>by rw[e];rfl),d'.toList,iC,?_,?_⟩
 ·rw[List.pairwise_iff_getElem];intro i j hi hj gI;rw[Array.length_toList] at hi hj;have:=hO i j (Nat.zero_le _) gI (by omega);rw[getElem!_pos d' i (by omega),getElem!_pos d' j (by omega)] at this;simp only[Mc,decide_eq_false_iff_not] at this;rw[Array.getElem_toList,Array.getElem_toList];omega
 ·have e:d'.toList.length=l.length:=by rw[Array.length_toList,co]
  rw[e];exact kh.sl
structure NuI (w w1:World)(p:Nc)(b5 n11:Nat)(L:List (Cd×Nat))(w':World):Prop where
 ex:∃F,Yk w' n11 L F/\∀k,F k->w1.heap.size<=k
 ext:Ext w w'
 b5:KY w' b5 (UG p) 245
 siz:w1.heap.size<=w'.heap.size
theorem NuI.put {w w1 w2 w3:World}{p:Nc}{b5 n11:Nat}{L L':List (Cd×Nat)}{F:Nat->Prop}(h:NuI w w1 p b5 n11 L w2)(hf:∀k,F k->w1.heap.size<=k)(gD:b5<w1.heap.size)(Ex:w.heap.size<=w1.heap.size)
  (g:∃F',Yk w3 n11 L' F'/\Kp F w2 w3/\∀k,F' k->F k\/w2.heap.size<=k):NuI w w1 p b5 n11 L' w3:=by
 obtain⟨F',g1,g2,g3⟩:=g
 have hs:=h.siz
 refine⟨⟨F',g1,fun k hk=>?_⟩,h.ext.KK g2 (fun k hk=>by have:=hf k hk;omega),g2.KN h.b5 (fun e=>by have:=hf b5 e;omega),by have:=g2.size;omega⟩
 rcases g3 k hk with e| e
 ·exact hf k e
 ·omega
structure Wn (w w1 w2:World)(p:Nc)(b5 n11:Nat)(X:Nat->Prop)(L:List (Cd×Nat))(w3:World):Prop where
 ex:∃F,Yk w3 n11 L F/\(∀k,F k->w1.heap.size<=k)/\∀k,F k->¬X k
 ext:Ext w w3
 b5:KY w3 b5 (UG p) 245
 siz:w1.heap.size<=w3.heap.size
 kx:Kp (fun k=>¬X k) w2 w3
theorem Wn.put {w w1 w2 w3 w4:World}{p:Nc}{b5 n11:Nat}{X:Nat->Prop}{L L':List (Cd×Nat)}{F:Nat->Prop}(h:Wn w w1 w2 p b5 n11 X L w3)(hX:∀k,X k->k<w2.heap.size)(hf:∀k,F k->w1.heap.size<=k)(hx:∀k,F k->¬X k)(gD:b5<w1.heap.size)(Ex:w.heap.size<=w1.heap.size)
  (g:∃F',Yk w4 n11 L' F'/\Kp F w3 w4/\∀k,F' k->F k\/w3.heap.size<=k):Wn w w1 w2 p b5 n11 X L' w4:=by
 obtain⟨F',g1,g2,g3⟩:=g
 have hs:=h.siz
 have hz:=h.kx.size
 refine⟨⟨F',g1,fun k hk=>?_,fun k hk fZ=>?_⟩,h.ext.KK g2 (fun k hk=>by have:=hf k hk;omega),g2.KN h.b5 (fun e=>by have:=hf b5 e;omega),by have:=g2.size;omega,h.kx.trans (g2.L2 hx)⟩
 ·rcases g3 k hk with e| e
  ·exact hf k e
  ·omega
 ·rcases g3 k hk with e| e
  ·exact hx k e fZ
  ·have:=hX k fZ;omega
theorem O9:∀(l:List Nat) (k:Nat),(runNums k l).length=l.length
 |[],_=>rfl
 |_::l,k=>by rw[runNums,List.length_cons,List.length_cons,O9 l]
theorem Tc:∀(l:List Nat) (k n:Nat),runNums k (l++[n])=runNums k l++[(.gamma,n-min (k+l.length) 1)]
 |[],k,n=>rfl
 | m :: l, k, n => by
   rw[List.cons_append,runNums,Tc l (k+1) n,runNums,List.cons_append,List.length_cons,show k+1+l.length=k+(l.length+1) by omega]
theorem VF:∀{l:List Nat},(∀n∈l,1<=n)->l.length<=l.sum
 |[],_=>Nat.le_refl _
 | x :: l, h => by
   have h1:=h x List.mem_cons_self;have h2:=VF (fun n hn=>h n (List.mem_cons_of_mem x hn));rw[List.length_cons,List.sum_cons];omega
theorem Ov.Wf {rs:List Nat}{fs:List Bool}(h:Ov rs fs):rs.length<=fs.length+1:=by
 have e:=NS true rs
 rw[h.exp] at e
 cases rs with
 |nil=>simp
 | cons a tl =>
   have h1:=VF (l:=tl) (fun n hn=>h.pos n hn);rw[List.sum_cons] at e;rw[List.length_cons];omega
theorem St:∀l:List Nat,(rowsN 0 l).1=[]
 |[]=>by rw[rowsN]
 | x :: l => by
   rw[rowsN,if_neg (by omega)];exact St (l.drop (runLen x l))
 termination_by l=>l.length
 decreasing_by simp[List.length_drop];omega
def T2 (l:List (Nat×Nat)):Option Nat:=l.getLast?.map fun p=>p.1+p.2-1
theorem T7 (x least:Nat):∀(l:List (Nat×Nat)) (e:Option Nat) (p:Nat×Nat),longNums x least e (l++[p])=longNums x least e l++longNums x least (match l with|[]=>e|_=>T2 l) [p]
 |[],e,p=>by cases e<;>rfl
 | q :: l, e, p => by
   rw[List.cons_append,MT,MT,T7 x least l _ p]
   cases l with
   |nil=>rfl
   |cons q2 l=>rfl
theorem Ws (x least:Nat)(l:List (Nat×Nat))(p:Nat×Nat):longNums x least none (l++[p])=longNums x least none l++[(.gamma,PE x (T2 l) p.1),(.gamma,p.2-least)]:=by
 rw[T7]
 cases l with
 |nil=>rfl
 |cons q l=>rw[MT x least (match q::l with|[]=>none|_=>T2 (q::l))];rfl
theorem z4Q {w : World}{b off n cap i : Nat}{R : List (Nat × Nat)}{q : Nat × Nat}(h : Rd w (.slice (some ⟨b, off, none⟩) n cap) 2 n (R.flatMap Wz))(hq : R[i]? = some q) : ∀ j u, [I (q.1 : Int), I (q.2 : Int)][j]? = some u -> w.cell? ⟨b, off + i * 2 + j, none⟩ = some u := by
 intro j u hj
 have hi:=(List.getElem?_eq_some_iff.1 hq).1
 rcases h.2 with⟨c,hc,h0⟩|⟨b',off',cap',e,hc⟩
 ·have:=h.1;rw[z2Q] at this;omega
 ·cases e
  have ki:(R.flatMap Wz)[i*2+j]? =some u:=by
   have kf:j<2:=(List.getElem?_eq_some_iff.1 hj).1
   have key : ∀ (R : List (Nat × Nat)) (i : Nat), R[i]? = some q -> (R.flatMap Wz)[i * 2 + j]? = some u := by
    intro R
    induction R with
    |nil=>intro i h;simp at h
    | cons a R ih =>
      intro i h;rw[List.flatMap_cons]
      cases i with
      | zero =>
        rw[List.getElem?_cons_zero] at h;cases h;rw[List.getElem?_append_left (by show _<2;omega),Nat.zero_mul,Nat.zero_add]
        exact hj
      | succ i =>
        rw[List.getElem?_append_right (by show 2<=_;omega),show(i+1)*2+j-(Wz a).length=i*2+j by show(i+1)*2+j-2=_;omega];exact ih i h
   exact key R i hq
  have:=hc (i*2+j) u ki;rw[show off+i*2+j=off+(i*2+j) by omega];exact this
theorem Wn.ex2 {w w1 w2 w3 w4:World}{p:Nc}{b5 n11:Nat}{X:Nat->Prop}{L:List (Cd×Nat)}(h:Wn w w1 w2 p b5 n11 X L w3)(hx:Ext w3 w4):Wn w w1 w2 p b5 n11 X L w4:=by
 obtain⟨⟨F,h1,h2,h3⟩,h4,h5,h6,h7⟩:=h
 exact⟨⟨F,h1.ext hx,h2,h3⟩,h4.trans hx,hx.KN h5,by have:=hx.size;omega,h7.trans hx.kp⟩
theorem Wn.back {w w1 w2 w3 w4:World}{p:Nc}{b5 n11:Nat}{X X':Nat->Prop}{L L':List (Cd×Nat)}(h:Wn w w1 w2 p b5 n11 X L w3)(h':Wn w w1 w3 p b5 n11 X' L' w4)(hX:∀k,X k->X' k):Wn w w1 w2 p b5 n11 X L' w4:=by
 obtain⟨⟨F,h1,h2,h3⟩,h4,h5,h6,h7⟩:=h'
 exact⟨⟨F,h1,h2,fun k hk hx=>h3 k hk (hX k hx)⟩,h4,h5,h6,h.kx.trans (h7.L2 fun k hk hx=>hk (hX k hx))⟩
theorem Wn.again {w w1 w2 w3:World}{p:Nc}{b5 n11:Nat}{X X':Nat->Prop}{L:List (Cd×Nat)}{F:Nat->Prop}(h:Wn w w1 w2 p b5 n11 X L w3)(hA:Yk w3 n11 L F)(hf:∀k,F k->w1.heap.size<=k)(hx:∀k,F k->¬X' k):Wn w w1 w3 p b5 n11 X' L w3:=
 ⟨⟨F,hA,hf,hx⟩,h.ext,h.b5,h.siz,Kp.refl _ _⟩
theorem NG (x least:Nat):∀(l:List (Nat×Nat)) (e:Option Nat),(longNums x least e l).length=2*l.length
 |[],e=>by cases e<;>rfl
 |q::l,e=>by rw[MT,List.length_cons,List.length_cons,NG x least l,List.length_cons];omega
theorem TY {least:Nat}:∀(R:List (Nat×Nat)) (lo i:Nat) (q:Nat×Nat),NU least lo R->R[i]? =some q->1<=q.2/\least<=q.2/\(∀z,T2 (R.take i)=some z->z+2<=q.1)/\(T2 (R.take i)=none->lo<=q.1)
 |[],lo,i,q,h,hq=>by simp at hq
 | p :: R, lo, 0, q, h, hq => by
   rw[List.getElem?_cons_zero] at hq;cases hq
   exact⟨h.2.1,h.2.2.1,(fun z hz=>by cases hz),fun _=>h.1⟩
 | p :: R, lo, i + 1, q, h, hq => by
   rw[List.getElem?_cons_succ] at hq;obtain⟨h1,h2,h3,h4⟩:=TY R _ i q h.2.2.2 hq;have hp:1<=p.2:=h.2.1;refine⟨h1,h2,fun z hz=>?_,fun hz=>?_⟩
   ·rw[List.take_succ_cons] at hz
    cases hR:R.take i with
    | nil =>
      rw[hR] at hz;have e:p.1+p.2-1=z:=ML hz;have:=h4 (by rw[hR];rfl)
      omega
    | cons a l =>
      rw[hR] at hz;exact h3 z (by rw[hR];exact hz)
   ·rw[List.take_succ_cons] at hz;exfalso;unfold T2 at hz;rw[Option.map_eq_none_iff,List.getLast?_eq_none_iff] at hz;cases hz
theorem z48 (l:List (Nat×Nat))(q:Nat×Nat):T2 (l++[q])=some (q.1+q.2-1):=by simp[T2]
theorem z6k {least:Nat}{l:List Nat}{q:Nat×Nat}(hl:∀y∈l,y<65536)(hq:q∈(rowsN least l).1)(h1:1<=q.2):q.1+q.2<=65536:=by
 have h2:q.1+(q.2-1)∈Mp (rowsN least l).1:=by
  unfold Mp;exact List.mem_flatMap.2 ⟨q,hq,List.mem_map.2 ⟨q.2-1,List.mem_range.2 (by omega),rfl⟩⟩
 have:=hl _ ((Ox least l).subset (List.mem_append_left _ h2))
 omega
def z63 (x:Nat):Option Nat->Nat->Nat
 |none,v=>Yh ((v:Int)-x)
 |some u,v=>v-u-1
theorem NQ (x k:Nat)(e:Option Nat)(v:Nat)(r:List Nat):restNums x k e (v::r)=(.zeta k,z63 x e v)::restNums x k (some v) r:=by
 cases e<;>rfl
theorem Tb (x k:Nat):∀(l:List Nat) (e:Option Nat) (v:Nat),restNums x k e (l++[v])=restNums x k e l++restNums x k (match l with|[]=>e|_=>l.getLast?) [v]
 |[],e,v=>by cases e<;>rfl
 | u :: l, e, v => by
   rw[List.cons_append,NQ,NQ,Tb x k l _ v]
   cases l with
   |nil=>rfl
   |cons u2 l=>rfl
theorem Sk (x k:Nat)(l:List Nat)(v:Nat):restNums x k none (l++[v])=restNums x k none l++[(.zeta k,z63 x l.getLast? v)]:=by
 rw[Tb]
 cases l with
 |nil=>rfl
 |cons u l=>rw[NQ x k (match u::l with|[]=>none|_=>(u::l).getLast?)];cases (u::l).getLast?<;>rfl
theorem Oj (x k:Nat):∀(l:List Nat) (e:Option Nat),(restNums x k e l).length=l.length
 |[],e=>by cases e<;>rfl
 |v::l,e=>by rw[NQ,List.length_cons,Oj x k l,List.length_cons]
theorem LA {α:Type}{l:List α}{i:Nat}{q:α}(h:l[i]? =some q):l.take (i+1)=l.take i++[q]:=by
 rw[List.take_succ,h];rfl
theorem Tm {w : World}(p : Nc)(hp : p.M3)(x : Nat)(hx : x < 65536){sa ra : Option Addr}{sc rc : Nat}(succ ref : List Nat)(hs : Lt succ)(hr : Lt ref)(r : Nat)(iD : r <= p.Lf)(kI : r = 0 -> ref = [])
  (hG:KY w 1 (NM .gamma) 298) (hU:KY w 2 (NM .unary) 298) (dV:Rd w (.slice sa succ.length sc) 1 succ.length (succ.map Lp)) (kQ:Rd w (.slice ra ref.length rc) 1 ref.length (ref.map Lp)) (gB:succ.length<=sc) (mx:ref.length<=rc):
  Lk Tryz.prog 175 [lpV p,I (x:Int),.slice sa succ.length sc,.slice ra ref.length rc,I (r:Int)] w fun u w'=>Sl w' u 300 3 (MK p x succ ref r).length ((MK p x succ ref r).flatMap z0T)/\(∀g,u.ownBlock=some g->w.heap.size<=g)/\Ext w w':=by
 obtain⟨g1,g2,g3,g4⟩:=id hp
 have gm:=hs.len
 have gC:=hr.len
 refine KJ (e:=[(0,_),(1,_),(2,_),(3,_),(4,_)]) Tryz.func175 rfl Tryz.ntmps175 rfl rfl (qN rfl (KU rfl rfl (MH rfl (cs:=UG p) rfl) ?_))
 rintro _ w1 ⟨b5,rfl,gD,ad,aF⟩
 have z1:=ad.size
 have l5:=aF.lt
 refine KO rfl (qM rfl (qV (Lj (news:=[.int .u8 1,L5 0]) Nv rfl Mj rfl ((ad.KN hG).cells (n:=2) rfl) rfl) (An rfl (qV (LM Li rfl) (qV ((by first|exact LF rfl U3 Mq (by omega)|exact N0 rfl U3 Mq)) ?_)))))
 refine qV (NA (parts:=[(0,.tmp 25),(1,.tmp 28)]) (cs:=[_,_,_]) Qk rfl z8u rfl rfl) (KU rfl rfl (Tx (parts:=[(0,.tmp 29)]) (cs:=[_,_,_]) (zs:=[Value.int .u8 0,Value.int .u64 0,Value.int .u64 0]) UF Qk rfl (by kernel_rfl) rfl rfl rfl (by decide)) ?_)
 rintro _ w2 ⟨b2,rfl,⟨bT,af,ak⟩,cL⟩
 have z2:=af.size
 have l2:=ak.lt
 refine KU rfl rfl (N3 (cs:=[_]) z4S rfl) ?_
 rintro _ w3 ⟨n11,rfl,iz,ah,aH⟩
 have z3:=ah.size
 refine L0 rfl (Mt z4S rfl rfl rfl aH (by simp)) ?_
 rintro w4 ⟨kj,aw⟩
 have z4:=aw.size
 replace kj:KY w4 n11 [.slice (some ⟨b2,0,none⟩) 1 1] 295:=kj
 have dU:=(cL.ext ah).kp aw (fun g hg e=>by have h1:b2=g:=ML hg;omega)
 have tI:NuI w w1 p b5 n11 [(.gamma,succ.length)] w4:=⟨⟨WX n11 (.slice (some ⟨b2,0,none⟩) 1 1),⟨_,⟨kj,dU,fun e=>by have h1:b2=n11:=ML e;omega⟩,fun _=>Iff.rfl⟩,fun k hk=>by
   rcases hk with e| e
   ·omega
   ·have h1:b2=k:=ML e
    omega⟩,((ad.trans af).trans ah).KK aw (fun k e=>by omega),aw.KN (ah.KN (af.KN aF)) (by omega),by omega⟩
 refine py (run_seq (qN rfl (An rfl (qV (LM Li rfl) (qV (Mr rfl rfl) (py (KZ rfl (fun e0=>?_) (fun e0=>?_))))))))
 ·have eD:succ=[]:=List.eq_nil_of_length_eq_zero (by omega);subst eD;refine qN rfl (qV (KS UF rfl rfl kj rfl) (KO rfl (py (KP Tryz.func175 rfl ?_))));have kP:MK p x [] ref r=[(.gamma,0)]:=by simp[MK]
  rw[kP];exact⟨_,rfl,dU,fun g hg=>by have h1:b2=g:=ML hg;omega,tI.ext⟩
 ·have gn := tI.b5; replace gn : KY w4 b5 [I (p.Lf : Int), I (p.interval : Int), I (p.zeta : Int)] 245 := gn; refine It (qN rfl (qV (Zj (first := []) (caps := [.tmp 11]) rfl rfl) (KO rfl (py (run_seq (qN rfl (qV (KT Od rfl) (qV (KS U3 rfl rfl gn rfl) (qV (LU rfl rfl) (py (Lx (fun e' w' => e' = [(1, I (x : Int)), (2, .slice sa succ.length sc), (3, .slice ra ref.length rc), (4, I (r : Int)), (5, ptr b5 0), (11, ptr n11 0), (12, .func (.func 195) #[] #[ptr n11 0])] /\ NuI w w1 p b5 n11 ([(.gamma, succ.length)] ++ (if 0 < p.Lf then [(.unary, r)] else [])) w') ?cq (fun cq => ?cJ))))))))))))
  case cq =>
   rintro e' w5 ⟨rfl,rB⟩;have Ax:=rB.siz;refine qN rfl (KU rfl rfl (Tx (parts:=[(0,.const (Value.int .i64 0))]) (cs:=[_]) (zs:=[Value.int .i64 0]) Mw LG rfl (by kernel_rfl) rfl rfl rfl (by decide)) ?_);rintro _ w6 ⟨b43,rfl,⟨Az,aG,dA⟩,my⟩;have l6:=dA.lt;refine KU rfl rfl (N3 (cs:=[_]) z0H rfl) ?_;rintro _ w7 ⟨rn,rfl,GG,bL,ux⟩;have l7:=ux.lt;have z7:=bL.size;refine KU rfl rfl (N3 (cs:=[_]) OI rfl) ?_;rintro _ w8 ⟨lf,rfl,GH,cI,uy⟩;have l8:=uy.lt;have z8:=cI.size;refine L0 rfl (Mt z0H rfl rfl rfl (cI.KN ux) (by simp)) ?_;rintro w9 ⟨mz,aL⟩;have z9:=aL.size;replace mz:KY w9 rn [.slice (some ⟨b43,0,none⟩) 1 1] 51:=mz;refine L0 rfl (Mt OI rfl rfl rfl (aL.KN uy (by omega)) (by simp)) ?_;rintro w10 ⟨jx,ax⟩;have z10:=ax.size;replace jx:KY w10 lf [.slice none 0 0] 45:=jx;have fG:Ext w5 w10:=(((aG.trans bL).trans cI).KK aL (fun k e=>by omega)).KK ax (fun k e=>by omega)
   have oE:NuI w w1 p b5 n11 ([(.gamma,succ.length)]++(if 0<p.Lf then [(.unary,r)] else [])) w10:=by
    obtain⟨⟨F,h1,h2⟩,h3,h4,h5⟩:=rB;exact⟨⟨F,h1.ext fG,h2⟩,h3.trans fG,fG.KN h4,by have:=fG.size;omega⟩
   have c6:=(((my.ext bL).ext cI).kp aL (fun g hg e=>by have h1:b43=g:=ML hg;omega)).kp ax (fun g hg e=>by have h1:b43=g:=ML hg;omega);have GI:XW w10 lf [] (WX lf (.slice none 0 0)):=⟨_,⟨jx,Sl.nil _ _ _,fun e=>by cases e⟩,fun _=>Iff.rfl⟩;have GJ:Ww w10 rn [0] (WX rn (.slice (some ⟨b43,0,none⟩) 1 1)):=⟨_,⟨ax.KN mz (by omega),c6,fun e=>by have h1:b43=rn:=ML e;omega⟩,fun _=>Iff.rfl⟩
   have kR:∀k,WX lf (.slice none 0 0) k->k=lf:=fun k hk=>by
    rcases hk with e| e
    ·exact e
    ·cases e
   have lP:∀k,WX rn (.slice (some ⟨b43,0,none⟩) 1 1) k->k=rn\/k=b43:=fun k hk=>by
    rcases hk with e| e
    ·exact .inl e
    ·exact .inr (ML e).symm
   have cy:∀k,WX lf (.slice none 0 0) k\/WX rn (.slice (some ⟨b43,0,none⟩) 1 1) k->w5.heap.size<=k:=fun k hk=>by
    rcases hk with e| e
    ·have:=kR k e;omega
    ·rcases lP k e with e|e<;>omega
   have hE:OZ w10 succ ref lf rn (WX lf (.slice none 0 0)) (WX rn (.slice (some ⟨b43,0,none⟩) 1 1)) succ sa sc ref ra rc [] [0] w10:=by
    refine⟨⟨_,_,[],GI,GJ,Ov.zero,by simpa using gC,by simp;omega,fun k h=> .inl h,fun k h=> .inl h,fun k h1 h2=>?_⟩,fun w2 k=>?_,fun w2 k=>?_,gB,mx,Kp.refl _ _,hs,hr,rfl,rfl,by simpa using gm⟩
    ·have e1:=kR k h1;rcases lP k h2 with e2|e2<;>omega
    ·exact(dV.ext oE.ext).kpz k (fun h0 g hg hS=>by have e1:=dV.ltz (by decide) h0 hg;have e2:=cy g hS;omega)
    ·exact(kQ.ext oE.ext).kpz k (fun h0 g hg hS=>by have e1:=kQ.ltz (by decide) h0 hg;have e2:=cy g hS;omega)
   refine qM rfl (An rfl (An rfl (qV (Zj (first:=[]) (caps:=[.tmp 14,.tmp 13]) rfl rfl) (La [.tmp 44,.tmp 45,.tmp 46] zaX rfl (z5L hE) ?_))));rintro _ w11 ⟨rfl,FL,FR,uz,oF,AA,AB,ma,aP⟩
   have iE:NuI w w1 p b5 n11 ([(.gamma,succ.length)]++(if 0<p.Lf then [(.unary,r)] else [])) w11:=by
    have aQ:Kp (fun k=>WX lf (.slice none 0 0) k\/WX rn (.slice (some ⟨b43,0,none⟩) 1 1) k) w10 w11:=aP;have AC:=rB.ex;obtain⟨⟨F,h1,h2⟩,h3,h4,h5⟩:=oE;obtain⟨F5,h6,h7⟩:=AC;have gD:b5<w5.heap.size:=rB.b5.lt;refine⟨⟨F5,(h6.ext fG).kp aQ (fun k hk hS=>by have e1:=h6.lt hk;have e2:=cy k hS;omega),h7⟩,h3.KK aQ (fun k hk=>by have e2:=cy k hk;have:=rB.ext.size;omega),aQ.KN h4 (fun hS=>by have e2:=cy b5 hS;omega),by have:=aQ.size;omega⟩
   generalize hA:([(Cd.gamma,succ.length)]++(if 0<p.Lf then [(Cd.unary,r)] else []):List (Cd×Nat))=A at iE oE rB
   have JQ:A.length<=2:=by rw[<-hA];split<;>simp
   have rC:∀k,(FL k\/FR k)->k<w11.heap.size:=fun k hk=>by
    rcases hk with e| e
    ·exact uz.lt e
    ·exact oF.lt e
   have oG:Wn w w1 w11 p b5 n11 (fun k=>FL k\/FR k) A w11:=by
    obtain⟨F5,h6,h7⟩:=rB.ex;have JR:=fG.size;refine⟨⟨F5,(h6.ext fG).kp aP (fun k hk hS=>by have e1:=h6.lt hk;have e2:=cy k hS;omega),h7,fun k hk hX=>?_⟩,iE.ext,iE.b5,iE.siz,Kp.refl _ _⟩;have e1:=h6.lt hk;rcases hX with e| e
    ·rcases AA k e with e2|e2
     ·have:=cy k (.inl e2);omega
     ·omega
    ·rcases AB k e with e2|e2
     ·have:=cy k (.inr e2);omega
     ·omega
   refine py (run_seq (qN rfl (An rfl (qV (LU rfl rfl) (py (Lx (fun e' w'=>e'=[(1,I (x:Int)),(5,ptr b5 0),(11,ptr n11 0),(12,.func (.func 195) #[] #[ptr n11 0]),(14,ptr lf 0)]/\Wn w w1 w11 p b5 n11 (fun k=>FL k\/FR k) (A++(if 0<r then(.gamma,(Mx succ ref).length-1)::runNums 0 (Mx succ ref).dropLast else [])) w') ?ey (fun ey=>?fk)))))))
   case ey =>
    rintro e' w12 ⟨rfl,eH⟩;have gS:succ≠[]:=fun e=>e0 (by rw[e];rfl)
    generalize hB:(if 0<r then(Cd.gamma,(Mx succ ref).length-1)::runNums 0 (Mx succ ref).dropLast else []:List (Cd×Nat))=B at eH
    have uA:=uz.kp eH.kx (fun k hk e=>e (.inl hk));obtain⟨vl,yx,JS⟩:=uA;obtain⟨la,lc,rfl,-⟩:=yx.sl.rd.shape;obtain⟨F,⟨vn,pV,uB⟩,oH,AD⟩:=id eH.ex;have yz:=yx.KN;have yA:=pV.KN;refine run_seq (qN rfl (qV ((by first|exact KS Li rfl rfl yz rfl|exact KS Li rfl rfl yA rfl)) ?_));refine qV (LM Li rfl) (qV (Mr rfl rfl) (py (KZ rfl (fun e3=>?_) (fun e3=>?_))))
    ·have jn:leftOf succ ref=[]:=List.eq_nil_of_length_eq_zero (by omega)
     have mA:MK p x succ ref r=A++B:=by
      unfold MK;rw[if_neg gS,if_pos jn,List.append_nil,<-hA,<-hB];rfl
     refine qN rfl (qV ((by first|exact KS UF rfl rfl yz rfl|exact KS UF rfl rfl yA rfl)) ?_);refine KO rfl (py (KP Tryz.func175 rfl ?_));rw[mA];exact⟨_,rfl,pV.sl,fun g hg=>by have:=oH g ((uB g).2 (.inr hg));omega,eH.ext⟩
    ·have oI := eH.b5; replace oI : KY w12 b5 [I (p.Lf : Int), I (p.interval : Int), I (p.zeta : Int)] 245 := oI; refine It (qN rfl (qV ((by first | exact KS Li rfl rfl yz rfl | exact KS Li rfl rfl oI rfl)) ?_)); refine qV (KT P4 rfl) (qV ((by first | exact KS U3 rfl rfl yz rfl | exact KS U3 rfl rfl oI rfl)) ?_); have av : Lt (leftOf succ ref) := hs.sub List.filter_sublist; have GK := av.len
     have o3:(leftOf succ ref).length<=lc:=by
      rcases yx.sl.shape with⟨-,h0⟩|⟨g,c1,hv,ff⟩
      ·omega
      ·cases hv;exact ff
     refine La [.tmp 80,.tmp 82] zac rfl (z50 la lc (leftOf succ ref) p.interval av o3 (by omega) w12 yx.sl.rd) ?_;rintro _ w13 ⟨v4,v5,rfl,kS,mB,aX,oJ,rD,Ey⟩;have dg:=PI p.interval (leftOf succ ref);have oK:Lt (rowsN p.interval (leftOf succ ref)).2:=av.sub dg
     have fZ:∀k,(v4.ownBlock=some k\/v5.ownBlock=some k)->w12.heap.size<=k/\k<w13.heap.size:=fun k hk=>by
      rcases hk with e| e
      ·exact⟨oJ k e,kS.lt e⟩
      ·exact⟨rD k e,mB.lt e⟩
     have jy:Wn w w1 w13 p b5 n11 (fun k=>v4.ownBlock=some k\/v5.ownBlock=some k) (A++B) w13:=by
      have jl:∀k,F k->k<w12.heap.size:=fun k hk=>by
       rcases (uB k).1 hk with e| e
       ·rw[e];exact pV.KN.lt
       ·exact pV.sl.lt e
      have uC:Yk w12 n11 (A++B) F:=⟨vn,pV,uB⟩;exact⟨⟨F,uC.ext aX,oH,fun k hk hX=>by have e1:=jl k hk;have e2:=(fZ k hX).1;omega⟩,eH.ext.trans aX,aX.KN eH.b5,by have e1:=eH.siz;have e2:=aX.size;omega,Kp.refl _ _⟩
     have uD:=aX.KN oI;have GL:=kS.oneV;have GM:=mB.oneV;refine An rfl (qV (Lu rfl rfl) (qV (Lu rfl rfl) (KO rfl (KO rfl (py (run_seq (qN rfl (qV (KT P4 rfl) (qV (KS U3 rfl rfl uD rfl) (qV (LU rfl rfl) (py ?_)))))))))))
     have GN:(A++B).length<=200000:=by
      rw[List.length_append,<-hB];split
      ·rw[List.length_cons,O9,List.length_dropLast];have h1:=(O4 succ ref).Wf;rw[List.length_map] at h1;omega
      ·simp;omega
     generalize hQ:rowsN p.interval (leftOf succ ref)=Q at kS mB oK dg
     have JT : Q.1.length <= 65536 := by
      have h1:=Ox p.interval (leftOf succ ref);have h2:=h1.length_eq;rw[hQ,List.length_append] at h2
      have h3:∀R:List (Nat×Nat),NU p.interval 0 R->R.length<=(Mp R).length:=by
       have h4:∀(R:List (Nat×Nat)) (lo:Nat),NU p.interval lo R->R.length<=(Mp R).length:=by
        intro R
        induction R with
        |nil=>intro lo h;exact Nat.le_refl _
        | cons q R ih =>
          intro lo h;have h5:=ih _ h.2.2.2;have h6:1<=q.2:=h.2.1;rw[show Mp (q::R)=(List.range q.2).map (q.1+·)++Mp R from rfl,List.length_append,List.length_map,List.length_range,List.length_cons];omega
       exact fun R h=>h4 R 0 h
      have h5:=h3 _ (Q8 p.interval (leftOf succ ref) 0 av.Wb (fun y _=>Nat.zero_le _));rw[hQ] at h5;omega
     have oL:NU p.interval 0 Q.1:=by have h:=Q8 p.interval (leftOf succ ref) 0 av.Wb (fun y _=>Nat.zero_le _);rwa [hQ] at h
     have rE:∀q∈Q.1,1<=q.2->q.1+q.2<=65536:=fun q hq h1=>z6k (least:=p.interval) av.lt (by rw[hQ];exact hq) h1
     have uE:∃fa fc,v4= .slice fa Q.1.length fc:=by
      obtain⟨fa,fc,e,-⟩:=kS.rd.shape;exact⟨fa,fc,e⟩
     obtain⟨fa,fc,rfl⟩:=uE;refine Lx (fun e' w'=>e'=[(1,I (x:Int)),(5,ptr b5 0),(11,ptr n11 0),(12,.func (.func 195) #[] #[ptr n11 0]),(17,.slice fa Q.1.length fc),(18,v5)]/\Wn w w1 w13 p b5 n11 (fun k=>(Value.slice fa Q.1.length fc).ownBlock=some k\/v5.ownBlock=some k) (A++B++if 0<p.interval then [(.gamma,Q.1.length)] else []) w') ?ar (fun ar=>?dJ)
     case ar =>
      rintro e' w14 ⟨rfl,uF⟩;refine qN rfl (KO rfl (py (run_seq (qN rfl (An rfl (qV (LM z5j rfl) (An rfl (py (KL ?_)))))))))
      generalize AE:(if 0<p.interval then [(Cd.gamma,Q.1.length)] else []:List (Cd×Nat))=C0 at uF
      refine Nl (fun e' w'=>e'=[(1,I (x:Int)),(5,ptr b5 0),(11,ptr n11 0),(12,.func (.func 195) #[] #[ptr n11 0]),(18,v5)]/\Wn w w1 w13 p b5 n11 (fun k=>(Value.slice fa Q.1.length fc).ownBlock=some k\/v5.ownBlock=some k) (A++B++C0++longNums x p.interval none Q.1) w') ?mv (fun mv=>?mw)
      case mv =>
       rintro e' w15 ⟨rfl,fH⟩;obtain⟨F15,fI,kT,iF⟩:=fH.ex;have mC:=fH.b5;replace mC:KY w15 b5 [I (p.Lf:Int),I (p.interval:Int),I (p.zeta:Int)] 245:=mC;refine qN rfl (qV (KT UJ rfl) (qV (KS U3 rfl rfl mC rfl) (qV ((by first|exact LF rfl U3 Mq (by omega)|exact N0 rfl U3 Mq)) ?_)));refine qV (NA (parts:=[(0,.const (Value.int .u8 3)),(1,.tmp 136)]) (cs:=[_,_]) Mj rfl z89 rfl rfl) (KU rfl rfl (N3 (cs:=[_,_]) Mj rfl) ?_);rintro _ w16 ⟨b22,rfl,GO,bF,gT⟩;have z16:=bF.size;refine L0 rfl (Lz (news:=[.int .u8 3,L5 p.zeta]) Mj rfl rfl rfl rfl gT (by simp)) ?_;rintro w17 ⟨kk,dL⟩;replace kk:KY w17 b22 [.int .u8 3,L5 p.zeta] 298:=kk;have gp:Ext w15 w17:=bF.KK dL (fun k e=>by omega);have z17:=gp.size;have cN:¬F15 b22:=fun e=>by have:=fI.lt e;omega
       have gU:=(mB.kp fH.kx (fun g hg e=>e (.inr hg))).ext gp
       obtain⟨ha,hc,e5⟩:∃a c,v5= .slice a Q.2.length c:=by
        obtain⟨fa,fc,e,-⟩:=mB.rd.shape;exact⟨fa,fc,e⟩
       subst e5;have kU:=(fH.ex2 gp).again (X':=fun k=>(Value.slice ha Q.2.length hc).ownBlock=some k\/k=b22) (fI.ext gp) kT (fun k hk hX=>by rcases hX with hX|e;exact iF k hk (.inr hX);exact cN (e▸hk));have l22:=kk.lt
       have o4:∀k,((Value.slice ha Q.2.length hc).ownBlock=some k\/k=b22)->k<w17.heap.size:=fun k hk=>by
        rcases hk with e| e
        ·have:=gU.lt e;omega
        ·omega
       have yB:=oK.len
       have GP:(A++B++C0++longNums x p.interval none Q.1).length<=400000:=by
        rw[List.length_append,List.length_append,NG,<-AE];split<;>simp only[List.length_cons,List.length_nil]<;>omega
       refine py (run_seq (qN rfl (An rfl (qV (LM Li rfl) (An rfl (py (KL (MV (α:=Nat) (0) (fun i=>[(1,I (x:Int)),(11,ptr n11 0),(12,.func (.func 195) #[] #[ptr n11 0]),(18,.slice ha Q.2.length hc),(22,ptr b22 0),(138,.slice ha Q.2.length hc),(139,I (Q.2.length:Int)),(140,I (i:Int))]) (fun i w'=>Wn w w1 w17 p b5 n11 (fun k=>(Value.slice ha Q.2.length hc).ownBlock=some k\/k=b22) (A++B++C0++longNums x p.interval none Q.1++restNums x p.zeta none (Q.2.take i)) w'/\i<=Q.2.length) (fun i=>Q.2.length-i) ?hI ?hround))))))))
       case hI=>exact⟨by simpa[restNums] using kU,Nat.zero_le _⟩
       case hround=>
        rintro i w18 ⟨eI,hi⟩ ih
        try dsimp only
        refine qN rfl (qV (LX rfl rfl) (py (run_seq (KZ rfl (fun e5=>?_) (fun e5=>?_)))))
        ·have di:i<Q.2.length:=by omega
         obtain⟨v,hv⟩:∃v,Q.2[i]? =some v:=⟨_,List.getElem?_eq_getElem di⟩;have uG:v<65536:=oK.lt v (List.mem_of_getElem? hv);have uH:=gU.kp eI.kx (fun g hg e=>e (.inl hg))
         obtain⟨g5,c5,e6⟩:∃g c,Value.slice ha Q.2.length hc= .slice (some ⟨g,0,none⟩) Q.2.length c:=by
          rcases gU.shape with⟨-,h0⟩|⟨g,c,e,hc⟩
          ·omega
          ·exact⟨g,c,e⟩
         cases e6;obtain⟨F18,kl,oM,gF⟩:=eI.ex;have uI:=eI.kx.KN kk (fun e=>e (.inr rfl));have pW:¬F18 b22:=fun e=>gF b22 e (.inr rfl);have hg:=Ext.Lb w18;have yC:=eI.ex2 hg
         have oN:(A++B++C0++longNums x p.interval none Q.1++restNums x p.zeta none (Q.2.take i)).length<=500000:=by
          rw[List.length_append,Oj,List.length_take];omega
         refine It (run_seq (KL (qN rfl (An rfl (qV (LC Li L8 rfl rfl (by omega)) (qV (Lm Mk rfl rfl (LV uH.rd (show(Q.2.map Lp)[i]? =some (Lp v) by rw[List.getElem?_map,hv];rfl))) ?_))))));refine KO rfl (KO rfl (qM rfl (An rfl (qV (Mr rfl rfl) (py (KZ rfl (fun e6=>?_) (fun e6=>?_)))))))
         ·have iG:i=0:=by omega
          refine KV (fun w'=>Kp F18 w18 w') (by kernel_rfl) rfl (KR 0 rfl (KW rfl) (hg.kp) (KR 2 rfl (KW rfl) (hg.kp) (KR 3 rfl (Lw rfl Mk U2 (by omega)) (hg.kp) (KR 4 rfl (KW rfl) (hg.kp) (KR 5 rfl (Md rfl rfl (by omega)) (hg.kp) (qT 1 rfl (fun _ h=>Lj (news:=[.int .u8 3,L5 p.zeta]) Nv rfl Mj rfl ((h.KN uI pW).cells (n:=2) rfl) rfl) (hg.kp) (O2 6 [.tmp 152] rfl z7O rfl (z2j ((v:Int)-x) (by omega) _) ?_)))))));rintro _ w19 ⟨rfl,rfl⟩;refine⟨hg.kp,?_⟩;have uJ:=U1 (z:=(v:Int)-x) (n:=65537) (by omega) (by omega);refine KR 7 rfl (Lw rfl Mq U3 (by omega)) (hg.kp) (qO 8 (Rj (i:=8) rfl rfl rfl (Nk (args:=[.tmp 148,.tmp 154]) Ti rfl rfl) (Oh (kl.ext hg) (by omega) (.zeta p.zeta) (Yh ((v:Int)-x)) (by omega)) ?_));rintro _ w20 ⟨rfl,F20,rF,mD,rG⟩;refine⟨hg.kp.trans mD,?_⟩;have oO:=yC.put o4 oM gF l5 z1 ⟨F20,rF,mD,rG⟩;refine qE (KM (KQ rfl (LH rfl rfl (An rfl (py ((ih (i+1) _ ⟨?_,by omega⟩ (by omega)).qb))))));rw[LA hv,Sk,<-List.append_assoc,show Q.2.take i=[] by rw[iG];rfl];rw[show Q.2.take i=[] by rw[iG];rfl] at oO;exact oO
         ·have iG:0<i:=by omega
          obtain⟨u,hu⟩:∃u,Q.2[i-1]? =some u:=⟨_,List.getElem?_eq_getElem (by omega)⟩
          have JU:u<v:=by
           obtain⟨a1,a2⟩:=List.getElem?_eq_some_iff.1 hu;obtain⟨b1,b2⟩:=List.getElem?_eq_some_iff.1 hv;have:=List.pairwise_iff_getElem.1 oK.Wb (i-1) i a1 b1 (by omega)
           rwa [a2,b2] at this
          refine KV (fun w'=>Kp F18 w18 w') (by kernel_rfl) rfl (KR 0 rfl (KW rfl) (hg.kp) (KR 2 rfl (KW rfl) (hg.kp) (KR 3 rfl (KW rfl) (hg.kp) (KR 4 rfl (KW rfl) (hg.kp) (qT 1 rfl (fun _ h=>Lj (news:=[.int .u8 3,L5 p.zeta]) Nv rfl Mj rfl ((h.KN uI pW).cells (n:=2) rfl) rfl) (hg.kp) (KR 5 rfl (Md rfl rfl (by omega)) (hg.kp) ?_))))));rw[show(i:Int)-1=((i-1:Nat):Int) by omega];refine KR 6 rfl (LC Li L8 rfl rfl (by omega)) (hg.kp) (qT 7 rfl (fun _ hS=>Lm Mk rfl rfl (LV (uH.kp hS (fun g hg e=>gF g e (.inl hg))).rd (show(Q.2.map Lp)[i-1]? =some (Lp u) by rw[List.getElem?_map,hu];rfl))) (hg.kp) ?_);refine KR 8 rfl (Rh (m:=v) (n:=u) rfl rfl rfl (by show v<2^32;omega) (by omega)) (hg.kp) ?_;refine KR 9 rfl (Rh (m:=v-u) (n:=1) rfl rfl rfl (by show v-u<2^32;omega) (by omega)) (hg.kp) ?_;refine KR 10 rfl (Lw rfl Mk U3 (by omega)) (hg.kp) (qO 11 (Rj (i:=11) rfl rfl rfl (Nk (args:=[.tmp 157,.tmp 166]) Ti rfl rfl) (Oh (kl.ext hg) (by omega) (.zeta p.zeta) (v-u-1) (by omega)) ?_));rintro _ w20 ⟨rfl,F20,rF,mD,rG⟩;refine⟨hg.kp.trans mD,?_⟩;have oO:=yC.put o4 oM gF l5 z1 ⟨F20,rF,mD,rG⟩;refine qE (KM (KQ rfl (LH rfl rfl (An rfl (py ((ih (i+1) _ ⟨?_,by omega⟩ (by omega)).qb))))));rw[LA hv,Sk,<-List.append_assoc,List.getLast?_take,if_neg (by omega),hu];exact oO
        ·have cO:i=Q.2.length:=by omega
         rw[cO,List.take_length] at eI;obtain⟨F,⟨vn,pV,uB⟩,oH,AD⟩:=id eI.ex;have yA:=pV.KN
         have mA:MK p x succ ref r=A++B++C0++longNums x p.interval none Q.1++restNums x p.zeta none Q.2:=by
          have jn:¬leftOf succ ref=[]:=fun e=>e3 (by rw[e];rfl);unfold MK;rw[if_neg gS,if_neg jn,hQ,hB,<-hA,<-AE];by_cases iG:0<p.interval
          ·simp only[if_pos iG,List.append_assoc,List.cons_append,List.nil_append]
          ·have cG:Q.1=[]:=by rw[<-hQ,show p.interval=0 by omega];exact St _
           rw[cG];simp only[if_neg iG,List.append_assoc,List.cons_append,List.nil_append,longNums]
         refine KX rfl (qN rfl (qV (KS UF rfl rfl yA rfl) (KO rfl (py (KP Tryz.func175 rfl ?_)))));rw[mA];exact⟨_,rfl,pV.sl,fun g hg=>by have:=oH g ((uB g).2 (.inr hg));omega,eI.ext⟩
      case mw=>
       refine MV (α:=Nat) (0) (fun i=>[(1,I (x:Int)),(5,ptr b5 0),(11,ptr n11 0),(12,.func (.func 195) #[] #[ptr n11 0]),(18,v5),(19,I (z0p (T2 (Q.1.take i)))),(94,.slice fa Q.1.length fc),(95,I (Q.1.length:Int)),(96,I (i:Int))]) (fun i w'=>Wn w w1 w13 p b5 n11 (fun k=>(Value.slice fa Q.1.length fc).ownBlock=some k\/v5.ownBlock=some k) (A++B++C0++longNums x p.interval none (Q.1.take i)) w'/\i<=Q.1.length) (fun i=>Q.1.length-i) ?hI ?hround
       case hI=>exact⟨by simpa[longNums] using uF,Nat.zero_le _⟩
       case hround =>
        rintro i w15 ⟨fH,hi⟩ ih
        try dsimp only
        refine qN rfl (qV (LX rfl rfl) (py (run_seq (KZ rfl (fun e5=>?_) (fun e5=>?_)))))
        ·have di:i<Q.1.length:=by omega
         obtain⟨⟨q1,q2⟩,hq⟩:∃q,Q.1[i]? =some q:=⟨_,List.getElem?_eq_getElem di⟩;obtain⟨ok1,ok2,ok3,-⟩:=TY Q.1 0 i (q1,q2) oL hq;dsimp only at ok1 ok2 ok3;have JV:q1+q2<=65536:=rE (q1,q2) (List.mem_of_getElem? hq) ok1;have AF:=kS.kp fH.kx (fun g hg e=>e (.inl hg))
         obtain⟨g4,c4,e4⟩:∃g c,Value.slice fa Q.1.length fc= .slice (some ⟨g,0,none⟩) Q.1.length c:=by
          rcases kS.shape with⟨-,h0⟩|⟨g,c,e,hc⟩
          ·omega
          ·exact⟨g,c,e⟩
         cases e4;obtain⟨F15,fI,kT,iF⟩:=fH.ex;refine It (run_seq (KL (qN rfl (qV (LC z5j VG rfl rfl (by omega)) (qV (Lj (news:=[I (q1:Int),I (q2:Int)]) zdB rfl VG rfl (z4Q AF.rd hq) rfl) (KU rfl rfl (N3 (cs:=[_,_]) VG rfl) ?_))))));rintro _ w16 ⟨b21,rfl,GQ,bF,AG⟩;have z16:=bF.size;refine L0 rfl (Lz (news:=[I (q1:Int),I (q2:Int)]) VG rfl rfl rfl rfl AG (by simp)) ?_;rintro w17 ⟨fJ,dL⟩;replace fJ:KY w17 b21 [I (q1:Int),I (q2:Int)] 325:=fJ;have gp:Ext w15 w17:=bF.KK dL (fun k e=>by omega);have kU:=fH.ex2 gp;have cN:¬F15 b21:=fun e=>by have:=fI.lt e;omega
         have nT:¬F15 1:=fun e=>by have:=kT 1 e;have:=hG.lt;omega
         have GP:(A++B++C0++longNums x p.interval none (Q.1.take i)).length<=400000:=by
          rw[List.length_append,List.length_append,NG,List.length_take,<-AE];split<;>simp only[List.length_cons,List.length_nil]<;>omega
         refine py (run_seq (qN rfl (An rfl (qV (LX rfl rfl) (py ?_)))));have pX:=kU.again (X':=(fun k=>((Value.slice (some ⟨g4,0,none⟩) Q.1.length fc).ownBlock=some k\/v5.ownBlock=some k)\/k=b21)) (fI.ext gp) kT (fun k hk hX=>by rcases hX with hX|e;exact iF k hk hX;exact cN (e▸hk));have GR:=gp.size;have l21:=fJ.lt
         have o4:∀k,(((Value.slice (some ⟨g4,0,none⟩) Q.1.length fc).ownBlock=some k\/v5.ownBlock=some k)\/k=b21)->k<w17.heap.size:=fun k hk=>by
          rcases hk with e| e
          ·have:=(fZ k e).2;have:=fH.kx.size;omega
          ·omega
         refine Lx (fun e' w'=>e'=[(1,I (x:Int)),(5,ptr b5 0),(11,ptr n11 0),(12,.func (.func 195) #[] #[ptr n11 0]),(18,v5),(21,ptr b21 0),(94,.slice (some ⟨g4,0,none⟩) Q.1.length fc),(95,I (Q.1.length:Int)),(96,I (i:Int))]/\Wn w w1 w17 p b5 n11 (fun k=>((Value.slice (some ⟨g4,0,none⟩) Q.1.length fc).ownBlock=some k\/v5.ownBlock=some k)\/k=b21) (A++B++C0++longNums x p.interval none (Q.1.take i)++[(.gamma,PE x (T2 (Q.1.take i)) q1)]) w') ?da (fun da=>?AI)
         case da=>
          rintro e' w18 ⟨rfl,eI⟩;obtain⟨F18,kl,oM,gF⟩:=eI.ex;have pY:=eI.kx.KN fJ (fun e=>e (.inr rfl));have km:=eI.b5;replace km:KY w18 b5 [I (p.Lf:Int),I (p.interval:Int),I (p.zeta:Int)] 245:=km;refine qN rfl (An rfl (qV (Lj (news:=[.int .u8 1,L5 0]) Nv rfl Mj rfl ((eI.ext.KN hG).cells (n:=2) rfl) rfl) (qV (KT z2x rfl) (qV ((by first|exact KS U3 rfl rfl pY rfl|exact KS U3 rfl rfl km rfl)) ?_))));refine qV (KT P4 rfl) (qV ((by first|exact KS U3 rfl rfl pY rfl|exact KS U3 rfl rfl km rfl)) ?_);refine qV (Md rfl rfl (by omega)) ?_;rw[show(q2:Int)-(p.interval:Int)=((q2-p.interval:Nat):Int) by omega];refine Mi rfl rfl (Nk (args:=[.tmp 120,.tmp 125]) Ti rfl rfl) (Oh kl (by rw[List.length_append,List.length_singleton];omega) .gamma (q2-p.interval) (by omega)) ?_;rintro _ w19 ⟨rfl,AH⟩;have uK:=eI.put o4 oM gF l5 z1 AH;have pZ:=uK.kx.KN fJ (fun e=>e (.inr rfl));refine py (KQ rfl (qV (KT XL rfl) (qV (KS U3 rfl rfl pZ rfl) (qV (KT z2x rfl) (qV (KS U3 rfl rfl pZ rfl) (LH rfl rfl (qV (Md rfl rfl (by omega)) (KO rfl (py (KM (KQ rfl (LH rfl rfl (An rfl ?_)))))))))))));refine py ?_;rw[show(q1:Int)+q2-1=z0p (T2 (Q.1.take (i+1))) by rw[LA hq,z48];show _=((q1+q2-1:Nat):Int);omega];refine(ih (i+1) _ ⟨?_,by omega⟩ (by omega)).qb;rw[LA hq,Ws,<-List.append_assoc,show [(Cd.gamma,PE x (T2 (Q.1.take i)) q1),(Cd.gamma,q2-p.interval)]=[(Cd.gamma,PE x (T2 (Q.1.take i)) q1)]++[(Cd.gamma,q2-p.interval)] from rfl,<-List.append_assoc];exact kU.back uK (fun k hk=> .inl hk)
         case AI=>
          have hg:=Ext.Lb w17;have yC:=pX.ex2 hg
          cases hE:T2 (Q.1.take i) with
          | none =>
            refine KZ rfl (fun e6=>?_) (fun e6=>?_)
            ·refine KV (fun w'=>Kp F15 w17 w') (by kernel_rfl) rfl (KR 0 rfl (KW rfl) (hg.kp) (KR 2 rfl (KT XL rfl) (hg.kp) (qT 3 rfl (fun _ h=>KS U3 rfl rfl (h.KN fJ cN) rfl) (hg.kp) (KR 4 rfl (KW rfl) (hg.kp) (KR 5 rfl (Md rfl rfl (by omega)) (hg.kp) (qT 1 rfl (fun _ hS=>Lj (news:=[.int .u8 1,L5 0]) Nv rfl Mj rfl ((hS.KN (kU.ext.KN hG) nT).cells (n:=2) rfl) rfl) (hg.kp) (O2 6 [.tmp 107] rfl z7O rfl (z2j ((q1:Int)-x) (by omega) _) ?_)))))));rintro _ w18 ⟨rfl,rfl⟩;refine⟨hg.kp,?_⟩;have uJ:=U1 (z:=(q1:Int)-x) (n:=65537) (by omega) (by omega);refine KR 7 rfl (Lw rfl Mq U3 (by omega)) (hg.kp) (qO 8 (Rj (i:=8) rfl rfl rfl (Nk (args:=[.tmp 103,.tmp 109]) Ti rfl rfl) (Oh ((fI.ext gp).ext hg) (by omega) .gamma (Yh ((q1:Int)-x)) (by omega)) ?_));rintro _ w19 ⟨rfl,F19,AJ,uL,AK⟩;refine⟨hg.kp.trans uL,?_⟩;refine qE ?_;exact(da _ _ ⟨rfl,by rw[hE];exact yC.put o4 kT (fun k hk hX=>by rcases hX with hX|e;exact iF k hk hX;exact cN (e▸hk)) l5 z1 ⟨F19,AJ,uL,AK⟩⟩).qb
            ·exact absurd (by decide) e6
          | some z =>
            refine KZ rfl (fun e6=>?_) (fun e6=>?_)
            ·exact absurd e6 (by show ¬((z:Int)<0);omega)
            ·have hz:=ok3 z hE;refine KQ rfl (An rfl (qV (Lj (news:=[.int .u8 1,L5 0]) Nv rfl Mj rfl ((kU.ext.KN hG).cells (n:=2) rfl) rfl) ?_));rw[show z0p (some z)=(z:Int) from rfl];refine qV (KT XL rfl) (qV (KS U3 rfl rfl fJ rfl) (An rfl (qV (Md rfl rfl (by omega)) (qV (Md rfl rfl (by omega)) ?_))));rw[show(q1:Int)-z-2=((q1-z-2:Nat):Int) by omega];refine Mi rfl rfl (Nk (args:=[.tmp 112,.tmp 117]) Ti rfl rfl) (Oh (fI.ext gp) (by omega) .gamma (q1-z-2) (by omega)) ?_;rintro _ w18 ⟨rfl,AL⟩;refine py ?_;exact(da _ _ ⟨rfl,by rw[hE];exact pX.put o4 kT (fun k hk hX=>by rcases hX with hX|e;exact iF k hk hX;exact cN (e▸hk)) l5 z1 AL⟩).qb
        ·have cO:i=Q.1.length:=by omega
         rw[cO,List.take_length] at fH;refine KX rfl ?_;exact(mv _ _ ⟨rfl,fH⟩).qb
     case dJ=>
      refine KZ rfl (fun e4=>?_) (fun e4=>?_)
      ·have iG:0<p.interval:=by omega
       obtain⟨F13,mE,rH,mF⟩:=jy.ex;refine KQ rfl (An rfl (qV (Lj (news:=[.int .u8 1,L5 0]) Nv rfl Mj rfl ((jy.ext.KN hG).cells (n:=2) rfl) rfl) (An rfl (qV (LM z5j rfl) (Mi rfl rfl (Nk (args:=[.tmp 90,.tmp 92]) Ti rfl rfl) (Oh mE (by omega) .gamma Q.1.length (by omega)) ?_)))));rintro _ w14 ⟨rfl,rI⟩;refine py (Ll.qb (e:=[(1,_),(5,_),(11,_),(12,_),(17,_),(18,_)]) ?_);exact(ar _ _ ⟨rfl,by rw[if_pos iG];exact jy.put (fun k hk=>(fZ k hk).2) rH mF l5 z1 rI⟩).qb
      ·have iG:¬0<p.interval:=by omega
       refine It ?_;exact(ar _ _ ⟨rfl,by rw[if_neg iG,List.append_nil];exact jy⟩).qb
   case fk =>
    refine KZ rfl (fun e2=>?_) (fun e2=>?_)
    ·have rJ : 0 < r := by omega
     have oP:=O4 succ ref;rw[if_pos rJ] at ey
     generalize Mx succ ref=rs at oP oF ey
     obtain⟨l,m,rfl⟩:∃l m,rs=l++[m]:=⟨rs.dropLast,rs.getLast oP.ne,(List.dropLast_concat_getLast oP.ne).symm⟩;have rK:(l++[m]).length=l.length+1:=by simp
     have eO:l.length<=65537:=by have h1:=oP.Wf;rw[List.length_map,rK] at h1;omega
     rw[List.dropLast_concat,rK,Nat.add_sub_cancel] at ey;obtain⟨vr,yD,Ez⟩:=id oF;rw[rK] at yD;rcases yD.sl.shape with⟨-,h0⟩|⟨g,c1,rfl,ff⟩
     ·omega
     have EA:=yD.KN;obtain⟨F,uC,hf,GS⟩:=oG.ex;refine qN rfl (An rfl (qV (Lj (news:=[.int .u8 1,L5 0]) Nv rfl Mj rfl ((oG.ext.KN hG).cells (n:=2) rfl) rfl) (qV (KS Mw rfl rfl EA rfl) (qV (LM Mw rfl) (qV (Md rfl rfl (by omega)) ?_)))));rw[show((l.length+1:Nat):Int)-1=(l.length:Int) by omega];refine Mi rfl rfl (Nk (args:=[.tmp 51,.tmp 54]) Ti rfl rfl) (Oh uC (by omega) .gamma l.length (by omega)) ?_;rintro _ w12 ⟨rfl,AM⟩;have gV:=oG.put rC hf GS l5 z1 AM;have EB:=oF.kp gV.kx (fun k hk e=>e (.inr hk));have q9:=gV.kx.KN EA (fun e=>e (.inr ((Ez rn).2 (.inl rfl))));refine qM rfl (qV (KS Mw rfl rfl q9 rfl) ?_);rw[show((l.length+1:Nat):Int)=((l.length+1:Nat):Int) from rfl];refine qV (KS Mw rfl rfl q9 rfl) (qV (LM Mw rfl) (qV (Md rfl rfl (by omega)) ?_));rw[show((l.length+1:Nat):Int)-1=(l.length:Int) by omega];refine qV (z6P Mw LG rfl rfl (by omega)) (qV (LM Mw rfl) (An rfl (py (Ll.qb (e:=[(1,_),(5,_),(11,_),(12,_),(14,_),(60,_),(61,_),(62,_)]) ?_))));refine KL (MV (α:=Nat) (0) (fun i=>[(1,I (x:Int)),(5,ptr b5 0),(11,ptr n11 0),(12,.func (.func 195) #[] #[ptr n11 0]),(14,ptr lf 0),(60,.slice (some ⟨g,0,none⟩) l.length c1),(61,I (l.length:Int)),(62,I (i:Int))]) (fun i w'=>Wn w w1 w11 p b5 n11 (fun k=>FL k\/FR k) (A++(Cd.gamma,l.length)::runNums 0 (l.take i)) w'/\i<=l.length) (fun i=>l.length-i) ?hI ?hround)
     case hI=>exact⟨gV,Nat.zero_le _⟩
     case hround =>
      rintro i w13 ⟨kV,hi⟩ ih
      try dsimp only
      refine qN rfl (qV (LX rfl rfl) (py (run_seq (KZ rfl (fun e3=>?_) (fun e3=>?_)))))
      ·have di:i<l.length:=by omega
       obtain⟨F13,mE,rH,mF⟩:=kV.ex;have AN:=yD.sl.kp kV.kx (fun g2 hg e=>e (.inr ((Ez g2).2 (.inr hg))));have gL:(l++[m])[i]? =some l[i]:=by rw[List.getElem?_append_left di,List.getElem?_eq_getElem di]
       have gM:min i 1<=l[i]:=by
        rcases Nat.eq_zero_or_pos i with e| e
        ·omega
        ·have h1:=oP.pos l[i] (by
          rw[List.mem_iff_getElem?];refine⟨i-1,?_⟩
          rw[List.getElem?_drop,show 1+(i-1)=i by omega];exact gL)
         omega
       have jn:l[i]<=65536:=by
        have h1:=oP.le l[i] (List.mem_append_left _ (List.getElem_mem di));rw[List.length_map] at h1;omega
       refine It (run_seq (KL (qN rfl (An rfl (qV (LC Mw LG rfl rfl (by omega)) (qV (Lm U3 rfl rfl (LV AN.rd (show((l++[m]).map z14)[i]? =some (z14 l[i]) by rw[List.getElem?_map,gL];rfl))) ?_))))));refine KO rfl (KO rfl (py (KQ rfl (An rfl (qV (Lj (news:=[.int .u8 1,L5 0]) Nv rfl Mj rfl ((kV.ext.KN hG).cells (n:=2) rfl) rfl) (An rfl (An rfl (qV (ymi rfl rfl) (qV (Md rfl rfl (by omega)) ?_)))))))));rw[show(l[i]:Int)-min (i:Int) 1=((l[i]-min i 1:Nat):Int) by omega];refine Mi rfl rfl (Nk (args:=[.tmp 68,.tmp 72]) Ti rfl rfl) (Oh mE (by have h1:(runNums 0 (l.take i)).length=i:=(by rw[O9,List.length_take];omega);rw[List.length_append,List.length_cons];omega) .gamma (l[i]-min i 1) (by omega)) ?_;rintro _ w14 ⟨rfl,rI⟩;have AO:=kV.put rC rH mF l5 z1 rI;refine py (KM (KQ rfl (LH rfl rfl (An rfl (py ((ih (i+1) _ ⟨?_,by omega⟩ (by omega)).qb))))));rw[List.take_succ,List.getElem?_eq_getElem di,Option.toList_some,Tc,List.length_take,Nat.min_eq_left hi,Nat.zero_add,<-List.cons_append,<-List.append_assoc];exact AO
      ·have cO:i=l.length:=by omega
       subst cO;rw[List.take_length] at kV;refine KX rfl ?_;exact(ey _ _ ⟨rfl,kV⟩).qb
    ·have rJ:¬0<r:=by omega
     refine It ?_;exact(ey _ _ ⟨rfl,by rw[if_neg rJ,List.append_nil];exact oG⟩).qb
  case cJ=>
   refine KZ rfl (fun e1=>?_) (fun e1=>?_)
   ·have mh:0<p.Lf:=by omega
    obtain⟨F,uC,hf⟩:=tI.ex;refine KQ rfl (An rfl (qV (Lj (news:=[.int .u8 0,L5 0]) Nv rfl Mj rfl ((tI.ext.KN hU).cells (n:=2) rfl) rfl) (An rfl (Mi rfl rfl (Nk (args:=[.tmp 40,.tmp 41]) Ti rfl rfl) (Oh uC (by simp) .unary r (by omega)) ?_))));rintro _ w5 ⟨rfl,rL⟩;refine py (Ll.qb (e:=[(1,_),(2,_),(3,_),(4,_),(5,_),(10,_),(11,_),(12,_)]) ?_);exact(cq _ _ ⟨rfl,by rw[if_pos mh];exact tI.put hf l5 z1 rL⟩).qb
   ·have mh:¬0<p.Lf:=by omega
    refine It ?_;exact(cq _ _ ⟨rfl,by rw[if_neg mh];exact tI⟩).qb
/-! ### The numbers can be encoded -/
def Si (k:Nat)(q:Cd×Nat):Prop:=(q.1= .unary/\q.2<=16)\/(q.1= .gamma/\q.2<=200000)\/(q.1= .zeta k/\q.2<=200000)
theorem Vx (k:Nat):∀(l:List Nat) (i:Nat),(∀n∈l,n<=65536)->∀q∈runNums i l,Si k q
 |[],i,h,q,hq=>by cases hq
 | n :: l, i, h, q, hq => by
   rw[runNums] at hq;rcases List.mem_cons.1 hq with e|hq
   ·subst e;have:=h n List.mem_cons_self;exact .inr (.inl ⟨rfl,by dsimp only;omega⟩)
   ·exact Vx k l (i+1) (fun n hn=>h n (List.mem_cons_of_mem _ hn)) q hq
theorem Ui (k x least:Nat)(hx:x<65536):∀(R:List (Nat×Nat)) (e:Option Nat),(∀q∈R,q.1+q.2<=65536)->∀q∈longNums x least e R,Si k q
 |[],e,h,q,hq=>by cases e<;>cases hq
 | p :: R, e, h, q, hq => by
   have hp:=h p List.mem_cons_self;rw[MT] at hq;rcases List.mem_cons.1 hq with e1|hq
   ·subst e1;refine .inr (.inl ⟨rfl,?_⟩)
    cases e with
    |none=>have:=U1 (z:=(p.1:Int)-x) (n:=65537) (by omega) (by omega);show Yh _<=_;omega
    |some z=>show p.1-z-2<=_;omega
   ·rcases List.mem_cons.1 hq with e1|hq
    ·subst e1;exact .inr (.inl ⟨rfl,by dsimp only;omega⟩)
    ·exact Ui k x least hx R _ (fun q hq=>h q (List.mem_cons_of_mem _ hq)) q hq
theorem Ut (k x:Nat)(hx:x<65536):∀(l:List Nat) (e:Option Nat),(∀n∈l,n<65536)->∀q∈restNums x k e l,Si k q
 |[],e,h,q,hq=>by cases e<;>cases hq
 | v :: l, e, h, q, hq => by
   have hv:=h v List.mem_cons_self;rw[NQ] at hq;rcases List.mem_cons.1 hq with e1|hq
   ·subst e1;refine .inr (.inr ⟨rfl,?_⟩)
    cases e with
    |none=>have:=U1 (z:=(v:Int)-x) (n:=65537) (by omega) (by omega);show Yh _<=_;omega
    |some u=>show v-u-1<=_;omega
   ·exact Ut k x hx l _ (fun n hn=>h n (List.mem_cons_of_mem _ hn)) q hq
theorem ZC {least:Nat}{l:List Nat}(h:Lt l):(rowsN least l).1.length<=65536:=by
 have h1:=(Ox least l).length_eq
 rw[List.length_append] at h1
 have h4:∀(R:List (Nat×Nat)) (lo:Nat),NU least lo R->R.length<=(Mp R).length:=by
  intro R
  induction R with
  |nil=>intro lo h;exact Nat.le_refl _
  | cons q R ih =>
    intro lo h;have h5:=ih _ h.2.2.2;have h6:1<=q.2:=h.2.1;rw[show Mp (q::R)=(List.range q.2).map (q.1+·)++Mp R from rfl,List.length_append,List.length_map,List.length_range,List.length_cons];omega
 have h5:=h4 _ 0 (Q8 least l 0 h.Wb (fun y _=>Nat.zero_le _))
 have:=h.len
 omega
theorem z2u {least:Nat}{l:List Nat}(h:Lt l):∀q∈(rowsN least l).1,1<=q.2/\q.1+q.2<=65536:=fun q hq=>by
 obtain⟨i,hi⟩:=List.mem_iff_getElem?.1 hq
 have h1:=(TY _ 0 i q (Q8 least l 0 h.Wb (fun y _=>Nat.zero_le _)) hi).1
 exact⟨h1,z6k h.lt hq h1⟩
theorem UT {p:Nc}(hp:p.M3){x:Nat}(hx:x<65536){succ ref:List Nat}(hs:Lt succ)(hr:Lt ref){r:Nat}(iD:r<=p.Lf):∀q∈MK p x succ ref r,Si p.zeta q:=by
 obtain⟨g1,g2,g3,g4⟩:=id hp
 have av:Lt (leftOf succ ref):=hs.sub List.filter_sublist
 intro q hq
 unfold MK at hq
 have gm:=hs.len
 rcases List.mem_cons.1 hq with e|hq
 ·subst e;exact .inr (.inl ⟨rfl,by dsimp only;omega⟩)
 split at hq
 ·cases hq
 rcases List.mem_append.1 hq with hq|hq
 ·split at hq
  ·rcases List.mem_singleton.1 hq with e;subst e;exact .inl ⟨rfl,by dsimp only;omega⟩
  ·cases hq
 rcases List.mem_append.1 hq with hq|hq
 ·have oP:=O4 succ ref;have hl:=oP.Wf;have gC:=hr.len;rw[List.length_map] at hl;split at hq
  ·rcases List.mem_cons.1 hq with e|hq
   ·subst e;exact .inr (.inl ⟨rfl,by dsimp only;omega⟩)
   ·refine Vx _ _ _ (fun n hn=>?_) q hq;have:=oP.le n (List.dropLast_subset _ hn);rw[List.length_map] at this;omega
  ·cases hq
 split at hq
 ·cases hq
 rcases List.mem_append.1 hq with hq|hq
 ·split at hq
  ·rcases List.mem_cons.1 hq with e|hq
   ·subst e;have:=ZC (least:=p.interval) av;exact .inr (.inl ⟨rfl,by dsimp only;omega⟩)
   ·exact Ui _ _ _ hx _ _ (fun q hq=>(z2u av q hq).2) q hq
  ·cases hq
 ·exact Ut _ _ hx _ _ (fun n hn=>av.lt n ((PI p.interval _).subset hn)) q hq
theorem z08 (succ ref:List Nat)(hr:Lt ref):(Mx succ ref).length<=65537:=by
 have hl:=(O4 succ ref).Wf
 rw[List.length_map] at hl
 have:=hr.len
 omega
theorem ZF {p:Nc}{x:Nat}{succ ref:List Nat}(hs:Lt succ)(hr:Lt ref){r:Nat}:(MK p x succ ref r).length<=500000:=by
 have av:Lt (leftOf succ ref):=hs.sub List.filter_sublist
 have h1:=z08 succ ref hr
 have h2:=ZC (least:=p.interval) av
 have h3:=(av.sub (PI p.interval (leftOf succ ref))).len
 unfold MK
 rw[List.length_cons]
 split
 ·simp
 rw[List.length_append,List.length_append]
 have e1:(if 0<p.Lf then [(Cd.unary,r)] else []).length<=1:=by split<;>simp
 have e2:(if 0<r then(Cd.gamma,(Mx succ ref).length-1)::runNums 0 (Mx succ ref).dropLast else []).length<=65537:=by
  split
  ·rw[List.length_cons,O9,List.length_dropLast];omega
  ·simp
 have e3:(if leftOf succ ref=[] then [] else(if 0<p.interval then(Cd.gamma,(rowsN p.interval (leftOf succ ref)).1.length)::longNums x p.interval none (rowsN p.interval (leftOf succ ref)).1 else [])++restNums x p.zeta none (rowsN p.interval (leftOf succ ref)).2).length<=200000:=by
  split
  ·simp
  ·rw[List.length_append,Oj];split
   ·rw[List.length_cons,NG];omega
   ·simp;omega
 omega
theorem Si.M3 {k:Nat}{q:Cd×Nat}(h:Si k q)(hk:1<=k/\k<=16):q.1.M3/\q.2<=q.1.most:=by
 rcases h with⟨e,h⟩|⟨e,h⟩|⟨e,h⟩
 ·rw[e];exact⟨trivial,by simp only[Cd.most];omega⟩
 ·rw[e];exact⟨trivial,by simp only[Cd.most];omega⟩
 ·rw[e];exact⟨hk,by simp only[Cd.most];omega⟩
theorem XG {c:Cd}{v:Nat}(hc:c.M3)(hv:v<=c.most):(c.enc v).length<=65600:=by
 obtain⟨q1,q2,-⟩:=RU hc hv
 rw[RT];omega
theorem z4D {L:List (Cd×Nat)}(h:∀q∈L,q.1.M3/\q.2<=q.1.most):(Ld L).length<=65600*L.length:=by
 induction L with
 |nil=>simp[Ld]
 | cons q L ih =>
   have h1:=ih (fun q hq=>h q (List.mem_cons_of_mem _ hq));obtain⟨h2,h3⟩:=h q List.mem_cons_self;have h4:=XG h2 h3;obtain⟨c,v⟩:=q;rw[LI,List.length_append,List.length_cons];dsimp only at h4⊢;omega
theorem NC (a b:List (Cd×Nat)):Ld (a++b)=Ld a++Ld b:=List.flatMap_append
theorem Sm (l:List (Cd×Nat))(q:Cd×Nat):Ld (l++[q])=Ld l++q.1.enc q.2:=by
 rw[NC];simp[Ld]
/-! ### An element of a slice of structs -/
theorem VK {α:Type}{f:α->List Value}{k:Nat}(hk:∀a,(f a).length=k){w:World}{b off n cap i:Nat}{R:List α}{q:α}(h:Rd w (.slice (some ⟨b,off,none⟩) n cap) k n (R.flatMap f))(hq:R[i]? =some q):∀j u,(f q)[j]? =some u->w.cell? ⟨b,off+i*k+j,none⟩=some u:=by
 intro j u hj
 have kf:j<k:=by have:=(List.getElem?_eq_some_iff.1 hj).1;rwa [hk] at this
 have key : ∀ (R : List α) (i : Nat), R[i]? = some q -> (R.flatMap f)[i * k + j]? = some u := by
  intro R
  induction R with
  |nil=>intro i h;simp at h
  | cons a R ih =>
    intro i h;rw[List.flatMap_cons]
    cases i with
    | zero =>
      rw[List.getElem?_cons_zero] at h;cases h;rw[List.getElem?_append_left (by rw[hk];omega),Nat.zero_mul,Nat.zero_add]
      exact hj
    | succ i =>
      rw[List.getElem?_append_right (by rw[hk,Nat.add_mul];omega),hk,show(i+1)*k+j-k=i*k+j by rw[Nat.add_mul];omega];exact ih i h
 have ki:=key R i hq
 have aO:=(List.getElem?_eq_some_iff.1 ki).1
 rcases h.2 with⟨c,hc,h0⟩|⟨b',off',cap',e,hc⟩
 ·rw[h.1,h0,Nat.zero_mul] at aO;omega
 ·cases e;have:=hc (i*k+j) u ki;rw[show off+i*k+j=off+(i*k+j) by omega];exact this
theorem YB (q:Cd×Nat):(z0T q).length=3:=by
 obtain⟨c,v⟩:=q
 cases c<;>rfl
theorem Qq {w:World}(p:Nc)(hp:p.M3)(x:Nat)(hx:x<65536){sa ra:Option Addr}{sc rc:Nat}(succ ref:List Nat)(hs:Lt succ)(hr:Lt ref)(r:Nat)(iD:r<=p.Lf)(kI:r=0->ref=[])
  (hG:KY w 1 (NM .gamma) 298) (hU:KY w 2 (NM .unary) 298) (dV:Rd w (.slice sa succ.length sc) 1 succ.length (succ.map Lp)) (kQ:Rd w (.slice ra ref.length rc) 1 ref.length (ref.map Lp)) (gB:succ.length<=sc) (mx:ref.length<=rc):
  Lk Tryz.prog 136 [I (x:Int),.slice sa succ.length sc,.slice ra ref.length rc,I (r:Int),lpV p] w fun u w'=>u= .tuple #[I ((Ld (MK p x succ ref r)).length:Int),I 0]/\Ext w w':=by
 obtain⟨g1,g2,g3,g4⟩:=id hp
 have av:=fun q hq=>(UT hp hx hs hr iD q hq).M3 ⟨g3,g4⟩
 have eO:=ZF (p:=p) (x:=x) (r:=r) hs hr
 refine KJ (e:=[(0,_),(1,_),(2,_),(3,_),(4,_)]) Tryz.func136 rfl Tryz.ntmps136 rfl rfl (qN rfl (KU rfl rfl (MH rfl (cs:=UG p) rfl) ?_))
 rintro _ w1 ⟨b9,rfl,nV,ad,cC⟩
 replace cC:KY w1 b9 [I (p.Lf:Int),I (p.interval:Int),I (p.zeta:Int)] 245:=cC
 refine KO rfl (KO rfl (py (run_seq (qN rfl (qV (Lj (news:=UG p) TQ rfl P3 rfl (cC.cells (n:=3) rfl) rfl) (An rfl (An rfl (An rfl (An rfl (La [.tmp 17,.tmp 18,.tmp 19,.tmp 20,.tmp 21] zaO rfl (z4u p hp x hx _ _ succ ref r hs hr iD kI w1 (dV.ext ad) (kQ.ext ad)) ?_))))))))))
 rintro _ w2 ⟨rfl,af⟩
 refine qV ((by first|exact LN rfl|exact Na rfl)) ?_
 refine py (KH rfl (It (qN rfl (KO rfl (py (run_seq (qN rfl (qV (Lj (news:=UG p) TQ rfl P3 rfl ((af.KN cC).cells (n:=3) rfl) rfl) ?_))))))))
 have aC:=ad.trans af
 refine An rfl (An rfl (An rfl (An rfl (La [.tmp 24,.tmp 25,.tmp 26,.tmp 27,.tmp 28] z7N rfl (Tm p hp x hx succ ref hs hr r iD kI (aC.KN hG) (aC.KN hU) (dV.ext aC) (kQ.ext aC) gB mx) ?_))))
 rintro v w3 ⟨cM,oQ,ah⟩
 have aX:=aC.trans ah
 generalize MK p x succ ref r=L at av eO cM
 obtain⟨va,vc,rfl,-⟩:=cM.rd.shape
 refine qV (LM UF rfl) (An rfl (py (KL (MV (α:=Nat) (0) (fun i=>[(12,I ((Ld (L.take i)).length:Int)),(29,.slice va L.length vc),(30,I (L.length:Int)),(31,I (i:Int))]) (fun i w'=>Ext w3 w'/\i<=L.length) (fun i=>L.length-i) ?hI ?hround))))
 case hI=>exact⟨Ext.refl _,Nat.zero_le _⟩
 case hround=>
  rintro i w4 ⟨aB,hi⟩ ih
  try dsimp only
  refine qN rfl (qV (LX rfl rfl) (py (run_seq (KZ rfl (fun h0=>?_) (fun h0=>?_)))))
  ·have di:i<L.length:=by omega
   obtain⟨⟨c,v⟩,hq⟩:∃q,L[i]? =some q:=⟨_,List.getElem?_eq_getElem di⟩;obtain⟨tJ,lY⟩:=av _ (List.mem_of_getElem? hq);dsimp only at tJ lY
   obtain⟨g,c5,e4⟩:∃g c,Value.slice va L.length vc= .slice (some ⟨g,0,none⟩) L.length c:=by
    rcases cM.shape with⟨-,h0⟩|⟨g,c,e,hc⟩
    ·omega
    ·exact⟨g,c,e⟩
   cases e4;have jz:=VK YB (cM.ext aB).rd hq;obtain⟨y,z,rM⟩:∃y z,NM c=[y,z]:=by cases c<;>exact⟨_,_,rfl⟩
   have nS:XH c= .agg [y,z].toArray:=by rw[XH,rM]
   have iY:z0T (c,v)=[y,z,L5 v]:=by show NM c++_=_;rw[rM];rfl
   rw[iY] at jz;have ew:=Ze c v tJ lY;rw[nS] at ew;have uM:oneV y=true/\oneV z=true:=by cases c<;>(cases rM;exact⟨rfl,rfl⟩)
   have eN:=z4D (L:=L.take i) (fun q hq=>av q (List.mem_of_mem_take hq));rw[List.length_take] at eN;have nL:=XG tJ lY;refine It (run_seq (KL (qN rfl (qV (LC UF Qk rfl rfl (by omega)) (qV (Lj (news:=[y,z,L5 v]) za2 rfl Qk rfl jz rfl) (KU rfl rfl (N3 (cs:=[_,_,_]) Qk rfl) ?_))))));rintro _ w5 ⟨b14,rfl,mG,aR,cW⟩;refine L0 rfl (Lz (news:=[y,z,L5 v]) Qk rfl rfl (by simp[uM.1,uM.2];rfl) rfl cW (by simp)) ?_;rintro w6 ⟨eg,aT⟩;replace eg:KY w6 b14 [y,z,L5 v] 300:=eg;have z5:=aR.size;have aG:Ext w4 w6:=aR.KK aT (fun k e=>by omega);refine qM rfl (qV (KT z2D rfl) (qV (Lj (news:=[y,z]) Nv rfl Mj rfl (eg.cells (n:=2) rfl) rfl) (qV (KT z1T rfl) (qV (KS Mq rfl rfl eg rfl) (La [.tmp 37,.tmp 39] z8s rfl (ew w6) ?_)))));rintro _ w7 ⟨rfl,bL⟩;refine An rfl (qV (Lu rfl rfl) (qV (Lu rfl rfl) (KO rfl (KO rfl (py (KQ rfl (An rfl (An rfl (LH rfl rfl (KO rfl (py (KM (KQ rfl ?_)))))))))))));refine LH rfl rfl (An rfl (py ?_));rw[show((Ld (L.take i)).length:Int)+((c.enc v).length:Int)=((Ld (L.take (i+1))).length:Int) by rw[LA hq,Sm,List.length_append];dsimp only;omega];exact(ih (i+1) _ ⟨(aB.trans aG).trans bL,by omega⟩ (by omega)).qb
  ·have cO:i=L.length:=by omega
   rw[cO,List.take_length];refine KX rfl (qN rfl (An rfl (KO rfl (KO rfl (py (KP Tryz.func136 rfl ?_))))));exact⟨_,rfl,rfl,aX.trans aB⟩
theorem Up {w:World}{wp:Nat}{bs:List Bool}{F:Nat->Prop}(h:Tv w wp bs F)(p:Nc)(hp:p.M3)(x:Nat)(hx:x<65536){sa ra:Option Addr}{sc rc:Nat}(succ ref:List Nat)(hs:Lt succ)(hr:Lt ref)(r:Nat)(iD:r<=p.Lf)(kI:r=0->ref=[])
  (hG:KY w 1 (NM .gamma) 298) (hU:KY w 2 (NM .unary) 298) (dV:Rd w (.slice sa succ.length sc) 1 succ.length (succ.map Lp)) (kQ:Rd w (.slice ra ref.length rc) 1 ref.length (ref.map Lp)) (gB:succ.length<=sc) (mx:ref.length<=rc)
  (hl:bs.length+(Ld (MK p x succ ref r)).length<=134217728):
  Lk Tryz.prog 139 [ptr wp 0,I (x:Int),.slice sa succ.length sc,.slice ra ref.length rc,I (r:Int),lpV p] w fun u w'=>u=I 0/\WrR wp F w w' (bs++Ld (MK p x succ ref r)):=by
 obtain⟨g1,g2,g3,g4⟩:=id hp
 have av:=fun q hq=>(UT hp hx hs hr iD q hq).M3 ⟨g3,g4⟩
 have eO:=ZF (p:=p) (x:=x) (r:=r) hs hr
 refine KJ (e:=[(0,_),(1,_),(2,_),(3,_),(4,_),(5,_)]) Tryz.func139 rfl Tryz.ntmps139 rfl rfl (qN rfl (KU rfl rfl (MH rfl (cs:=UG p) rfl) ?_))
 rintro _ w1 ⟨b9,rfl,nV,ad,cC⟩
 replace cC:KY w1 b9 [I (p.Lf:Int),I (p.interval:Int),I (p.zeta:Int)] 245:=cC
 refine KO rfl (py (run_seq (qN rfl (An rfl (qV (LQ XF rfl rfl) (py (KH rfl (It (qN rfl (An rfl (An rfl (An rfl (An rfl ?_)))))))))))))
 refine qV (Lj (news:=UG p) TQ rfl P3 rfl (cC.cells (n:=3) rfl) rfl) (La [.tmp 20,.tmp 21,.tmp 22,.tmp 23,.tmp 24] Zb rfl (Qq p hp x hx succ ref hs hr r iD kI (ad.KN hG) (ad.KN hU) (dV.ext ad) (kQ.ext ad) gB mx) ?_)
 rintro _ w2 ⟨rfl,af⟩
 have aC:=ad.trans af
 have h2:=h.ext aC
 refine An rfl (qV (Lu rfl rfl) (qV (Lu rfl rfl) (KO rfl (KO rfl (py (run_seq (KL (qN rfl (An rfl (qV (M0 rfl rfl) (KO rfl (py (KH rfl ?_)))))))))))))
 refine qN rfl (An rfl (An rfl (La [.tmp 34] WL rfl (Qt h2) ?_)))
 rintro _ w2 ⟨rfl,rfl⟩
 refine qV (Md rfl rfl (by omega)) (qV (LU rfl rfl) (KO rfl (py (Ll.qb (e:=[(0,_),(1,_),(2,_),(3,_),(4,_),(11,_),(12,_),(32,_)]) ?_))))
 refine KZ rfl (fun e0=>?_) (fun e0=>?_)
 ·omega
 ·refine It (KM (run_seq (qN rfl (qV (Lj (news:=UG p) TQ rfl P3 rfl ((af.KN cC).cells (n:=3) rfl) rfl) (An rfl (An rfl (An rfl (An rfl (La [.tmp 38,.tmp 39,.tmp 40,.tmp 41,.tmp 42] z7N rfl (Tm p hp x hx succ ref hs hr r iD kI (aC.KN hG) (aC.KN hU) (dV.ext aC) (kQ.ext aC) gB mx) ?_)))))))));rintro v w3 ⟨cM,oQ,ah⟩;have aX:=aC.trans ah;have h3:=h.ext aX;have z12:=aC.size;have z3:=ah.size;have jl:∀k,F k->k<w.heap.size:=fun k hk=>h.lt hk
  generalize MK p x succ ref r=L at av eO cM hl
  obtain⟨va,vc,rfl,-⟩:=cM.rd.shape;refine qV (LM UF rfl) (An rfl (py (KL (MV (α:=Nat) (0) (fun i=>[(0,ptr wp 0),(43,.slice va L.length vc),(44,I (L.length:Int)),(45,I (i:Int))]) (fun i w'=>WrR wp F w3 w' (bs++Ld (L.take i))/\i<=L.length) (fun i=>L.length-i) ?hI ?hround))))
  case hI=>exact⟨⟨F,by simpa[Ld] using h3,Kp.refl _ _,fun k hk=> .inl hk⟩,Nat.zero_le _⟩
  case hround=>
   rintro i w4 ⟨⟨F4,kW,aw,oJ⟩,hi⟩ ih
   try dsimp only
   refine qN rfl (qV (LX rfl rfl) (py (run_seq (KZ rfl (fun h0=>?_) (fun h0=>?_)))))
   ·have di:i<L.length:=by omega
    obtain⟨⟨c,v⟩,hq⟩:∃q,L[i]? =some q:=⟨_,List.getElem?_eq_getElem di⟩;obtain⟨tJ,lY⟩:=av _ (List.mem_of_getElem? hq);dsimp only at tJ lY
    obtain⟨g,c5,e4⟩:∃g c,Value.slice va L.length vc= .slice (some ⟨g,0,none⟩) L.length c:=by
     rcases cM.shape with⟨-,h0⟩|⟨g,c,e,hc⟩
     ·omega
     ·exact⟨g,c,e⟩
    cases e4;have dU:=cM.kp aw (fun g hg e=>by have:=oQ g hg;have:=jl g e;omega);have jz:=VK YB dU.rd hq;obtain⟨y,z,rM⟩:∃y z,NM c=[y,z]:=by cases c<;>exact⟨_,_,rfl⟩
    have nS:XH c= .agg [y,z].toArray:=by rw[XH,rM]
    have iY:z0T (c,v)=[y,z,L5 v]:=by show NM c++_=_;rw[rM];rfl
    rw[iY] at jz;have uM:oneV y=true/\oneV z=true:=by cases c<;>(cases rM;exact⟨rfl,rfl⟩)
    refine It (run_seq (KL (qN rfl (qV (LC UF Qk rfl rfl (by omega)) (qV (Lj (news:=[y,z,L5 v]) za2 rfl Qk rfl jz rfl) (KU rfl rfl (N3 (cs:=[_,_,_]) Qk rfl) ?_))))));rintro _ w5 ⟨b14,rfl,mG,aR,cW⟩;refine L0 rfl (Lz (news:=[y,z,L5 v]) Qk rfl rfl (by simp[uM.1,uM.2];rfl) rfl cW (by simp)) ?_;rintro w6 ⟨eg,aT⟩;replace eg:KY w6 b14 [y,z,L5 v] 300:=eg;have z5:=aR.size;have aG:Ext w4 w6:=aR.KK aT (fun k e=>by omega);have z6:=aG.size;have z4:=aw.size
    have jn:(bs++Ld (L.take i)).length+(c.enc v).length<=134217728:=by
     have e1:(Ld L).length=(Ld (L.take i)).length+(c.enc v).length+(Ld (L.drop (i+1))).length:=by
      conv=>lhs;rw[<-List.take_append_drop (i+1) L,NC,LA hq,Sm]
      rw[List.length_append,List.length_append]
     rw[List.length_append];omega
    have ko:=z4y (kW.ext aG) c v tJ lY jn;rw[nS] at ko;refine py (KQ rfl (An rfl (qV (KT z2D rfl) (qV (Lj (news:=[y,z]) Nv rfl Mj rfl (eg.cells (n:=2) rfl) rfl) (qV (KT z1T rfl) (qV (KS Mq rfl rfl eg rfl) (La [.tmp 49,.tmp 51,.tmp 53] z9R rfl (ko) ?_)))))));rintro _ w7 ⟨rfl,F7,nP,aA,nQ⟩;refine py (KM (KQ rfl (LH rfl rfl (An rfl (py ((ih (i+1) _ ⟨⟨F7,?_,(aw.trans aG.kp).KK aA (fun k hk=>(oJ k hk).symm),fun k hk=>?_⟩,by omega⟩ (by omega)).qb))))))
    ·rw[LA hq,Sm,<-List.append_assoc];exact nP
    ·rcases nQ k hk with e| e
     ·exact oJ k e
     ·exact .inr (by omega)
   ·have cO:i=L.length:=by omega
    rw[cO,List.take_length] at kW;refine KX rfl (qN rfl (KO rfl (py (KP Tryz.func139 rfl ?_))));exact⟨_,rfl,rfl,F4,kW,aX.kp.trans aw,fun k hk=>by rcases oJ k hk with e|e;exact .inl e;exact .inr (by omega)⟩
def Sd (succ ref:List Nat)(r:Nat):List (Cd×Nat):=if 0<r then(.gamma,(Mx succ ref).length-1)::runNums 0 (Mx succ ref).dropLast else []
def z2c (p:Nc)(x:Nat)(succ ref:List Nat):List (Cd×Nat):=
 if leftOf succ ref=[] then [] else(if 0<p.interval then(.gamma,(rowsN p.interval (leftOf succ ref)).1.length)::longNums x p.interval none (rowsN p.interval (leftOf succ ref)).1 else [])++restNums x p.zeta none (rowsN p.interval (leftOf succ ref)).2
def Pw (p:Nc)(x:Nat)(succ ref:List Nat)(r:Nat):List (Cd×Nat):=Sd succ ref r++z2c p x succ ref
theorem VY (p:Nc)(x:Nat){succ ref:List Nat}(r:Nat)(hs:succ≠[]):MK p x succ ref r=M5 p succ.length r++Pw p x succ ref r:=by
 unfold MK M5 Pw Sd z2c
 rw[if_neg hs,if_neg (fun e=>hs (List.eq_nil_of_length_eq_zero e)),List.cons_append]
def z2s (p:Nc)(x:Nat)(l:List Nat):List (Cd×Nat):=if 0<p.interval/\l≠[] then(.gamma,(rowsN p.interval l).1.length)::longNums x p.interval none (rowsN p.interval l).1 else []
theorem YP (p:Nc)(x:Nat)(succ ref:List Nat):z2c p x succ ref=z2s p x (leftOf succ ref)++restNums x p.zeta none (rowsN p.interval (leftOf succ ref)).2:=by
 unfold z2c z2s
 by_cases e:leftOf succ ref=[]
 ·rw[if_pos e,if_neg (fun h=>h.2 e),e,rowsN];rfl
 ·rw[if_neg e];by_cases e2:0<p.interval
  ·rw[if_pos e2,if_pos ⟨e2,e⟩]
  ·rw[if_neg e2,if_neg (fun h=>e2 h.1)]
structure TlI (w:World)(t r:Nat)(s:Bytes)(b7 b9:Nat)(n q:Nat)(p:Nc)(O:List Nat)(v:Value)(a:Nat)(w':World):Prop where
 tk:Wv w' t r s a
 kp:Kp (fun k=>k=t\/k=r) w w'
 sl:Sl w' v 46 1 O.length (O.map Lp)
 fr:∀g,v.ownBlock=some g->w.heap.size<=g
 c7:KY w' b7 [I (n:Int),I (q:Int)] 239
 c9:KY w' b9 [I (p.Lf:Int),I (p.interval:Int),I (p.zeta:Int)] 245
 n7:w.heap.size<=b7
 n9:w.heap.size<=b9
 v7:v.ownBlock≠some b7
 v9:v.ownBlock≠some b9
theorem Xy (l:List Nat):∀c∈l.map Lp,c.oneCell'=true:=fun c hc=>by
 obtain⟨y,-,rfl⟩:=List.mem_map.1 hc
 rfl
theorem TlI.app {w w1 w2 w3:World}{t r:Nat}{s:Bytes}{b7 b9 n q:Nat}{p:Nc}{O M:List Nat}{v v3:Value}{a a2:Nat}(h:TlI w t r s b7 b9 n q p O v a w1)(ht:t<w.heap.size)(hr:r<w.heap.size)
  (hk:Kp (fun k=>k=t\/k=r) w1 w2) (m5:Wv w2 t r s a2) (cM:Sl w3 v3 46 1 (O.length+M.length) (O.map Lp++M.map Lp)) (au:Kp (fun k=>v.ownBlock=some k) w2 w3) (jY:∀g,v3.ownBlock=some g->v.ownBlock=some g\/w2.heap.size<=g):
  TlI w t r s b7 b9 n q p (O++M) v3 a2 w3:=by
 have z1:=h.kp.size
 have z2:=hk.size
 have l7:=h.c7.lt
 have l9:=h.c9.lt
 have n7:=h.n7
 have n9:=h.n9
 have uN:∀k,k<w.heap.size->¬v.ownBlock=some k:=fun k hk e=>by have:=h.fr k e;omega
 have cy:∀k,k<w1.heap.size->v.ownBlock≠some k->v3.ownBlock≠some k:=fun k hk hv e=>by
  rcases jY k e with e| e
  ·exact hv e
  ·omega
 refine⟨⟨au.KN m5.KN (uN t ht),⟨au.KN m5.rd.1 (uN r hr),m5.rd.2⟩,m5.ne⟩,(h.kp.trans hk).KK au (fun k hk=> .inl (h.fr k hk)),by rw[List.length_append,List.map_append];exact cM,fun g hg=>?_,au.KN (hk.KN h.c7 (fun e=>by omega)) h.v7,au.KN (hk.KN h.c9 (fun e=>by omega)) h.v9,n7,n9,cy _ l7 h.v7,cy _ l9 h.v9⟩
 rcases jY g hg with e| e
 ·exact h.fr g e
 ·omega
theorem z4o {w : World}{t r a : Nat}{s : Bytes}(h : Wv w t r s a)(hG : KY w 1 (NM .gamma) 298)(cT : ¬ 1 = r)(mf : ¬ 1 = t)(p : Nc)(hp : p.M3)(x : Nat)(hx : x < 65536){sa : Option Addr}{sc : Nat}(succ ref : List Nat)(hs : Lt succ)(bG : succ ≠ [])(iH : succ.length < 50)(ja : Lt ref)
  (q:Nat) (hq:q<=p.Lf) (mg:q=0->ref=[]) (ee:∀w2,Kp (fun k=>k=r) w w2->Rd w2 (.slice sa ref.length sc) 1 ref.length (ref.map Lp)) (ew:ref.length<=sc) (rest:List Bool) (hb:(Lc s).drop a=Ld (Pw p x succ ref q)++rest):
  Lk Tryz.prog 171 [ptr t 0,I (x:Int),.agg #[I (succ.length:Int),I (q:Int)],.slice sa ref.length sc,lpV p] w fun u w'=>Sl w' u 46 1 succ.length (succ.map Lp)/\(∀g,u.ownBlock=some g->w.heap.size<=g)/\
   Wv w' t r s (a+(Ld (Pw p x succ ref q)).length)/\Kp (fun k=>k=t\/k=r) w w':=by
 obtain⟨g1,g2,g3,g4⟩:=id hp
 have lt0:=h.KN.lt
 have lr0:=h.rd.1.lt
 have iC:=z0q hs.Wb ja.Wb p.interval
 have qa:=iC.length_eq
 rw[List.length_append,List.length_append] at qa
 have av:Lt (leftOf succ ref):=hs.sub List.filter_sublist
 have GT:=(Ox p.interval (leftOf succ ref)).length_eq
 rw[List.length_append] at GT
 unfold Pw at hb⊢
 rw[NC,List.append_assoc] at hb
 rw[NC,List.length_append]
 refine KJ (e:=[(0,_),(1,_),(2,_),(3,_),(4,_)]) Tryz.func171 rfl Tryz.ntmps171 rfl rfl (qN rfl (KU rfl rfl (MH rfl (cs:=[I (succ.length:Int),I (q:Int)]) rfl) ?_))
 rintro _ w1 ⟨b7,rfl,kF,ad,bE⟩
 refine KU rfl rfl (MH rfl (cs:=UG p) rfl) ?_
 rintro _ w2 ⟨b9,rfl,nV,af,cC⟩
 replace cC:KY w2 b9 [I (p.Lf:Int),I (p.interval:Int),I (p.zeta:Int)] 245:=cC
 have z1:=ad.size
 have z2:=af.size
 have aC:=ad.trans af
 have dM:=af.KN bE
 refine KO rfl (qM rfl (KO rfl (py (run_seq (qN rfl (qV (KT Nt rfl) (qV (KS U3 rfl rfl dM rfl) (qV (LU rfl rfl) (py (Lx (fun e' w'=>∃v11,e'=[(0,ptr t 0),(1,I (x:Int)),(7,ptr b7 0),(9,ptr b9 0),(11,v11)]/\TlI w t r s b7 b9 succ.length q p (ref.filter fun y=>decide (y∈succ)) v11 (a+(Ld (Sd succ ref q)).length) w') ?cq (fun cq=>?cJ)))))))))))
 case cq =>
  rintro e' w3 ⟨v11,rfl,h3⟩;have dZ:=Nn hb;obtain⟨va,vc,rfl,-⟩:=h3.sl.rd.shape;have jA:=h3.c7;have cd:=h3.c9;have oR:=h3.tk.KN;refine run_seq (qN rfl (qV (KT Og rfl) (qV ((by first|exact KS U3 rfl rfl jA rfl|exact KS U3 rfl rfl cd rfl|exact KS U3 rfl rfl oR rfl)) ?_)));refine An rfl (qV (LM Li rfl) (qV (Md rfl rfl (by omega)) ?_));rw[show(succ.length:Int)-((ref.filter fun y=>decide (y∈succ)).length:Int)=((leftOf succ ref).length:Int) by omega]
  generalize JW:(a+(Ld (Sd succ ref q)).length)=a3 at h3 dZ
  rw[YP,NC,List.append_assoc] at dZ;rw[YP,NC,List.length_append];have GU:p.interval=0->(rowsN p.interval (leftOf succ ref)).1=[]:=fun e=>by rw[e];exact St _
  have GV:leftOf succ ref=[]->rowsN p.interval (leftOf succ ref)=([],[]):=fun e=>by rw[e,rowsN]
  have oL:=Q8 p.interval (leftOf succ ref) 0 av.Wb (fun y _=>Nat.zero_le _);have rE:=fun y hy=>(z2u (least:=p.interval) av y hy).2
  have EC:(rowsN p.interval (leftOf succ ref)).1.length<=(Mp (rowsN p.interval (leftOf succ ref)).1).length:=by
   have key:∀(R:List (Nat×Nat)) (lo:Nat),NU p.interval lo R->R.length<=(Mp R).length:=by
    intro R
    induction R with
    |nil=>intro lo h;exact Nat.le_refl _
    | cons z R ih =>
      intro lo h;have h5:=ih _ h.2.2.2;have h6:1<=z.2:=h.2.1;rw[show Mp (z::R)=(List.range z.2).map (z.1+·)++Mp R from rfl,List.length_append,List.length_map,List.length_range,List.length_cons];omega
   exact key _ 0 oL
  have AP:Lt (rowsN p.interval (leftOf succ ref)).2:=av.sub (PI p.interval _)
  generalize (ref.filter fun y=>decide (y∈succ))=O1 at h3 iC qa
  have tK:z2s p x (leftOf succ ref)=if 0<p.interval/\leftOf succ ref≠[] then(.gamma,(rowsN p.interval (leftOf succ ref)).1.length)::longNums x p.interval none (rowsN p.interval (leftOf succ ref)).1 else []:=rfl
  generalize z2s p x (leftOf succ ref)=LT at dZ tK
  generalize rowsN p.interval (leftOf succ ref)=Q at*
  generalize leftOf succ ref=L1 at*
  have yp:L1=[]↔L1.length=0:=⟨fun e=>by rw[e];rfl,List.eq_nil_of_length_eq_zero⟩;have gm:=hs.len;refine KO rfl (py (run_seq (Lx (fun e' w'=>∃s1:Bool,e'=[(0,ptr t 0),(1,I (x:Int)),(7,ptr b7 0),(9,ptr b9 0),(11,.slice va O1.length vc),(12,I (L1.length:Int)),(38,.bool s1)]/\w'=w3/\(s1=true↔0<p.interval/\L1≠[])) ?ey (fun ey=>?fk))))
  case ey =>
   rintro e' w4 ⟨s1,rfl,rfl,dC⟩;refine Lx (fun e' w'=>∃v11,e'=[(0,ptr t 0),(1,I (x:Int)),(7,ptr b7 0),(9,ptr b9 0),(11,v11)]/\TlI w t r s b7 b9 succ.length q p (O1++Mp Q.1) v11 (a3+(Ld LT).length) w') ?ar (fun ar=>?dJ)
   case ar =>
    rintro e' w5 ⟨v5,rfl,h5⟩;have gD:=Nn dZ;obtain⟨va5,vc5,rfl,-⟩:=h5.sl.rd.shape;have gq:=h5.c7;have gt:=h5.c9;have uO:=h5.tk.KN;have ED:(O1++Mp Q.1).length=O1.length+(Mp Q.1).length:=List.length_append;refine run_seq (qN rfl (qV (KT Og rfl) (qV ((by first|exact KS U3 rfl rfl gq rfl|exact KS U3 rfl rfl gt rfl|exact KS U3 rfl rfl uO rfl)) ?_)));refine An rfl (qV (LM Li rfl) (qV (Md rfl rfl (by omega)) ?_));rw[show(succ.length:Int)-((O1++Mp Q.1).length:Int)=(Q.2.length:Int) by omega];refine KO rfl (py (run_seq (Lx (fun e' w'=>∃s2:Bool,e'=[(0,ptr t 0),(1,I (x:Int)),(7,ptr b7 0),(9,ptr b9 0),(11,.slice va5 (O1++Mp Q.1).length vc5),(13,I (Q.2.length:Int)),(60,.bool s2)]/\w'=w5/\(s2=true↔0<Q.2.length)) ?mv (fun mv=>?mw))))
    case mv=>
     rintro e' w6 ⟨s2,rfl,rfl,cP⟩;refine Lx (fun e' w'=>∃v11,e'=[(0,ptr t 0),(11,v11)]/\TlI w t r s b7 b9 succ.length q p (O1++Mp Q.1++Q.2) v11 (a3+(Ld LT).length+(Ld (restNums x p.zeta none Q.2)).length) w') ?oC (fun oC=>?rA)
     case oC=>
      rintro e' w7 ⟨v7,rfl,h7⟩;have qc:(O1++Mp Q.1++Q.2).length=succ.length:=by rw[List.length_append,ED];omega
      have GW:0<succ.length:=List.length_pos_iff.2 bG;refine qN rfl (An rfl (La [.tmp 71] zaV rfl (z41 h7.sl (fun e=>by rw[e] at qc;simp at qc;omega) (by omega)) ?_));rintro _ w8 ⟨rfl,bh,l',GX,uP,ez⟩;have GY:l'=succ:=z1w ((GX.trans (by rw[List.append_assoc])).trans iC) uP hs.Wb;rw[GY] at ez;refine qM rfl (An rfl (KO rfl (py (KP Tryz.func171 rfl ?_))));have e9:a+((Ld (Sd succ ref q)).length+((Ld LT).length+(Ld (restNums x p.zeta none Q.2)).length))=a3+(Ld LT).length+(Ld (restNums x p.zeta none Q.2)).length:=by omega
      rw[e9];have uN:∀k,k<w.heap.size->¬v7.ownBlock=some k:=fun k hk e=>by have:=h7.fr k e;omega
      refine⟨_,rfl,ez,h7.fr,⟨bh.KN h7.tk.KN (uN t lt0),⟨bh.KN h7.tk.rd.1 (uN r lr0),h7.tk.rd.2⟩,h7.tk.ne⟩,h7.kp.KK bh (fun k hk=> .inl (h7.fr k hk))⟩
     case rA=>
      refine LO rfl (fun h2=>?_) (fun h2=>?_)
      ·refine KQ rfl (An rfl (An rfl (An rfl (An rfl (qV (KT UJ rfl) (qV ((by first|exact KS U3 rfl rfl gq rfl|exact KS U3 rfl rfl gt rfl)) ?_))))));refine qV ((by first|exact LF rfl U3 Mq (by omega)|exact N0 rfl U3 Mq)) ?_;refine qV (NA (parts:=[(0,.const (Value.int .u8 3)),(1,.tmp 67)]) (cs:=[_,_]) Mj rfl z89 rfl rfl) (La [.tmp 62,.tmp 63,.tmp 64,.tmp 68] zcB rfl (z1y h5.tk x p.zeta hx ⟨g3,g4⟩ Q.2 AP _ gD) ?_);rintro u6 w6 ⟨iI,m9,tH,aT⟩;have AQ:=h5.sl.kp aT (fun g hg e=>by have:=h5.fr g hg;omega);refine KU rfl rfl (pap Li L8 rfl (by decide) rfl rfl AQ iI.rd (Xy _) (by omega) (by simp only[maxLen];omega)) ?_;rintro v7 w7 ⟨gK,aA,GZ,-⟩;have h7:=h5.app lt0 lr0 aT tH gK aA GZ;refine KO rfl (py ?_);exact(oC _ _ ⟨v7,rfl,h7⟩).qb
      ·have fE:Q.2=[]:=List.eq_nil_of_length_eq_zero (by
        rcases Nat.eq_zero_or_pos Q.2.length with e| e
        ·exact e
        ·rw[cP.2 e] at h2;cases h2)
       refine It ((oC _ _ ⟨_,rfl,?_⟩).qb);rw[fE,List.append_nil,show(Ld (restNums x p.zeta none [])).length=0 from rfl,Nat.add_zero];exact h5
    case mw=>
     rcases Nat.eq_zero_or_pos Q.2.length with hz|hz
     ·refine KQ rfl (An rfl (qV (LU rfl rfl) (Ly (An rfl (qS (qS (qS (qS (qS (qV (Ls rfl rfl) (py ?_)))))))))));exact(mv _ _ ⟨false,rfl,rfl,by simp[hz]⟩).qb
     ·refine KQ rfl (An rfl (qV (LU rfl rfl) (MR (An rfl (An rfl (qV (L6 rfl) (qV (KT OM rfl) (qV ((by first|exact KS U4 rfl rfl gq rfl|exact KS U4 rfl rfl gt rfl|exact KS U4 rfl rfl uO rfl)) ?_))))))));refine qV ((by first|exact LN rfl|exact Na rfl)) ?_;refine qV (LR rfl rfl) (py ?_);exact(mv _ _ ⟨true,rfl,rfl,by simp[hz]⟩).qb
   case dJ=>
    refine LO rfl (fun h1=>?_) (fun h1=>?_)
    ·obtain⟨yt,cG⟩:=dC.1 h1;rw[if_pos ⟨yt,cG⟩] at tK;refine KQ rfl (An rfl (An rfl (An rfl (An rfl (qV (KT P4 rfl) (qV ((by first|exact KS U3 rfl rfl jA rfl|exact KS U3 rfl rfl cd rfl)) ?_))))));rw[tK] at dZ;refine La [.tmp 40,.tmp 41,.tmp 42,.tmp 44] zch rfl (z3K h3.tk (h3.kp.KN hG (fun e=>by rcases e with e|e;exact mf e;exact cT e)) cT mf x L1.length p.interval hx (by omega) (by omega) Q.1 oL rE (by omega) (by omega) _ dZ) ?_;rintro u4 w4 ⟨dU,oJ,uQ,aw⟩;have AR:=h3.sl.kp aw (fun g hg e=>by have:=h3.fr g hg;omega);have JX:=dU.rd;have H0:O1.length<=65536:=by omega
     refine KU rfl rfl (pap Li L8 rfl (by decide) rfl rfl AR dU.rd (Xy _) (by omega) (by simp only[maxLen];omega)) ?_;rintro v5 w5 ⟨gd,aj,H1,-⟩;have h5:=h3.app lt0 lr0 aw uQ gd aj H1;refine KO rfl (py ((ar _ _ ⟨v5,rfl,?_⟩).qb));rw[tK];exact h5
    ·have cG:¬(0<p.interval/\L1≠[]):=fun e=>by rw[dC.2 e] at h1;cases h1
     have im:Q.1=[]:=by
      by_cases e:L1=[]
      ·rw[GV e]
      ·exact GU (by by_cases e2:0<p.interval;exact absurd ⟨e2,e⟩ cG;omega)
     rw[if_neg cG] at tK;refine It ((ar _ _ ⟨_,rfl,?_⟩).qb);rw[im,tK,show Mp []=[] from rfl,List.append_nil,show(Ld []).length=0 from rfl,Nat.add_zero];exact h3
  case fk=>
   rcases Nat.eq_zero_or_pos L1.length with hz|hz
   ·refine KQ rfl (An rfl (qV (LU rfl rfl) (Ly (An rfl (qS (qS (qS (qV (Ls rfl rfl) (An rfl (qS (qS (qS (qS ?_)))))))))))));refine qS (qV (Ls rfl rfl) (py (Ll.qb (e:=[(0,_),(1,_),(7,_),(9,_),(11,_),(12,_),(38,_)]) ?_)));exact(ey _ _ ⟨false,rfl,rfl,⟨fun e=>(by cases e),fun e=>absurd (yp.2 hz) e.2⟩⟩).qb
   ·rcases Nat.eq_zero_or_pos p.interval with nO|nO
    ·refine KQ rfl (An rfl (qV (LU rfl rfl) (MR (An rfl (qV (KT P4 rfl) (qV ((by first|exact KS U3 rfl rfl jA rfl|exact KS U3 rfl rfl cd rfl|exact KS U3 rfl rfl oR rfl)) ?_))))));refine qV (LU rfl rfl) (Ly (qV (LR rfl rfl) (An rfl (qS (qS (qS (qS (qS (qV (Ls rfl rfl) (py (Ll.qb (e:=[(0,_),(1,_),(7,_),(9,_),(11,_),(12,_),(38,_)]) ?_)))))))))));exact(ey _ _ ⟨false,rfl,rfl,by simp[nO]⟩).qb
    ·refine KQ rfl (An rfl (qV (LU rfl rfl) (MR (An rfl (qV (KT P4 rfl) (qV ((by first|exact KS U3 rfl rfl jA rfl|exact KS U3 rfl rfl cd rfl|exact KS U3 rfl rfl oR rfl)) ?_))))));refine qV (LU rfl rfl) (MR (qV (LR rfl rfl) (An rfl (An rfl (qV (L6 rfl) (qV (KT OM rfl) (qV ((by first|exact KS U4 rfl rfl jA rfl|exact KS U4 rfl rfl cd rfl|exact KS U4 rfl rfl oR rfl)) ?_)))))));refine qV ((by first|exact LN rfl|exact Na rfl)) ?_;refine qV (LR rfl rfl) (py (Ll.qb (e:=[(0,_),(1,_),(7,_),(9,_),(11,_),(12,_),(38,_)]) ?_));exact(ey _ _ ⟨true,rfl,rfl,⟨fun _=>⟨nO,fun e=>(by have:=yp.1 e;omega)⟩,fun _=>rfl⟩⟩).qb
 case cJ=>
  refine KZ rfl (fun h0=>?_) (fun h0=>?_)
  ·have im:0<q:=by omega
   have yE:=O4 succ ref;have iy:=yE.Wf;rw[List.length_map] at iy;have uR:=ja.len
   have uS:(Mx succ ref).sum=ref.length:=by
    have:=congrArg List.length yE.exp;rw[NS,List.length_map] at this;exact this
   have uT:=z44 succ ref;rw[show Sd succ ref q=(.gamma,(Mx succ ref).length-1)::runNums 0 (Mx succ ref).dropLast from if_pos im] at hb;obtain⟨l,m,gL⟩:∃l m,Mx succ ref=l++[m]:=⟨_,_,(List.dropLast_concat_getLast yE.ne).symm⟩;have gM:=yE.pos;rw[gL] at hb uS iy gM;rw[gL,List.dropLast_concat] at uT;rw[List.dropLast_concat,show(l++[m]).length-1=l.length by simp] at hb;rw[List.sum_append] at uS;rw[List.length_append,List.length_singleton] at iy;have h2:=h.ext aC
   have uU:∀m'∈l.drop 1,1<=m':=fun m' mH=>gM m' (by
    cases l with
    |nil=>simp at mH
    |cons a l=>rw[List.cons_append,List.drop_succ_cons,List.drop_zero];rw[List.drop_succ_cons,List.drop_zero] at mH;exact List.mem_append_left _ mH)
   refine KQ rfl (An rfl (An rfl (La [.tmp 17,.tmp 18] zc1 rfl (Zi h2 (aC.KN hG) cT ref l (fun w5 k=>ee w5 (aC.kp.trans k)) ew uR (by omega) (by omega) uU _ hb) ?_)));rintro v11 w3 ⟨cM,oQ,oS,au⟩;refine KO rfl (py ((cq _ _ ⟨v11,rfl,?_⟩).qb));rw[uT] at cM;rw[show Sd succ ref q=(.gamma,l.length)::runNums 0 l by unfold Sd;rw[if_pos im,gL,List.dropLast_concat,show(l++[m]).length-1=l.length by simp]];have l72:=dM.lt;have l92:=cC.lt;exact⟨oS,aC.kp.trans (au.L2 fun k e=> .inr e),cM,fun g hg=>by have:=oQ g hg;omega,au.KN dM (by omega),au.KN cC (by omega),by omega,by omega,fun e=>by have:=oQ _ e;omega,fun e=>by have:=oQ _ e;omega⟩
  ·have im:q=0:=by omega
   have AS:=mg im;subst AS;refine It ((cq _ _ ⟨.slice none 0 0,rfl,?_⟩).qb);rw[show Sd succ [] q=[] by unfold Sd;rw[if_neg (by omega)]];exact⟨h.ext aC,aC.kp,Sl.nil _ _ _,(fun g hg=>by cases hg),dM,cC,by omega,by omega,(fun e=>by cases e),(fun e=>by cases e)⟩
theorem Yj {l b rest:List Bool}{a k n:Nat}(hb:l.drop a=b++rest)(hk:k+n<=b.length):(l.drop (a+k)).take n=(b.drop k).take n:=by
 rw[<-List.drop_drop,hb,List.drop_append_of_le_length (by omega),List.take_append_of_le_length (by rw[List.length_drop];omega)]
theorem z3q {w:World}{r a:Nat}{s:Bytes}(p:Nc)(hp:p.M3)(x:Nat)(hx:x<65536){la ra:Option Addr}{lc rc:Nat}(succ ref:List Nat)(hs:Lt succ)(bG:succ≠[])(ja:Lt ref)
  (q:Nat) (hq:q<=p.Lf) (mg:q=0->ref=[]) (hG:KY w 1 (NM .gamma) 298) (hU:KY w 2 (NM .unary) 298) (dV:Rd w (.slice la succ.length lc) 1 succ.length (succ.map Lp)) (kQ:Rd w (.slice ra ref.length rc) 1 ref.length (ref.map Lp)) (gB:succ.length<=lc) (mx:ref.length<=rc)
  (hl:(Ld (MK p x succ ref q)).length<=134217728) (rest:List Bool) (hb:(Lc s).drop a=Ld (Pw p x succ ref q)++rest) (h:OQ w r s (a+(Ld (Pw p x succ ref q)).length)):
  Lk Tryz.prog 172 [lpV p,ptr r 0,I (a:Int),I (x:Int),.agg #[I (succ.length:Int),I (q:Int)],.slice la succ.length lc,.slice ra ref.length rc] w fun u w'=>u= .bool true/\OQ w' r s (a+(Ld (Pw p x succ ref q)).length)/\Kp (fun k=>k=r) w w':=by
 have lr0:=h.1.lt
 have l10:=hG.lt
 have l20:=hU.lt
 have gm:=hs.len
 have mI:=VY p x (ref:=ref) q bG
 have yF:Ld (MK p x succ ref q)=Ld (M5 p succ.length q)++Ld (Pw p x succ ref q):=by rw[mI,NC]
 have eN:(Ld (MK p x succ ref q)).length=(Ld (M5 p succ.length q)).length+(Ld (Pw p x succ ref q)).length:=by rw[mI,NC,List.length_append]
 generalize Ld (Pw p x succ ref q)=TB at*
 have yG:succ.length≠0:=fun e=>bG (List.eq_nil_of_length_eq_zero e)
 refine KJ (e:=[(0,_),(1,_),(2,_),(3,_),(4,_),(5,_),(6,_)]) Tryz.func172 rfl Tryz.ntmps172 rfl rfl (qN rfl (KU rfl rfl (MH rfl (cs:=UG p) rfl) ?_))
 rintro _ w1 ⟨b7,rfl,kF,ad,bE⟩
 refine KU rfl rfl (MH rfl (cs:=[I (succ.length:Int),I (q:Int)]) rfl) ?_
 rintro _ w2 ⟨b11,rfl,iz,af,aH⟩
 have aC:=ad.trans af
 have z1:=ad.size
 have z2:=af.size
 have dM:=af.KN bE
 have h2:OQ w2 r s (a+TB.length):=⟨aC.KN h.1,h.2⟩
 refine KO rfl (qM rfl (An rfl (La [.tmp 27] Tn rfl (P8 h2) ?_)))
 rintro _ w2 ⟨rfl,rfl⟩
 refine KO rfl (qM rfl (La [] Vf rfl (PD w2) ?_))
 rintro _ w3 ⟨wp,F,rfl,kX,ah,oT⟩
 have z3:=ah.size
 have aX:=aC.trans ah
 have kq:=ah.KN aH
 have jA:=ah.KN dM
 refine KO rfl (py (run_seq (qN rfl (An rfl (An rfl (An rfl (An rfl (qV (KT Nt rfl) (qV (KS U3 rfl rfl kq rfl) (qV (Lj (news:=UG p) TQ rfl P3 rfl (jA.cells (n:=3) rfl) rfl) (La [.tmp 30,.tmp 31,.tmp 32,.tmp 33,.tmp 35,.tmp 36] z8G rfl (Up kX p hp x hx succ ref hs ja q hq mg (aX.KN hG) (aX.KN hU) (dV.ext aX) (kQ.ext aX) gB mx (by simpa using hl)) ?_)))))))))))
 rintro _ w4 ⟨rfl,F4,kW,aw,oJ⟩
 rw[List.nil_append] at kW
 have z4:=aw.size
 have dl:Ext w2 w4:=ah.KK aw oT
 refine qV (M0 rfl rfl) (py (KH rfl (It (qN rfl (An rfl (La [.tmp 40] z2G rfl (RK kW) ?_))))))
 rintro _ w4 ⟨rfl,rfl⟩
 refine An rfl (qV (Lu rfl rfl) (qV (Lu rfl rfl) (KO rfl (KO rfl (py (Ll.qb (e:=[(1,_),(2,_),(7,_),(14,_),(15,_),(16,_),(17,_)]) ?_))))))
 refine qN rfl (An rfl ?_)
 have dT:(Lg (Ld (MK p x succ ref q))).length<=16777217:=by rw[Lq];omega
 refine La [.tmp 44] z2B rfl (RQ (Lg (Ld (MK p x succ ref q))) (by omega) w4) ?_
 rintro _ w5 ⟨ow,rfl,qK,aR,JY⟩
 have gW:=dl.trans aR
 have bB:=aC.trans gW
 obtain⟨z,m4,nO,JZ⟩:=Np (Ld (MK p x succ ref q))
 have yH:(Lc (Lg (Ld (MK p x succ ref q)))).drop 0=Ld (M5 p succ.length q)++(TB++List.replicate z false):=by
  rw[m4,List.drop_zero,yF,List.append_assoc]
 refine KO rfl (py (run_seq (qN rfl (An rfl (qV (Lj (news:=UG p) TQ rfl P3 rfl ((gW.KN dM).cells (n:=3) rfl) rfl) (La [.tmp 47,.tmp 48] z8j rfl (Xl qK p hp (bB.KN hG) (bB.KN hU) (by omega) (by omega) succ.length q (by omega) hq (fun e=>absurd e yG) _ yH) ?_))))))
 rintro _ w6 ⟨rfl,kr,aT⟩
 rw[Nat.zero_add] at kr
 have gX:Ext w2 w6:=gW.KK aT (fun k e=>by omega)
 have rN:=Nn yH
 rw[Nat.zero_add] at rN
 generalize (Lg (Ld (MK p x succ ref q)))=os at*
 have z6:=gX.size
 refine An rfl (qV (Lu rfl rfl) (qV (Lu rfl rfl) (KU rfl rfl (N3 (cs:=[_,_]) Ns rfl) ?_)))
 rintro _ w7 ⟨b20,rfl,H2,bL,AU⟩
 refine L0 rfl (Lz (news:=[I (succ.length:Int),I (q:Int)]) Ns rfl rfl rfl rfl AU (by simp)) ?_
 rintro w8 ⟨EE,bh⟩
 have gY:Ext w6 w8:=bL.KK bh (fun k e=>by omega)
 have iJ:=gX.trans gY
 have h8:OQ w8 r s (a+TB.length):=⟨iJ.KN h2.1,h2.2⟩
 have tv:OQ w8 ow os (Ld (M5 p succ.length q)).length:=⟨gY.KN kr.1,kr.2⟩
 have qQ:Tv w8 wp (Ld (MK p x succ ref q)) F4:=((kW.ext aR).kp aT (fun i hi e=>by have:=kW.lt hi;omega)).ext gY
 refine KO rfl (qM rfl (An rfl (qV (M0 rfl rfl) (An rfl (An rfl (La [.tmp 55] WL rfl (Qt qQ) ?_))))))
 rintro _ w8 ⟨rfl,rfl⟩
 refine An rfl (La [.tmp 57] Tn rfl (P8 tv) ?_)
 rintro _ w8 ⟨rfl,rfl⟩
 refine qV (Md rfl rfl (by omega)) ?_
 rw[show((Ld (MK p x succ ref q)).length:Int)-((Ld (M5 p succ.length q)).length:Int)=(TB.length:Int) by omega]
 refine An rfl (An rfl (qV (Md rfl rfl (by omega)) ?_))
 rw[show((a+TB.length:Nat):Int)-(a:Int)=(TB.length:Int) by omega]
 refine qV (M0 rfl rfl) (Ly (qV (Ls rfl rfl) (py (Ll.qb (e:=[(1,_),(2,_),(14,_),(15,_),(19,_),(64,_)]) ?_))))
 refine KH rfl (It (qN rfl (An rfl (An rfl (La [.tmp 65,.tmp 66] z5w rfl (Ub h8 a (by have:=h8.2.1;omega)) ?_)))))
 rintro _ w9 ⟨rfl,h9,aL⟩
 have tB:OQ w9 ow os (Ld (M5 p succ.length q)).length:=⟨aL.KN tv.1 (by omega),tv.2⟩
 refine py (run_seq (KL (MV (α:=Nat) (0) (fun k=>[(1,ptr r 0),(15,I ((a+TB.length:Nat):Int)),(19,ptr ow 0)]) (fun k w'=>OQ w' r s (a+k)/\OQ w' ow os ((Ld (M5 p succ.length q)).length+k)/\Kp (fun i=>i=r\/i=ow) w9 w'/\k<=TB.length) (fun k=>TB.length-k) ?hI ?hround)))
 case hI=>exact⟨h9,tB,Kp.refl _ _,Nat.zero_le _⟩
 case hround=>
  rintro k w10 ⟨fj,uV,ax,K0⟩ ih
  try dsimp only
  refine run_seq (qN rfl (An rfl (La [.tmp 68] Tn rfl (P8 fj) ?_)));rintro _ w10 ⟨rfl,rfl⟩;refine An rfl (qV (LX rfl rfl) (py (KZ rfl (fun h0=>?_) (fun h0=>?_))))
  ·refine It (KL (qN rfl (An rfl (An rfl (La [.tmp 73] Tn rfl (P8 fj) ?_)))));rintro _ w10 ⟨rfl,rfl⟩;refine qV (Md rfl rfl (by omega)) ?_;rw[show((a+TB.length:Nat):Int)-((a+k:Nat):Int)=((TB.length-k:Nat):Int) by omega];refine qV (ymi rfl rfl) ?_;rw[show min (64:Int) ((TB.length-k:Nat):Int)=((min 64 (TB.length-k):Nat):Int) by omega];obtain⟨n,hn,cG,j5,AV⟩:∃n,min 64 (TB.length-k)=n/\1<=n/\n<=64/\k+n<=TB.length:=⟨_,rfl,by omega,by omega,by omega⟩;rw[hn];have rO:=fj.2.1;have eY:=Yj hb AV;have ke:=Yj rN AV;have Ec:a+TB.length<=8*s.length:=h8.2.1
   have tC:(Ld (M5 p succ.length q)).length+TB.length<=8*os.length:=by
    have e:=congrArg List.length rN;rw[List.length_drop,bitsT_length,List.length_append] at e;omega
   refine KO rfl (qM rfl (An rfl (An rfl (La [.tmp 78,.tmp 79] YM rfl (Qh fj n j5) ?_))));rintro v11 w11 hv
   have iv:v11= .tuple #[L5 (valB (((Lc s).drop (a+k)).take n)),I 0]/\OQ w11 r s (a+k+n)/\Kp (fun k=>k=r) w10 w11:=by
    rcases hv with hv|hv
    ·exact hv.2
    ·omega
   obtain⟨rfl,m8,aP⟩:=iv;rw[eY];have AW:OQ w11 ow os ((Ld (M5 p succ.length q)).length+k):=⟨aP.KN uV.1 (by omega),uV.2⟩;refine An rfl (qV (Lu rfl rfl) (qV (Lu rfl rfl) (KO rfl (KO rfl (qM rfl (An rfl (An rfl (La [.tmp 84,.tmp 85] YM rfl (Qh AW n j5) ?_))))))));rintro v12 w12 hv
   have iv:v12= .tuple #[L5 (valB (((Lc os).drop ((Ld (M5 p succ.length q)).length+k)).take n)),I 0]/\OQ w12 ow os ((Ld (M5 p succ.length q)).length+k+n)/\Kp (fun k=>k=ow) w11 w12:=by
    rcases hv with hv|hv
    ·exact hv.2
    ·omega
   obtain⟨rfl,AX,aU⟩:=iv;rw[ke];have EF:OQ w12 r s (a+k+n):=⟨aU.KN m8.1 (by omega),m8.2⟩;refine An rfl (qV (Lu rfl rfl) (qV (Lu rfl rfl) (KO rfl (KO rfl (qM rfl (An rfl (An rfl (qV (M0 rfl rfl) (py (KZ rfl (fun h1=>?_) (fun h1=>?_)))))))))))
   ·exact absurd rfl h1
   ·refine It (KM ((ih (k+n) _ ⟨by rw[<-Nat.add_assoc];exact EF,by rw[<-Nat.add_assoc];exact AX,(ax.trans (aP.L2 fun i e=> .inl e)).trans (aU.L2 fun i e=> .inr e),AV⟩ (by omega)).qb))
  ·have lQ:k=TB.length:=by omega
   subst lQ;refine KX rfl (qN rfl (KO rfl (py (KP Tryz.func172 rfl ?_))));exact⟨_,rfl,rfl,fj,((aC.trans iJ).kp.trans aL).KK ax (fun i hi=>by rcases hi with e|e;exact .inr e;exact .inl (by omega))⟩
theorem Uo {w:World}{r a:Nat}{s:Bytes}(h:OQ w r s a)(p:Nc)(hp:p.M3)(x:Nat)(hx:x<65536)(N:Nat)(hN:N<=65536){ra:Option Addr}{rc:Nat}(succ ref:List Nat)(hs:Lt succ)(bG:succ≠[])(iH:succ.length<50)(AY:∀y∈succ,y<N)(ja:Lt ref)
  (q:Nat) (hq:q<=p.Lf) (mg:q=0->ref=[]) (hG:KY w 1 (NM .gamma) 298) (hU:KY w 2 (NM .unary) 298) (cT:¬1=r) (dz:¬2=r) (ee:∀w2,Kp (fun k=>k=r) w w2->Rd w2 (.slice ra ref.length rc) 1 ref.length (ref.map Lp)) (mx:ref.length<=rc)
  (hl:(Ld (MK p x succ ref q)).length<=134217728) (rest:List Bool) (hb:(Lc s).drop a=Ld (Pw p x succ ref q)++rest):
  Lk Tryz.prog 131 [ptr r 0,I (x:Int),I (N:Int),.agg #[I (succ.length:Int),I (q:Int)],.slice ra ref.length rc,lpV p] w fun u w'=>∃v,u= .tuple #[v,I 0]/\Sl w' v 46 1 succ.length (succ.map Lp)/\(∀g,v.ownBlock=some g->w.heap.size<=g)/\OQ w' r s (a+(Ld (Pw p x succ ref q)).length)/\Kp (fun k=>k=r) w w':=by
 obtain⟨g1,g2,g3,g4⟩:=id hp
 have lr0:=h.1.lt
 have l10:=hG.lt
 have l20:=hU.lt
 have gm:=hs.len
 have gC:=ja.len
 have yG:0<succ.length:=List.length_pos_iff.2 bG
 refine KJ (e:=[(0,_),(1,_),(2,_),(3,_),(4,_),(5,_)]) Tryz.func131 rfl Tryz.ntmps131 rfl rfl (qN rfl (KU rfl rfl (MH rfl (cs:=[I (succ.length:Int),I (q:Int)]) rfl) ?_))
 rintro _ w1 ⟨b9,rfl,nV,ad,cC⟩
 refine KU rfl rfl (MH rfl (cs:=UG p) rfl) ?_
 rintro _ w2 ⟨b11,rfl,iz,af,aH⟩
 replace aH:KY w2 b11 [I (p.Lf:Int),I (p.interval:Int),I (p.zeta:Int)] 245:=aH
 have aC:=ad.trans af
 have z1:=ad.size
 have z2:=af.size
 have cQ:=af.KN cC
 have l9:=cQ.lt
 have l11:=aH.lt
 have l90:=cC.lt
 refine KO rfl (KO rfl (py (run_seq (Lx (fun e' w'=>e'=[(0,ptr r 0),(1,I (x:Int)),(2,I (N:Int)),(4,.slice ra ref.length rc),(9,ptr b9 0),(11,ptr b11 0)]/\Ext w2 w') ?kY (fun kY=>?B0)))))
 case kY=>
  rintro e' w3 ⟨rfl,ah⟩;have cE:=aC.trans ah;have h3:OQ w3 r s a:=⟨cE.KN h.1,h.2⟩;have cd:=ah.KN cQ;have kq:=ah.KN aH;have z3:=ah.size;refine qN rfl (An rfl (La [.tmp 81] Tn rfl (P8 h3) ?_));rintro _ w3 ⟨rfl,rfl⟩;refine KO rfl (qM rfl (An rfl (qV (NA (parts:=[(0,.tmp 83)]) (cs:=[_,_]) zaM rfl zc6 rfl rfl) (KU rfl rfl (MH rfl (cs:=[ptr r 0,.bool false]) rfl) ?_))));rintro _ w4 ⟨tb,rfl,H3,aB,H4⟩;have z4:=aB.size;have cK:=cE.trans aB;have h4:Wv w4 tb r s a:=⟨H4,⟨aB.KN h3.1,h3.2⟩,by omega⟩;refine KO rfl (qM rfl (An rfl (An rfl (qV (Lj (news:=[I (succ.length:Int),I (q:Int)]) YS rfl Ns rfl ((aB.KN cd).cells (n:=2) rfl) rfl) (An rfl (qV (Lj (news:=UG p) TQ rfl P3 rfl ((aB.KN kq).cells (n:=3) rfl) rfl) (La [.tmp 86,.tmp 87,.tmp 88,.tmp 89,.tmp 90] zc9 rfl (z4o h4 (cK.KN hG) cT (by omega) p hp x hx succ ref hs bG iH ja q hq mg (fun w2 k=>ee w2 (cK.kp.trans k)) mx rest hb) ?_)))))));rintro v w5 ⟨gd,rD,EG,aj⟩;have cu:Kp (fun k=>k=r) w w5:=cK.kp.KK aj (fun i hi=>by rcases hi with e|e;exact .inl (by omega);exact .inr e);have gt:=aj.KN (aB.KN cd) (by omega);have uW:=aj.KN (aB.KN kq) (by omega);have EH:=EG.KN;have H5:=cu.KN hG cT;have H6:=cu.KN hU dz;have bU:=ee w5 cu;have ug:∀g,v.ownBlock=some g->w.heap.size<=g:=fun g hg=>by have:=rD g hg;have:=cK.size;omega
  obtain⟨va,vc,rfl,rP⟩:=gd.rd.shape
  have AZ:succ.length<=vc:=by
   rcases gd.shape with⟨-,h0⟩|⟨g,c1,hv,ff⟩
   ·omega
   ·cases hv;exact ff
  refine KO rfl (py (run_seq (qN rfl (An rfl (qV (L6 rfl) (qV (KT OM rfl) (qV ((by first|exact KS U4 rfl rfl gt rfl|exact KS U4 rfl rfl EH rfl)) ?_)))))));refine An rfl (An rfl (qV (LM Li rfl) (qV (KT Og rfl) (qV ((by first|exact KS U3 rfl rfl gt rfl|exact KS U3 rfl rfl EH rfl)) ?_))));refine qV (M0 rfl rfl) (Ly (qV (Ls rfl rfl) (An rfl (An rfl (La [.tmp 104] YA rfl (Rk _ succ hs w5 gd.rd) ?_)))));rintro _ w5 ⟨rfl,rfl⟩;refine qV ((by first|exact LN rfl|exact Na rfl)) ?_;refine qV (Ls rfl rfl) (An rfl (An rfl (qV (LM Li rfl) (qV (Mr rfl rfl) (Ly (qV (Ls rfl rfl) (An rfl (An rfl (An rfl (qV (LM Li rfl) (qV (Md rfl rfl (by omega)) ?_)))))))))));rw[show(succ.length:Int)-1=((succ.length-1:Nat):Int) by omega];obtain⟨y,hy⟩:∃y,succ[succ.length-1]? =some y:=⟨_,List.getElem?_eq_getElem (by omega)⟩;have K1:=AY y (List.mem_of_getElem? hy)
  obtain⟨g5,c5,e5⟩:∃g c,Value.slice va succ.length vc= .slice (some ⟨g,0,none⟩) succ.length c:=by
   rcases gd.shape with⟨-,h0⟩|⟨g,c,e,hc⟩
   ·omega
   ·exact⟨g,c,e⟩
  cases e5;refine qV (LC Li L8 rfl rfl (by omega)) (qV (Lm Mk rfl rfl (LV gd.rd (show(succ.map Lp)[succ.length-1]? =some (Lp y) by rw[List.getElem?_map,hy];rfl))) ?_);refine qV (Lw rfl Mk U3 (by omega)) (An rfl (qV (Ou rfl rfl) (Ly (qV (Ls rfl rfl) (An rfl (qV (Lj (news:=UG p) TQ rfl P3 rfl (uW.cells (n:=3) rfl) rfl) (An rfl (An rfl (An rfl (qV (Lj (news:=[I (succ.length:Int),I (q:Int)]) YS rfl Ns rfl (gt.cells (n:=2) rfl) rfl) (An rfl (An rfl (La [.tmp 125,.tmp 126,.tmp 127,.tmp 128,.tmp 129,.tmp 130,.tmp 131] zbC rfl (z3q p hp x hx succ ref hs bG ja q hq mg H5 H6 gd.rd bU AZ mx hl rest hb EG.rd) ?_)))))))))))));rintro _ w6 ⟨rfl,h6,aT⟩;refine qV ((by first|exact LN rfl|exact Na rfl)) ?_;refine qV (Ls rfl rfl) (py (Ll.qb (e:=[(0,_),(14,_),(16,_),(134,_)]) ?_));refine KH rfl (It (qN rfl (An rfl (KO rfl (KO rfl (py (KP Tryz.func131 rfl ?_)))))));exact⟨_,rfl,_,rfl,gd.kp aT (fun g hg e=>by have:=ug g hg;omega),ug,h6,cu.trans aT⟩
 case B0=>
  refine KL (qN rfl (An rfl (qV (LQ Oz rfl rfl) (KO rfl (py (KH rfl (run_seq (qN rfl (qV (Lj (news:=UG p) TQ rfl P3 rfl (aH.cells (n:=3) rfl) rfl) (La [.tmp 21] ZV rfl (OU p hp w2) ?_))))))))));rintro _ w3 ⟨rfl,ah⟩;refine qV (M0 rfl rfl) (An rfl (An rfl (La [.tmp 25] z1Z rfl (Qy x hx w3) ?_)));rintro _ w3 ⟨rfl,rfl⟩;refine qV ((by first|exact LN rfl|exact Na rfl)) ?_;refine qV (Ls rfl rfl) (An rfl (An rfl (qV (LX rfl rfl) (Ly (qV (Ls rfl rfl) (An rfl (An rfl (qV (LU rfl rfl) (Ly (qV (Ls rfl rfl) (An rfl (An rfl (La [.tmp 38] YA rfl (Rk _ ref ja w3 (ee w3 (aC.trans ah).kp)) ?_)))))))))))));rintro _ w3 ⟨rfl,rfl⟩;refine qV ((by first|exact LN rfl|exact Na rfl)) ?_;refine qV (Ls rfl rfl) (KO rfl (py (Ll.qb (e:=[(0,_),(1,_),(2,_),(4,_),(9,_),(11,_),(12,_),(13,_),(20,_)]) ?_)));refine KH rfl (KQ rfl (qV (KT Og rfl) (qV ((by first|exact KS U3 rfl rfl (ah.KN cQ) rfl|exact KS U3 rfl rfl (ah.KN aH) rfl)) ?_)));refine qV (LX rfl rfl) (Ly (An rfl (qV (KT Og rfl) (qV ((by first|exact KS U3 rfl rfl (ah.KN cQ) rfl|exact KS U3 rfl rfl (ah.KN aH) rfl)) ?_))));refine qV (LU rfl rfl) (Ly (qV (Ls rfl rfl) (An rfl (qV (KT Nt rfl) (qV ((by first|exact KS U3 rfl rfl (ah.KN cQ) rfl|exact KS U3 rfl rfl (ah.KN aH) rfl)) ?_)))));refine qV (LX rfl rfl) (Ly (qV (Ls rfl rfl) (An rfl (qV (KT Nt rfl) (qV ((by first|exact KS U3 rfl rfl (ah.KN cQ) rfl|exact KS U3 rfl rfl (ah.KN aH) rfl)) ?_)))));refine qV (KT Od rfl) (qV ((by first|exact KS U3 rfl rfl (ah.KN cQ) rfl|exact KS U3 rfl rfl (ah.KN aH) rfl)) ?_);refine qV (LU rfl rfl) (Ly (qV (Ls rfl rfl) (An rfl ?_)));rcases Nat.eq_zero_or_pos q with e0|e0
  ·have H7:ref.length=0:=by rw[mg e0];rfl
   refine qV (KT Nt rfl) (qV ((by first|exact KS U3 rfl rfl (ah.KN cQ) rfl|exact KS U3 rfl rfl (ah.KN aH) rfl)) ?_);refine qV (Mr rfl rfl) (MR (An rfl (An rfl (qV (LM Li rfl) (qV (LU rfl rfl) (Ly (qV (LR rfl rfl) (qV (Ls rfl rfl) (KO rfl (py (Ll.qb (e:=[(0,_),(1,_),(2,_),(4,_),(9,_),(11,_),(12,_),(13,_),(20,_)]) ?_)))))))))));refine KH rfl (qN rfl (qV (KT Og rfl) (qV ((by first|exact KS U3 rfl rfl (ah.KN cQ) rfl|exact KS U3 rfl rfl (ah.KN aH) rfl)) ?_)));refine qV (Mr rfl rfl) (Ly (An rfl (qS (qS (qS (qV (Ls rfl rfl) (KO rfl (py (KH rfl (It (KM ?_)))))))))));exact(kY _ _ ⟨rfl,ah⟩).qb
  ·refine qV (KT Nt rfl) (qV ((by first|exact KS U3 rfl rfl (ah.KN cQ) rfl|exact KS U3 rfl rfl (ah.KN aH) rfl)) ?_);refine qV (Mr rfl rfl) (Ly (An rfl (qS (qS (qS (qV (Ls rfl rfl) (qV (Ls rfl rfl) (KO rfl (py (Ll.qb (e:=[(0,_),(1,_),(2,_),(4,_),(9,_),(11,_),(12,_),(13,_),(20,_)]) ?_))))))))));refine KH rfl (qN rfl (qV (KT Og rfl) (qV ((by first|exact KS U3 rfl rfl (ah.KN cQ) rfl|exact KS U3 rfl rfl (ah.KN aH) rfl)) ?_)));refine qV (Mr rfl rfl) (Ly (An rfl (qS (qS (qS (qV (Ls rfl rfl) (KO rfl (py (KH rfl (It (KM ?_)))))))))));exact(kY _ _ ⟨rfl,ah⟩).qb
theorem XN {w:World}{r:Nat}(p:Nc)(hp:p.M3)(x:Nat)(hx:x<65536)(N:Nat)(hN:N<=65536):
  Lk Tryz.prog 131 [ptr r 0,I (x:Int),I (N:Int),.agg #[I ((0:Nat):Int),I ((0:Nat):Int)],.slice none 0 0,lpV p] w fun u w'=>u= .tuple #[.slice none 0 0,I 0]/\Ext w w':=by
 obtain⟨g1,g2,g3,g4⟩:=id hp
 have ru:([]:List Nat).length=0:=rfl
 refine KJ (e:=[(0,_),(1,_),(2,_),(3,_),(4,_),(5,_)]) Tryz.func131 rfl Tryz.ntmps131 rfl rfl (qN rfl (KU rfl rfl (MH rfl (cs:=[I ((0:Nat):Int),I ((0:Nat):Int)]) rfl) ?_))
 rintro _ w1 ⟨b9,rfl,nV,ad,cC⟩
 refine KU rfl rfl (MH rfl (cs:=UG p) rfl) ?_
 rintro _ w2 ⟨b11,rfl,iz,af,aH⟩
 replace aH:KY w2 b11 [I (p.Lf:Int),I (p.interval:Int),I (p.zeta:Int)] 245:=aH
 have aC:=ad.trans af
 have cQ:=af.KN cC
 refine KO rfl (KO rfl (py (run_seq (KL (qN rfl (An rfl (qV (LQ Oz rfl rfl) (KO rfl (py (KH rfl (run_seq (qN rfl (qV (Lj (news:=UG p) TQ rfl P3 rfl (aH.cells (n:=3) rfl) rfl) ?_)))))))))))))
 refine La [.tmp 21] ZV rfl (OU p hp w2) ?_
 rintro _ w3 ⟨rfl,ah⟩
 refine qV (M0 rfl rfl) (An rfl (An rfl (La [.tmp 25] z1Z rfl (Qy x hx w3) ?_)))
 rintro _ w3 ⟨rfl,rfl⟩
 refine qV ((by first|exact LN rfl|exact Na rfl)) ?_
 refine qV (Ls rfl rfl) (An rfl (An rfl (qV (LX rfl rfl) (Ly (qV (Ls rfl rfl) (An rfl (An rfl (qV (LU rfl rfl) (Ly (qV (Ls rfl rfl) (An rfl (An rfl (La [.tmp 38] YA rfl (Rk (.slice none 0 0) [] ⟨List.Pairwise.nil,fun y h=>(by cases h)⟩ w3 Qm) ?_)))))))))))))
 rintro _ w3 ⟨rfl,rfl⟩
 refine qV ((by first|exact LN rfl|exact Na rfl)) ?_
 refine qV (Ls rfl rfl) (KO rfl (py (Ll.qb (e:=[(0,_),(1,_),(2,_),(4,_),(9,_),(11,_),(12,_),(13,_),(20,_)]) ?_)))
 refine KH rfl (KQ rfl (qV (KT Og rfl) (qV ((by first|exact KS U3 rfl rfl (ah.KN cQ) rfl|exact KS U3 rfl rfl (ah.KN aH) rfl)) ?_)))
 refine qV (LX rfl rfl) (Ly (An rfl (qV (KT Og rfl) (qV ((by first|exact KS U3 rfl rfl (ah.KN cQ) rfl|exact KS U3 rfl rfl (ah.KN aH) rfl)) ?_))))
 refine qV (LU rfl rfl) (Ly (qV (Ls rfl rfl) (An rfl (qV (KT Nt rfl) (qV ((by first|exact KS U3 rfl rfl (ah.KN cQ) rfl|exact KS U3 rfl rfl (ah.KN aH) rfl)) ?_)))))
 refine qV (LX rfl rfl) (Ly (qV (Ls rfl rfl) (An rfl (qV (KT Nt rfl) (qV ((by first|exact KS U3 rfl rfl (ah.KN cQ) rfl|exact KS U3 rfl rfl (ah.KN aH) rfl)) ?_)))))
 refine qV (KT Od rfl) (qV ((by first|exact KS U3 rfl rfl (ah.KN cQ) rfl|exact KS U3 rfl rfl (ah.KN aH) rfl)) ?_)
 refine qV (LU rfl rfl) (Ly (qV (Ls rfl rfl) (An rfl (qV (KT Nt rfl) (qV ((by first|exact KS U3 rfl rfl (ah.KN cQ) rfl|exact KS U3 rfl rfl (ah.KN aH) rfl)) ?_)))))
 refine qV (Mr rfl rfl) (MR (An rfl (An rfl (qV (LM Li rfl) (qV (LU rfl rfl) (Ly (qV (LR rfl rfl) (qV (Ls rfl rfl) (KO rfl (py (Ll.qb (e:=[(0,_),(1,_),(2,_),(4,_),(9,_),(11,_),(12,_),(13,_),(20,_)]) ?_)))))))))))
 refine KH rfl (qN rfl (qV (KT Og rfl) (qV ((by first|exact KS U3 rfl rfl (ah.KN cQ) rfl|exact KS U3 rfl rfl (ah.KN aH) rfl)) ?_)))
 refine qV (Mr rfl rfl) (MR (An rfl (qV (KT Nt rfl) (qV ((by first|exact KS U3 rfl rfl (ah.KN cQ) rfl|exact KS U3 rfl rfl (ah.KN aH) rfl)) ?_))))
 refine qV (Mr rfl rfl) (MR (qV (LR rfl rfl) (KO rfl (py (L3 rfl (qN rfl (KO rfl (KO rfl (py (KP Tryz.func131 rfl ?_))))))))))
 exact⟨_,rfl,rfl,aC.trans ah⟩
/-! ### A packer's cells -/
def QY (q:Value×Nat):List Value:=[q.1,I (q.2:Int)]
def Sn (p:LW)(R:List (Value×Nat))(n wp ed:Nat):List Value:=Qf p++(R.flatMap QY++[I (n:Int),ptr wp 0,I (ed:Int),I 0])
theorem MW:∀R:List (Value×Nat),(R.flatMap QY).length=R.length*2
 |[]=>rfl
 |q::R=>by rw[List.flatMap_cons,List.length_append,MW R,List.length_cons,show(QY q).length=2 from rfl];omega
theorem Zw:∀(R:List (Value×Nat)) (i j:Nat) (q:Value×Nat) (u:Value),R[i]? =some q->(QY q)[j]? =some u->(R.flatMap QY)[i*2+j]? =some u
 |[],i,j,q,u,h,_=>by simp at h
 | a :: R, 0, j, q, u, h, hj => by
   rw[List.getElem?_cons_zero] at h;cases h;have:=(List.getElem?_eq_some_iff.1 hj).1;rw[List.flatMap_cons,List.getElem?_append_left (by omega),Nat.zero_mul,Nat.zero_add]
   exact hj
 | a :: R, i + 1, j, q, u, h, hj => by
   rw[List.getElem?_cons_succ] at h;rw[List.flatMap_cons,List.getElem?_append_right (by show 2<=_;omega),show(i+1)*2+j-(QY a).length=i*2+j by show _-2=_;omega];exact Zw R i j q u h hj
theorem Zr:∀(R:List (Value×Nat)) (i:Nat) (x:Value×Nat),i<R.length->(R.set i x).flatMap QY=(R.flatMap QY).take (i*2)++QY x++(R.flatMap QY).drop (i*2+2)
 |[],i,x,h=>by simp at h
 | a :: R, 0, x, h => by
   rw[List.set_cons_zero,List.flatMap_cons,List.flatMap_cons,Nat.zero_mul,List.take_zero,List.nil_append,Nat.zero_add,List.drop_left' (show(QY a).length=2 from rfl)]
 | a :: R, i + 1, x, h => by
   rw[List.length_cons] at h;rw[List.set_cons_succ,List.flatMap_cons,List.flatMap_cons,Zr R i x (by omega)];rw[show(i+1)*2=(QY a).length+i*2 by show _=2+_;omega,List.take_length_add_append,Nat.add_assoc,List.drop_length_add_append,List.append_assoc,List.append_assoc,List.append_assoc]
section
variable {p:LW}{R:List (Value×Nat)}{n wp ed:Nat}
theorem z0w (hR:R.length=17):(Sn p R n wp ed).length=43:=by
 unfold Sn
 rw[List.length_append,List.length_append,MW,hR];rfl
theorem UX (hR:R.length=17)(j:Nat):(Sn p R n wp ed)[39+j]? =[I (n:Int),ptr wp 0,I (ed:Int),I 0][j]? :=by
 unfold Sn
 rw[List.getElem?_append_right (by show 5<=_;omega),List.getElem?_append_right (by rw[MW,hR];show _<=_-5;omega),MW,hR]
 congr 1
 show 39+j-5-17*2=j
 omega
theorem z0Y (hR:R.length=17):(Sn p R n wp ed)[39]? =some (I (n:Int)):=UX hR 0
theorem z98 (hR:R.length=17):(Sn p R n wp ed)[40]? =some (ptr wp 0):=UX hR 1
theorem zcI (hR:R.length=17):(Sn p R n wp ed)[41]? =some (I (ed:Int)):=UX hR 2
theorem zdv (hR:R.length=17):(Sn p R n wp ed)[42]? =some (I 0):=UX hR 3
theorem z71 (hR:R.length=17){i:Nat}{v:Value}{c:Nat}(h:R[i]? =some (v,c))(j:Nat)(u:Value)(hj:[v,I (c:Int)][j]? =some u):(Sn p R n wp ed)[5+i*2+j]? =some u:=by
 have hi:=(List.getElem?_eq_some_iff.1 h).1
 have kf:j<2:=(List.getElem?_eq_some_iff.1 hj).1
 unfold Sn
 rw[List.getElem?_append_right (by show 5<=_;omega),show 5+i*2+j-(Qf p).length=i*2+j by show _-5=_;omega,List.getElem?_append_left (by rw[MW];omega)]
 exact Zw R i j _ u h hj
theorem z4d (hR:R.length=17){i:Nat}(hi:i<17)(v:Value)(c:Nat):Mh (Sn p R n wp ed) (5+i*2) [v,I (c:Int)]=Sn p (R.set i (v,c)) n wp ed:=by
 unfold Sn Mh
 rw[Zr R i (v,c) (by omega)]
 rw[show 5+i*2=(Qf p).length+i*2 from rfl,List.take_length_add_append,show(Qf p).length+i*2+[v,I (c:Int)].length=(Qf p).length+(i*2+2) from rfl,List.drop_length_add_append]
 rw[List.take_append_of_le_length (by rw[MW];omega),List.drop_append_of_le_length (by rw[MW];omega)]
 simp only[List.append_assoc]
 rfl
theorem z6C (hR:R.length=17)(m:Nat):(Sn p R n wp ed).set 39 (I (m:Int))=Sn p R m wp ed:=by
 unfold Sn
 rw[List.set_append_right _ _ (by show 5<=_;omega),List.set_append_right _ _ (by rw[MW,hR];show _<=39-5;omega),MW,hR]
 rfl
theorem z6x (hR:R.length=17)(m:Nat):(Sn p R n wp ed).set 41 (I (m:Int))=Sn p R n wp m:=by
 unfold Sn
 rw[List.set_append_right _ _ (by show 5<=_;omega),List.set_append_right _ _ (by rw[MW,hR];show _<=41-5;omega),MW,hR]
 rfl
end
theorem z4G {w:World}{k:Nat}{p:LW}{R:List (Value×Nat)}{n wp ed:Nat}(hB:KY w k (Sn p R n wp ed) 255)(hR:R.length=17)(hn:n<=65536)(a:Option Addr)(m cp c:Nat):
  Lk Tryz.prog 140 [ptr k 5,.slice a m cp,I (c:Int)] w fun u w'=>u= .tuple #[]/\KY w' k (Sn p (R.set (n%17) (.slice a m cp,c)) (n+1) wp ed) 255/\Kp (fun i=>i=k) w w':=by
 refine KJ (e:=[(0,_),(1,_),(2,_)]) Tryz.func140 rfl Tryz.ntmps140 rfl rfl ?_
 have hg:=Ext.Lb w
 have dj:(R.set (n%17) (.slice a m cp,c)).length=17:=by rw[List.length_set];exact hR
 refine run_seq (Le [12] (fun w'=>Ext w w') (by kernel_rfl) rfl (qL [9,10,11,12] 0 rfl (fun _ h=>KW rfl) hg (qL [2,3,4,5,11,12] 1 rfl (fun _ h=>KW rfl) hg (qL [3,4,5,11,12] 2 rfl (fun _ h=>L6 rfl) hg (qL [4,5,11,12] 3 rfl (fun _ h=>KT Qb rfl) hg (qL [8,11,12] 6 rfl (fun _ h=>KW rfl) hg (qL [8,11,12] 7 rfl (fun _ h=>KW rfl) hg (qL [11,12] 8 rfl (fun _ h=>NA (parts:=[(0,.tmp 12),(1,.tmp 13)]) (cs:=[_,_]) LY rfl z7P rfl rfl) hg (qL [10,11,12] 9 rfl (fun _ h=>L6 rfl) hg (qL [11,12] 10 rfl (fun _ h=>KT z25 rfl) hg (qL [5,11,12] 4 rfl (fun _ h=>KS U3 rfl rfl (h.KN hB) (z0Y hR)) hg (qL [11,12] 5 rfl (fun _ h=>yre rfl rfl (by omega)) hg (qL [12] 11 rfl (fun _ h=>yia zcM LY rfl rfl (by omega)) hg ?_)))))))))))))
 refine LD [12] (by kernel_rfl) (by kernel_rfl) (qO 12 (Lv (i:=12) rfl rfl (Lz (news:=[.slice a m cp,I (c:Int)]) LY rfl rfl rfl rfl (hg.KN hB) (by rw[z0w hR];show 5+n%17*2+2<=43;omega)) ?_))
 rintro w1 ⟨ai,aM⟩
 refine⟨trivial,?_⟩
 replace ai:KY w1 k (Mh (Sn p R n wp ed) (5+n%17*2) [.slice a m cp,I (c:Int)]) 255:=ai
 rw[z4d hR (Nat.mod_lt _ (by decide))] at ai
 refine qE (KQ rfl (An rfl (qV (L6 rfl) (qV (KT Qb rfl) (qV (KS U3 rfl rfl ai (z0Y dj)) (LH rfl rfl (qV (L6 rfl) (qV (KT Qb rfl) (L0 rfl (Mt LG rfl rfl rfl ai (by rw[z0w dj];decide)) ?_)))))))))
 rintro w2 ⟨ak,am⟩
 replace ak:KY w2 k ((Sn p (R.set (n%17) (.slice a m cp,c)) n wp ed).set 39 (I ((n+1:Nat):Int))) 255:=ak
 rw[z6C dj] at ak
 refine py (M8 Tryz.func140 rfl ?_)
 exact⟨_,rfl,rfl,ak,(hg.kp.trans aM).trans am⟩
def OY (p:LW)(m size c:Nat):Bool:=decide (0<m/\m<=p.most/\0<size/\size<=p.most/\c<p.chain)
theorem RM {w:World}{k:Nat}{p:LW}{R:List (Value×Nat)}{n wp ed:Nat}(hB:KY w k (Sn p R n wp ed) 255)(hR:R.length=17)(hn:n<=65536)(hp:p.M3)(ref size:Nat)(h1:1<=ref)(h2:ref<=p.Lf)
  {a:Option Addr} {m cp c:Nat} (hq:ref<=n->R[(n-ref)%17]? =some (.slice a m cp,c)):
  Lk Tryz.prog 138 [ptr k 5,I (ref:Int),I (size:Int),bpV p] w fun u w'=>u=(if ref<=n then .tuple #[.agg #[.slice a m cp,I (c:Int)],.bool (OY p m size c)] else .tuple #[.agg #[.slice none 0 0,I 0],.bool false])/\Ext w w':=by
 have uX:p.Lf<=16:=hp.1.1
 refine KJ (e:=[(0,_),(1,_),(2,_),(3,_)]) Tryz.func138 rfl Tryz.ntmps138 rfl rfl (qN rfl (KU rfl rfl (MH rfl (cs:=Qf p) rfl) ?_))
 rintro _ w1 ⟨b7,rfl,kF,ad,bE⟩
 refine KU rfl rfl (N3 (cs:=[_,_]) LY rfl) ?_
 rintro _ w2 ⟨b8,rfl,j0,af,bZ⟩
 have z1:=ad.size
 have z2:=af.size
 have l7:=bE.lt
 have l8:=bZ.lt
 have aC:=ad.trans af
 have dM:=af.KN bE
 replace dM:KY w2 b7 [I (p.Lf:Int),I (p.chain:Int),I (p.interval:Int),I (p.zeta:Int),I (p.most:Int)] 77:=dM
 replace bZ:KY w2 b8 [.slice none 0 0,I 0] 250:=bZ
 have rQ:=aC.KN hB
 have aa:=Ext.Lb w2
 refine KO rfl (py (run_seq (run_seq ?_)))
 rcases Nat.lt_or_ge n ref with aO|jk
 ·refine KV (fun w'=>Ext w2 w') (by kernel_rfl) rfl (KR 0 rfl (KW rfl) aa (KR 1 rfl (LX rfl rfl) aa (PA (KR 2 rfl (KW rfl) aa (KR 3 rfl (KW rfl) aa (KR 4 rfl (KW rfl) aa (KR 5 rfl (L6 rfl) aa (KR 6 rfl (KT Qb rfl) aa (KR 8 rfl (KT Ve rfl) aa (qT 9 rfl (fun _ h=>KS U3 rfl rfl (h.KN dM) rfl) aa (qT 7 rfl (fun _ h=>KS U3 rfl rfl (h.KN rQ) (z0Y hR)) aa (KR 10 rfl (ymi rfl rfl) aa (KR 11 rfl (LU rfl rfl) aa ?_)))))))))))));refine OL (KR 12 rfl (Ls rfl rfl) aa (qE (L3 rfl (qN rfl (qV (NA (parts:=[]) (cs:=[_,_]) LY rfl z7P rfl rfl) ?_)))));have rR:=aa.KN bZ;refine L0 rfl (Lz (news:=[.slice none 0 0,I 0]) LY rfl rfl rfl rfl rR (by simp)) ?_;rintro w3 ⟨rS,au⟩;replace rS:KY w3 b8 [.slice none 0 0,I 0] 250:=rS;refine KO rfl (py (Lh Tryz.func138 (.cell Qd rfl LY rfl (KY.cells (n:=2) rS (news:=[_,_]) rfl) rfl (.tmp rfl .nil)) ?_));rw[if_neg (by omega)];exact⟨_,rfl,rfl,(aC.trans aa).KK au (fun i e=>by omega)⟩
 ·have fE:=hq jk;rw[if_pos jk];refine KV (fun w'=>Ext w2 w') (by kernel_rfl) rfl (KR 0 rfl (KW rfl) aa (KR 1 rfl (LX rfl rfl) aa (PA (KR 2 rfl (KW rfl) aa (KR 3 rfl (KW rfl) aa (KR 4 rfl (KW rfl) aa (KR 5 rfl (L6 rfl) aa (KR 6 rfl (KT Qb rfl) aa (KR 8 rfl (KT Ve rfl) aa (qT 9 rfl (fun _ h=>KS U3 rfl rfl (h.KN dM) rfl) aa (qT 7 rfl (fun _ h=>KS U3 rfl rfl (h.KN rQ) (z0Y hR)) aa (KR 10 rfl (ymi rfl rfl) aa (KR 11 rfl (LU rfl rfl) aa ?_)))))))))))));refine PA (KR 12 rfl (Ls rfl rfl) aa (qE (KH rfl (It (run_seq ?_)))));have ag:=aa.trans (Ext.Lb w2.drew);have eJ:=Ext.Lb w2.drew;have mJ:=aa.KN rQ;refine Le [13] (fun w'=>Ext w2.drew w') (by kernel_rfl) rfl (qL [8,9,10,11,13] 0 rfl (fun _ h=>KW rfl) eJ (qL [2,3,4,6,7,10,11,13] 1 rfl (fun _ h=>KW rfl) eJ (qL [3,4,6,7,10,11,13] 2 rfl (fun _ h=>L6 rfl) eJ (qL [4,6,7,10,11,13] 3 rfl (fun _ h=>KT Qb rfl) eJ (qL [6,7,10,11,13] 5 rfl (fun _ h=>KW rfl) eJ (qL [9,10,11,13] 8 rfl (fun _ h=>L6 rfl) eJ (qL [10,11,13] 9 rfl (fun _ h=>KT z25 rfl) eJ (qL [6,7,10,11,13] 4 rfl (fun _ h=>KS U3 rfl rfl (h.KN mJ) (z0Y hR)) eJ (qL [7,10,11,13] 6 rfl (fun _ h=>Md rfl rfl (by omega)) eJ ?_)))))))));rw[show(n:Int)-(ref:Int)=((n-ref:Nat):Int) by omega];refine qL [10,11,13] 7 rfl (fun _ h=>yre rfl rfl (by omega)) eJ (qL [11,13] 10 rfl (fun _ h=>yia zcM LY rfl rfl (by omega)) eJ (qL [13] 11 rfl (fun _ h=>Lj (news:=[.slice a m cp,I (c:Int)]) Qd rfl LY rfl (fun j u hj=>by rw[(h.KN mJ).cell];exact z71 hR fE j u hj) rfl) eJ ?_));refine MB (i:=12) (by kernel_rfl) (LZ (i:=12) rfl rfl rfl (N3 (cs:=[_,_]) LY rfl) ?_);rintro _ w3 ⟨b10,rfl,zQ,ah,dK⟩;refine⟨eJ.trans ah,?_⟩;refine LD [13] (by kernel_rfl) (by kernel_rfl) (qO 13 (Lv (i:=13) rfl rfl (Lz (news:=[.slice a m cp,I (c:Int)]) LY rfl rfl rfl rfl dK (by simp)) ?_));rintro w4 ⟨aV,aw⟩;refine⟨trivial,?_⟩;replace aV:KY w4 b10 [.slice a m cp,I (c:Int)] 250:=aV;have z23:=ag.size;have z3:=ah.size;have dl:Ext w2 w4:=(ag.trans ah).KK aw (fun i e=>by omega);have z4:=dl.size;have eh:=dl.KN bZ;have bP:=dl.KN dM;have ae:=Ext.Lb w4;refine qE (Ll.qb (e:=[(2,_),(7,_),(8,_),(9,_),(10,_)]) ?_);refine run_seq ?_;rcases Nat.eq_zero_or_pos m with c0|c0
  ·refine KV (fun w'=>Kp (fun i=>i=b8) w4 w') (by kernel_rfl) rfl (qT 0 rfl (fun _ hS=>(by first|exact Lj Qd rfl LY rfl (KY.cells (n:=2) (hS.KN aV (by omega)) (news:=[_,_]) rfl) rfl|exact Lj Qd rfl LY rfl (KY.cells (n:=2) (hS.KN bP (by omega)) (news:=[_,_]) rfl) rfl)) (ae.kp) ?_);refine KR 1 rfl (KT Nw rfl) (ae.kp) (qT 2 rfl (fun _ hS=>(by first|exact KS Li rfl rfl (hS.KN aV (by omega)) rfl|exact KS Li rfl rfl (hS.KN bP (by omega)) rfl)) (ae.kp) ?_);refine KR 3 rfl (LM Li rfl) (ae.kp) (KR 4 rfl (LU rfl rfl) (ae.kp) (PA (KR 5 rfl (KW rfl) (ae.kp) (qJ 6 rfl (ae.kp) (qJ 7 rfl (ae.kp) (qJ 8 rfl (ae.kp) (qJ 9 rfl (ae.kp) (qJ 10 rfl (ae.kp) (qJ 11 rfl (ae.kp) (KR 12 rfl (Ls rfl rfl) (ae.kp) (KR 13 rfl (KW rfl) (ae.kp) (qJ 14 rfl (ae.kp) (qJ 15 rfl (ae.kp) ?_)))))))))))));refine KR 16 rfl (Ls rfl rfl) (ae.kp) (KR 17 rfl (KW rfl) (ae.kp) (qJ 18 rfl (ae.kp) (qJ 19 rfl (ae.kp) (qJ 20 rfl (ae.kp) (qJ 21 rfl (ae.kp) (KR 22 rfl (Ls rfl rfl) (ae.kp) (KR 23 rfl (KW rfl) (ae.kp) (qJ 24 rfl (ae.kp) (qJ 25 rfl (ae.kp) (qJ 26 rfl (ae.kp) (qJ 27 rfl (ae.kp) (qJ 28 rfl (ae.kp) (KR 29 rfl (Ls rfl rfl) (ae.kp) ?_)))))))))))));refine qO 30 (Lv (i:=30) rfl rfl (Lz (news:=[.slice a m cp,I (c:Int)]) LY rfl rfl rfl rfl (ae.KN eh) (by simp)) ?_);rintro w5 ⟨bD,aj⟩;refine⟨ae.kp.trans aj,?_⟩;replace bD:KY w5 b8 [.slice a m cp,I (c:Int)] 250:=bD;refine KR 31 rfl (MO rfl) (ae.kp.trans aj) (qE (Ll.qb (e:=[(8,_),(9,_)]) ?_));refine Lh Tryz.func138 (.cell Qd rfl LY rfl (KY.cells (n:=2) bD (news:=[_,_]) rfl) rfl (.tmp rfl .nil)) ?_;have av:OY p m size c=false:=decide_eq_false (fun h=>by omega);rw[av];exact⟨_,rfl,rfl,((aC.trans dl).trans ae).KK aj (fun i e=>by omega)⟩
  ·rcases Nat.lt_or_ge p.most m with c1|c1
   ·refine KV (fun w'=>Kp (fun i=>i=b8) w4 w') (by kernel_rfl) rfl (qT 0 rfl (fun _ hS=>(by first|exact Lj Qd rfl LY rfl (KY.cells (n:=2) (hS.KN aV (by omega)) (news:=[_,_]) rfl) rfl|exact Lj Qd rfl LY rfl (KY.cells (n:=2) (hS.KN bP (by omega)) (news:=[_,_]) rfl) rfl)) (ae.kp) ?_);refine KR 1 rfl (KT Nw rfl) (ae.kp) (qT 2 rfl (fun _ hS=>(by first|exact KS Li rfl rfl (hS.KN aV (by omega)) rfl|exact KS Li rfl rfl (hS.KN bP (by omega)) rfl)) (ae.kp) ?_);refine KR 3 rfl (LM Li rfl) (ae.kp) (KR 4 rfl (LU rfl rfl) (ae.kp) (OL (KR 5 rfl (KW rfl) (ae.kp) (KR 6 rfl (KT Nw rfl) (ae.kp) (qT 7 rfl (fun _ hS=>(by first|exact KS Li rfl rfl (hS.KN aV (by omega)) rfl|exact KS Li rfl rfl (hS.KN bP (by omega)) rfl)) (ae.kp) ?_)))));refine KR 8 rfl (LM Li rfl) (ae.kp) (KR 9 rfl (KT OD rfl) (ae.kp) (qT 10 rfl (fun _ hS=>(by first|exact KS U3 rfl rfl (hS.KN aV (by omega)) rfl|exact KS U3 rfl rfl (hS.KN bP (by omega)) rfl)) (ae.kp) ?_));refine KR 11 rfl (Qv rfl rfl) (ae.kp) (PA (KR 12 rfl (LR rfl rfl) (ae.kp) (KR 13 rfl (KW rfl) (ae.kp) (qJ 14 rfl (ae.kp) (qJ 15 rfl (ae.kp) (KR 16 rfl (Ls rfl rfl) (ae.kp) (KR 17 rfl (KW rfl) (ae.kp) (qJ 18 rfl (ae.kp) (qJ 19 rfl (ae.kp) (qJ 20 rfl (ae.kp) (qJ 21 rfl (ae.kp) (KR 22 rfl (Ls rfl rfl) (ae.kp) (KR 23 rfl (KW rfl) (ae.kp) ?_)))))))))))));refine qJ 24 rfl (ae.kp) (qJ 25 rfl (ae.kp) (qJ 26 rfl (ae.kp) (qJ 27 rfl (ae.kp) (qJ 28 rfl (ae.kp) (KR 29 rfl (Ls rfl rfl) (ae.kp) (qO 30 (Lv (i:=30) rfl rfl (Lz (news:=[.slice a m cp,I (c:Int)]) LY rfl rfl rfl rfl (ae.KN eh) (by simp)) ?_)))))));rintro w5 ⟨bD,aj⟩;refine⟨ae.kp.trans aj,?_⟩;replace bD:KY w5 b8 [.slice a m cp,I (c:Int)] 250:=bD;refine KR 31 rfl (MO rfl) (ae.kp.trans aj) (qE (Ll.qb (e:=[(8,_),(9,_)]) ?_));refine Lh Tryz.func138 (.cell Qd rfl LY rfl (KY.cells (n:=2) bD (news:=[_,_]) rfl) rfl (.tmp rfl .nil)) ?_;have av:OY p m size c=false:=decide_eq_false (fun h=>by omega);rw[av];exact⟨_,rfl,rfl,((aC.trans dl).trans ae).KK aj (fun i e=>by omega)⟩
   ·rcases Nat.eq_zero_or_pos size with c2|c2
    ·refine KV (fun w'=>Kp (fun i=>i=b8) w4 w') (by kernel_rfl) rfl (qT 0 rfl (fun _ hS=>(by first|exact Lj Qd rfl LY rfl (KY.cells (n:=2) (hS.KN aV (by omega)) (news:=[_,_]) rfl) rfl|exact Lj Qd rfl LY rfl (KY.cells (n:=2) (hS.KN bP (by omega)) (news:=[_,_]) rfl) rfl)) (ae.kp) ?_);refine KR 1 rfl (KT Nw rfl) (ae.kp) (qT 2 rfl (fun _ hS=>(by first|exact KS Li rfl rfl (hS.KN aV (by omega)) rfl|exact KS Li rfl rfl (hS.KN bP (by omega)) rfl)) (ae.kp) ?_);refine KR 3 rfl (LM Li rfl) (ae.kp) (KR 4 rfl (LU rfl rfl) (ae.kp) (OL (KR 5 rfl (KW rfl) (ae.kp) (KR 6 rfl (KT Nw rfl) (ae.kp) (qT 7 rfl (fun _ hS=>(by first|exact KS Li rfl rfl (hS.KN aV (by omega)) rfl|exact KS Li rfl rfl (hS.KN bP (by omega)) rfl)) (ae.kp) ?_)))));refine KR 8 rfl (LM Li rfl) (ae.kp) (KR 9 rfl (KT OD rfl) (ae.kp) (qT 10 rfl (fun _ hS=>(by first|exact KS U3 rfl rfl (hS.KN aV (by omega)) rfl|exact KS U3 rfl rfl (hS.KN bP (by omega)) rfl)) (ae.kp) ?_));refine KR 11 rfl (Qv rfl rfl) (ae.kp) (OL (KR 12 rfl (LR rfl rfl) (ae.kp) (KR 13 rfl (KW rfl) (ae.kp) (KR 14 rfl (KW rfl) (ae.kp) (KR 15 rfl (LU rfl rfl) (ae.kp) (PA (KR 16 rfl (LR rfl rfl) (ae.kp) (KR 17 rfl (KW rfl) (ae.kp) (qJ 18 rfl (ae.kp) (qJ 19 rfl (ae.kp) (qJ 20 rfl (ae.kp) (qJ 21 rfl (ae.kp) (KR 22 rfl (Ls rfl rfl) (ae.kp) ?_)))))))))))));refine KR 23 rfl (KW rfl) (ae.kp) (qJ 24 rfl (ae.kp) (qJ 25 rfl (ae.kp) (qJ 26 rfl (ae.kp) (qJ 27 rfl (ae.kp) (qJ 28 rfl (ae.kp) (KR 29 rfl (Ls rfl rfl) (ae.kp) (qO 30 (Lv (i:=30) rfl rfl (Lz (news:=[.slice a m cp,I (c:Int)]) LY rfl rfl rfl rfl (ae.KN eh) (by simp)) ?_))))))));rintro w5 ⟨bD,aj⟩;refine⟨ae.kp.trans aj,?_⟩;replace bD:KY w5 b8 [.slice a m cp,I (c:Int)] 250:=bD;refine KR 31 rfl (MO rfl) (ae.kp.trans aj) (qE (Ll.qb (e:=[(8,_),(9,_)]) ?_));refine Lh Tryz.func138 (.cell Qd rfl LY rfl (KY.cells (n:=2) bD (news:=[_,_]) rfl) rfl (.tmp rfl .nil)) ?_;have av:OY p m size c=false:=decide_eq_false (fun h=>by omega);rw[av];exact⟨_,rfl,rfl,((aC.trans dl).trans ae).KK aj (fun i e=>by omega)⟩
    ·rcases Nat.lt_or_ge p.most size with c3|c3
     ·refine KV (fun w'=>Kp (fun i=>i=b8) w4 w') (by kernel_rfl) rfl (qT 0 rfl (fun _ hS=>(by first|exact Lj Qd rfl LY rfl (KY.cells (n:=2) (hS.KN aV (by omega)) (news:=[_,_]) rfl) rfl|exact Lj Qd rfl LY rfl (KY.cells (n:=2) (hS.KN bP (by omega)) (news:=[_,_]) rfl) rfl)) (ae.kp) ?_);refine KR 1 rfl (KT Nw rfl) (ae.kp) (qT 2 rfl (fun _ hS=>(by first|exact KS Li rfl rfl (hS.KN aV (by omega)) rfl|exact KS Li rfl rfl (hS.KN bP (by omega)) rfl)) (ae.kp) ?_);refine KR 3 rfl (LM Li rfl) (ae.kp) (KR 4 rfl (LU rfl rfl) (ae.kp) (OL (KR 5 rfl (KW rfl) (ae.kp) (KR 6 rfl (KT Nw rfl) (ae.kp) (qT 7 rfl (fun _ hS=>(by first|exact KS Li rfl rfl (hS.KN aV (by omega)) rfl|exact KS Li rfl rfl (hS.KN bP (by omega)) rfl)) (ae.kp) ?_)))));refine KR 8 rfl (LM Li rfl) (ae.kp) (KR 9 rfl (KT OD rfl) (ae.kp) (qT 10 rfl (fun _ hS=>(by first|exact KS U3 rfl rfl (hS.KN aV (by omega)) rfl|exact KS U3 rfl rfl (hS.KN bP (by omega)) rfl)) (ae.kp) ?_));refine KR 11 rfl (Qv rfl rfl) (ae.kp) (OL (KR 12 rfl (LR rfl rfl) (ae.kp) (KR 13 rfl (KW rfl) (ae.kp) (KR 14 rfl (KW rfl) (ae.kp) (KR 15 rfl (LU rfl rfl) (ae.kp) (OL (KR 16 rfl (LR rfl rfl) (ae.kp) (KR 17 rfl (KW rfl) (ae.kp) (KR 18 rfl (KW rfl) (ae.kp) (KR 19 rfl (KT OD rfl) (ae.kp) (qT 20 rfl (fun _ hS=>(by first|exact KS U3 rfl rfl (hS.KN aV (by omega)) rfl|exact KS U3 rfl rfl (hS.KN bP (by omega)) rfl)) (ae.kp) ?_)))))))))));refine KR 21 rfl (Qv rfl rfl) (ae.kp) (PA (KR 22 rfl (LR rfl rfl) (ae.kp) (KR 23 rfl (KW rfl) (ae.kp) (qJ 24 rfl (ae.kp) (qJ 25 rfl (ae.kp) (qJ 26 rfl (ae.kp) (qJ 27 rfl (ae.kp) (qJ 28 rfl (ae.kp) (KR 29 rfl (Ls rfl rfl) (ae.kp) (qO 30 (Lv (i:=30) rfl rfl (Lz (news:=[.slice a m cp,I (c:Int)]) LY rfl rfl rfl rfl (ae.KN eh) (by simp)) ?_)))))))))));rintro w5 ⟨bD,aj⟩;refine⟨ae.kp.trans aj,?_⟩;replace bD:KY w5 b8 [.slice a m cp,I (c:Int)] 250:=bD;refine KR 31 rfl (MO rfl) (ae.kp.trans aj) (qE (Ll.qb (e:=[(8,_),(9,_)]) ?_));refine Lh Tryz.func138 (.cell Qd rfl LY rfl (KY.cells (n:=2) bD (news:=[_,_]) rfl) rfl (.tmp rfl .nil)) ?_;have av:OY p m size c=false:=decide_eq_false (fun h=>by omega);rw[av];exact⟨_,rfl,rfl,((aC.trans dl).trans ae).KK aj (fun i e=>by omega)⟩
     ·rcases Nat.lt_or_ge c p.chain with c4|c4
      ·refine KV (fun w'=>Kp (fun i=>i=b8) w4 w') (by kernel_rfl) rfl (qT 0 rfl (fun _ hS=>(by first|exact Lj Qd rfl LY rfl (KY.cells (n:=2) (hS.KN aV (by omega)) (news:=[_,_]) rfl) rfl|exact Lj Qd rfl LY rfl (KY.cells (n:=2) (hS.KN bP (by omega)) (news:=[_,_]) rfl) rfl)) (ae.kp) ?_);refine KR 1 rfl (KT Nw rfl) (ae.kp) (qT 2 rfl (fun _ hS=>(by first|exact KS Li rfl rfl (hS.KN aV (by omega)) rfl|exact KS Li rfl rfl (hS.KN bP (by omega)) rfl)) (ae.kp) ?_);refine KR 3 rfl (LM Li rfl) (ae.kp) (KR 4 rfl (LU rfl rfl) (ae.kp) (OL (KR 5 rfl (KW rfl) (ae.kp) (KR 6 rfl (KT Nw rfl) (ae.kp) (qT 7 rfl (fun _ hS=>(by first|exact KS Li rfl rfl (hS.KN aV (by omega)) rfl|exact KS Li rfl rfl (hS.KN bP (by omega)) rfl)) (ae.kp) ?_)))));refine KR 8 rfl (LM Li rfl) (ae.kp) (KR 9 rfl (KT OD rfl) (ae.kp) (qT 10 rfl (fun _ hS=>(by first|exact KS U3 rfl rfl (hS.KN aV (by omega)) rfl|exact KS U3 rfl rfl (hS.KN bP (by omega)) rfl)) (ae.kp) ?_));refine KR 11 rfl (Qv rfl rfl) (ae.kp) (OL (KR 12 rfl (LR rfl rfl) (ae.kp) (KR 13 rfl (KW rfl) (ae.kp) (KR 14 rfl (KW rfl) (ae.kp) (KR 15 rfl (LU rfl rfl) (ae.kp) (OL (KR 16 rfl (LR rfl rfl) (ae.kp) (KR 17 rfl (KW rfl) (ae.kp) (KR 18 rfl (KW rfl) (ae.kp) (KR 19 rfl (KT OD rfl) (ae.kp) (qT 20 rfl (fun _ hS=>(by first|exact KS U3 rfl rfl (hS.KN aV (by omega)) rfl|exact KS U3 rfl rfl (hS.KN bP (by omega)) rfl)) (ae.kp) ?_)))))))))));refine KR 21 rfl (Qv rfl rfl) (ae.kp) (OL (KR 22 rfl (LR rfl rfl) (ae.kp) (KR 23 rfl (KW rfl) (ae.kp) (KR 24 rfl (KT Y0 rfl) (ae.kp) (qT 25 rfl (fun _ hS=>(by first|exact KS U3 rfl rfl (hS.KN aV (by omega)) rfl|exact KS U3 rfl rfl (hS.KN bP (by omega)) rfl)) (ae.kp) ?_)))));refine KR 26 rfl (KT TU rfl) (ae.kp) (qT 27 rfl (fun _ hS=>(by first|exact KS U3 rfl rfl (hS.KN aV (by omega)) rfl|exact KS U3 rfl rfl (hS.KN bP (by omega)) rfl)) (ae.kp) ?_);refine KR 28 rfl (LX rfl rfl) (ae.kp) (OL (KR 29 rfl (LR rfl rfl) (ae.kp) (qO 30 (Lv (i:=30) rfl rfl (Lz (news:=[.slice a m cp,I (c:Int)]) LY rfl rfl rfl rfl (ae.KN eh) (by simp)) ?_))));rintro w5 ⟨bD,aj⟩;refine⟨ae.kp.trans aj,?_⟩;replace bD:KY w5 b8 [.slice a m cp,I (c:Int)] 250:=bD;refine KR 31 rfl (MO rfl) (ae.kp.trans aj) (qE (Ll.qb (e:=[(8,_),(9,_)]) ?_));refine Lh Tryz.func138 (.cell Qd rfl LY rfl (KY.cells (n:=2) bD (news:=[_,_]) rfl) rfl (.tmp rfl .nil)) ?_;have av:OY p m size c=true:=decide_eq_true ⟨by omega,by omega,by omega,by omega,by omega⟩;rw[av];exact⟨_,rfl,rfl,((aC.trans dl).trans ae).KK aj (fun i e=>by omega)⟩
      ·refine KV (fun w'=>Kp (fun i=>i=b8) w4 w') (by kernel_rfl) rfl (qT 0 rfl (fun _ hS=>(by first|exact Lj Qd rfl LY rfl (KY.cells (n:=2) (hS.KN aV (by omega)) (news:=[_,_]) rfl) rfl|exact Lj Qd rfl LY rfl (KY.cells (n:=2) (hS.KN bP (by omega)) (news:=[_,_]) rfl) rfl)) (ae.kp) ?_);refine KR 1 rfl (KT Nw rfl) (ae.kp) (qT 2 rfl (fun _ hS=>(by first|exact KS Li rfl rfl (hS.KN aV (by omega)) rfl|exact KS Li rfl rfl (hS.KN bP (by omega)) rfl)) (ae.kp) ?_);refine KR 3 rfl (LM Li rfl) (ae.kp) (KR 4 rfl (LU rfl rfl) (ae.kp) (OL (KR 5 rfl (KW rfl) (ae.kp) (KR 6 rfl (KT Nw rfl) (ae.kp) (qT 7 rfl (fun _ hS=>(by first|exact KS Li rfl rfl (hS.KN aV (by omega)) rfl|exact KS Li rfl rfl (hS.KN bP (by omega)) rfl)) (ae.kp) ?_)))));refine KR 8 rfl (LM Li rfl) (ae.kp) (KR 9 rfl (KT OD rfl) (ae.kp) (qT 10 rfl (fun _ hS=>(by first|exact KS U3 rfl rfl (hS.KN aV (by omega)) rfl|exact KS U3 rfl rfl (hS.KN bP (by omega)) rfl)) (ae.kp) ?_));refine KR 11 rfl (Qv rfl rfl) (ae.kp) (OL (KR 12 rfl (LR rfl rfl) (ae.kp) (KR 13 rfl (KW rfl) (ae.kp) (KR 14 rfl (KW rfl) (ae.kp) (KR 15 rfl (LU rfl rfl) (ae.kp) (OL (KR 16 rfl (LR rfl rfl) (ae.kp) (KR 17 rfl (KW rfl) (ae.kp) (KR 18 rfl (KW rfl) (ae.kp) (KR 19 rfl (KT OD rfl) (ae.kp) (qT 20 rfl (fun _ hS=>(by first|exact KS U3 rfl rfl (hS.KN aV (by omega)) rfl|exact KS U3 rfl rfl (hS.KN bP (by omega)) rfl)) (ae.kp) ?_)))))))))));refine KR 21 rfl (Qv rfl rfl) (ae.kp) (OL (KR 22 rfl (LR rfl rfl) (ae.kp) (KR 23 rfl (KW rfl) (ae.kp) (KR 24 rfl (KT Y0 rfl) (ae.kp) (qT 25 rfl (fun _ hS=>(by first|exact KS U3 rfl rfl (hS.KN aV (by omega)) rfl|exact KS U3 rfl rfl (hS.KN bP (by omega)) rfl)) (ae.kp) ?_)))));refine KR 26 rfl (KT TU rfl) (ae.kp) (qT 27 rfl (fun _ hS=>(by first|exact KS U3 rfl rfl (hS.KN aV (by omega)) rfl|exact KS U3 rfl rfl (hS.KN bP (by omega)) rfl)) (ae.kp) ?_);refine KR 28 rfl (LX rfl rfl) (ae.kp) (PA (KR 29 rfl (LR rfl rfl) (ae.kp) (qO 30 (Lv (i:=30) rfl rfl (Lz (news:=[.slice a m cp,I (c:Int)]) LY rfl rfl rfl rfl (ae.KN eh) (by simp)) ?_))));rintro w5 ⟨bD,aj⟩;refine⟨ae.kp.trans aj,?_⟩;replace bD:KY w5 b8 [.slice a m cp,I (c:Int)] 250:=bD;refine KR 31 rfl (MO rfl) (ae.kp.trans aj) (qE (Ll.qb (e:=[(8,_),(9,_)]) ?_));refine Lh Tryz.func138 (.cell Qd rfl LY rfl (KY.cells (n:=2) bD (news:=[_,_]) rfl) rfl (.tmp rfl .nil)) ?_;have av:OY p m size c=false:=decide_eq_false (fun h=>by omega);rw[av];exact⟨_,rfl,rfl,((aC.trans dl).trans ae).KK aj (fun i e=>by omega)⟩
abbrev z2o:List (Value×Nat):=List.replicate 17 (.slice none 0 0,0)
theorem z2R (p:LW)(hp:p.M3)(w:World):Lk Tryz.prog 96 [bpV p] w fun u w'=>∃k wp F,u= .tuple #[ptr k 0,I 0]/\KY w' k (Sn p z2o 0 wp 0) 255/\Tv w' wp [] F/\¬F k/\Ext w w'/\w.heap.size<=k/\∀i,F i->w.heap.size<=i:=by
 refine KJ (e:=[(0,_)]) Tryz.func96 rfl Tryz.ntmps96 rfl rfl (qN rfl (KU rfl rfl (MH rfl (cs:=Qf p) rfl) ?_))
 rintro _ w1 ⟨b1,rfl,bS,ad,ai⟩
 have z1:=ad.size
 refine KO rfl (KO rfl (py (run_seq (qN rfl (qV (Lj (news:=Qf p) VA rfl MP rfl (ai.cells (n:=5) rfl) rfl) (La [.tmp 5] z7W rfl (Ur p hp w1) ?_))))))
 rintro _ w2 ⟨rfl,af⟩
 have z2:=af.size
 have hg:=Ext.Lb w2
 refine KO rfl (qM rfl (An rfl (qV (M0 rfl rfl) (py (KH rfl (It (run_seq (KV (fun w'=>Ext w2 w') (by kernel_rfl) rfl (qT 0 rfl (fun _ hS=>Lj (news:=Qf p) VA rfl MP rfl ((hS.KN (af.KN ai)).cells (n:=5) rfl) rfl) hg (O2 1 [] rfl Vf rfl (PD _) ?_))))))))))
 rintro _ w3 ⟨wp,F,rfl,kX,ah,oT⟩
 refine⟨hg.trans ah,?_⟩
 have dO:=hg.trans ah
 have z3:=dO.size
 refine KR 2 rfl (NA (parts:=[(0,.tmp 10),(2,.tmp 11)]) zbe rfl zb6 rfl rfl) (hg.trans ah) (qO 3 (Um (i:=3) rfl rfl rfl (MH rfl (cs:=Sn p z2o 0 wp 0) rfl) ?_))
 rintro _ w4 ⟨k,rfl,hk,aB,aJ⟩
 refine⟨dO.trans aB,?_⟩
 refine KR 4 rfl (MO rfl) (dO.trans aB) (KR 5 rfl (MO rfl) (dO.trans aB) (qE (KP Tryz.func96 rfl ?_)))
 exact⟨_,rfl,k,wp,F,rfl,aJ,kX.ext aB,fun e=>by have:=kX.lt e;omega,((ad.trans af).trans dO).trans aB,by omega,fun i hi=>by have:=oT i hi;have:=hg.size;omega⟩
structure PkM (w:World)(k:Nat)(p:LW)(L:List (List Nat))(E:List (Nat×Nat))(bs:List Bool)(F:Nat->Prop)(R:List (Value×Nat))(wp ed:Nat):Prop where
 KN:KY w k (Sn p R L.length wp ed) 255
 len:R.length=17
 wr:Tv w wp bs F
 nk:¬F k
 el:E.length=L.length
 ok:∀l∈L,Lt l
 ring:∀j l e,L[j]? =some l->E[j]? =some e->L.length<=j+17->∃a cp,R[j%17]? =some (.slice a l.length cp,e.2)/\l.length<=cp/\Sl w (.slice a l.length cp) 46 1 l.length (l.map Lp)/\(∀g,(Value.slice a l.length cp).ownBlock=some g->¬F g/\g≠k)
theorem PkM.ext {w w':World}{k:Nat}{p:LW}{L:List (List Nat)}{E:List (Nat×Nat)}{bs:List Bool}{F:Nat->Prop}{R:List (Value×Nat)}{wp ed:Nat}(h:PkM w k p L E bs F R wp ed)(hx:Ext w w'):PkM w' k p L E bs F R wp ed:=
 ⟨hx.KN h.KN,h.len,h.wr.ext hx,h.nk,h.el,h.ok,fun j l e h1 h2 h3=>by
  obtain⟨a,cp,g1,g2,g3,g4⟩:=h.ring j l e h1 h2 h3
  exact⟨a,cp,g1,g2,g3.ext hx,g4⟩⟩
def Found (p:LW)(L:List (List Nat))(E:List (Nat×Nat))(R:List (Value×Nat))(size ref:Nat)(v:Value)(c:Nat):Prop:=
 (ref=0/\v= .slice none 0 0/\c=0)\/(1<=ref/\ref<=p.Lf/\ref<=L.length/\R[(L.length-ref)%17]? =some (v,c)/\∃l e,L[L.length-ref]? =some l/\E[L.length-ref]? =some e/\c=e.2/\OY p l.length size e.2=true)
structure AdM (w:World)(k b2 b3 b7 b8 b4 b9:Nat)(a:Option Addr)(m cp n least ref:Nat)(v:Value)(c:Nat):Prop where
 c2:KY w b2 [ptr k 0] 197
 c3:KY w b3 [.slice a m cp] 45
 c7:KY w b7 [I (n:Int)] 3
 c8:KY w b8 [I (least:Int)] 3
 c4:KY w b4 [I (ref:Int)] 3
 c9:KY w b9 [v,I (c:Int)] 250
theorem AdM.kp {S:Nat->Prop}{w w':World}{k b2 b3 b7 b8 b4 b9:Nat}{a:Option Addr}{m cp n least ref:Nat}{v:Value}{c:Nat}(h:AdM w k b2 b3 b7 b8 b4 b9 a m cp n least ref v c)(hk:Kp S w w')(hn:∀i,S i->i≠b2/\i≠b3/\i≠b7/\i≠b8/\i≠b4/\i≠b9):AdM w' k b2 b3 b7 b8 b4 b9 a m cp n least ref v c:=
 ⟨hk.KN h.c2 (fun e=>(hn _ e).1 rfl),hk.KN h.c3 (fun e=>(hn _ e).2.1 rfl),hk.KN h.c7 (fun e=>(hn _ e).2.2.1 rfl),hk.KN h.c8 (fun e=>(hn _ e).2.2.2.1 rfl),hk.KN h.c4 (fun e=>(hn _ e).2.2.2.2.1 rfl),hk.KN h.c9 (fun e=>(hn _ e).2.2.2.2.2 rfl)⟩
theorem AdM.ext {w w':World}{k b2 b3 b7 b8 b4 b9:Nat}{a:Option Addr}{m cp n least ref:Nat}{v:Value}{c:Nat}(h:AdM w k b2 b3 b7 b8 b4 b9 a m cp n least ref v c)(hk:Ext w w'):AdM w' k b2 b3 b7 b8 b4 b9 a m cp n least ref v c:=h.kp (S:=fun _=>False) hk.kp (fun i e=>e.elim)
theorem z7G {w:World}{k:Nat}{p:LW}(hp:p.M3){L:List (List Nat)}{E:List (Nat×Nat)}{bs:List Bool}{F:Nat->Prop}{R:List (Value×Nat)}{wp ed:Nat}(h:PkM w k p L E bs F R wp ed)(hG:KY w 1 (NM .gamma) 298)(hU:KY w 2 (NM .unary) 298)(hL:L.length<65536)
  {b2 b3 b7 b8 b4 b9:Nat} {a:Option Addr} {cp least ref:Nat} {v:Value} {c:Nat} {succ:List Nat} (hs:Lt succ) (ko:succ.length<=cp) (dV:Rd w (.slice a succ.length cp) 1 succ.length (succ.map Lp)) (hA:AdM w k b2 b3 b7 b8 b4 b9 a succ.length cp L.length least ref v c) (hF:Found p L E R succ.length ref v c)
  (hd:b8≠b2/\b8≠b3/\b8≠b7/\b4≠b2/\b4≠b3/\b4≠b7/\b9≠b2/\b9≠b3/\b9≠b7/\b8≠b4/\b8≠b9/\b4≠b9) (r:Nat) (h1:1<=r) (h2:r<=p.Lf):
  Lk Tryz.prog 137 [I (r:Int),ptr b2 0,ptr b3 0,ptr b7 0,ptr b8 0,ptr b4 0,ptr b9 0] w fun u w'=>u= .tuple #[]/\Kp (fun i=>i=b8\/i=b4\/i=b9) w w'/\∃least' ref' v' c',AdM w' k b2 b3 b7 b8 b4 b9 a succ.length cp L.length least' ref' v' c'/\Found p L E R succ.length ref' v' c':=by
 have uX:p.Lf<=16:=hp.1.1
 obtain⟨a1,c1,m1,e1,uY,H8⟩:∃a1 c1 m1 e1,(r<=L.length->R[(L.length-r)%17]? =some (.slice a1 m1 c1,e1))/\(r<=L.length->∃l e,L[L.length-r]? =some l/\E[L.length-r]? =some e/\m1=l.length/\e1=e.2/\l.length<=c1/\Sl w (.slice a1 l.length c1) 46 1 l.length (l.map Lp)):=by
  by_cases hr:r<=L.length
  ·obtain⟨l,hl⟩:∃l,L[L.length-r]? =some l:=⟨_,List.getElem?_eq_getElem (by omega)⟩;obtain⟨e,he⟩:∃e,E[L.length-r]? =some e:=⟨_,List.getElem?_eq_getElem (by have:=h.el;omega)⟩;obtain⟨a1,c1,g1,g2,g3,g4⟩:=h.ring _ l e hl he (by omega);exact⟨a1,c1,l.length,e.2,fun _=>g1,fun _=>⟨l,e,hl,he,rfl,rfl,g2,g3⟩⟩
  ·exact⟨none,0,0,0,fun e=>absurd e hr,fun e=>absurd e hr⟩
 have eM:=hA.c2
 have kZ:=hA.c3
 have hg:=Ext.Lb w
 have ld:∀{w2:World},KY w2 k (Sn p R L.length wp ed) 255->∀j u,(Qf p)[j]? =some u->w2.cell? ⟨k,0+j,none⟩=some u:=fun hB j u hj=>hB.cells (i:=0) (n:=5) (news:=Qf p) rfl j u hj
 refine KJ (e:=[(0,_),(1,_),(2,_),(3,_),(4,_),(5,_),(6,_)]) Tryz.func137 rfl Tryz.ntmps137 rfl rfl (run_seq (Lx (fun e' w'=>∃tb v1 d1 ok,e'=[(0,I (r:Int)),(1,ptr b2 0),(2,ptr b3 0),(3,ptr b7 0),(4,ptr b8 0),(5,ptr b4 0),(6,ptr b9 0),(8,ptr tb 0),(9,.bool ok)]/\Ext w w'/\w.heap.size<=tb/\KY w' tb [v1,I ((d1:Nat):Int)] 250/\(ok=true->r<=L.length/\v1= .slice a1 m1 c1/\d1=e1/\OY p m1 succ.length e1=true)) ?cq (fun cq=>?cJ)))
 case cq=>
  rintro e' w1 ⟨tb,v1,d1,ok,rfl,ad,H3,uZ,av⟩;have kh:=hA.ext ad;have o5:=kh.c2;have ma:=kh.c3;have yI:=kh.c7;have EI:=kh.c8;refine run_seq (qN rfl (An rfl (qV ((by first|exact LN rfl|exact Na rfl)) ?_)));refine py (LO rfl (fun h3=>?_) (fun h3=>?_))
  ·refine KP Tryz.func137 rfl ?_;exact⟨_,rfl,rfl,ad.kp,_,_,_,_,kh,hF⟩
  ·have B1:ok=true:=by cases ok<;>simp_all
   obtain⟨B2,rfl,rfl,fX⟩:=av B1;obtain⟨l,e,hl,he,rfl,rfl,o3,H9⟩:=H8 B2;have B3:=uY B2;have B4:Lt l:=h.ok l (List.mem_of_getElem? hl);have bj:=Ext.Lb w1;refine It (run_seq (KV (fun w'=>Ext w1 w') (by kernel_rfl) rfl (qT 0 rfl (fun _ h=>(by first|exact KS U3 rfl rfl (h.KN o5) rfl|exact KS U3 rfl rfl (h.KN ma) rfl|exact KS U3 rfl rfl (h.KN yI) rfl|exact KS U3 rfl rfl (h.KN uZ) rfl)) bj ?_)));refine qT 1 rfl (fun _ h=>(by first|exact KS Li rfl rfl (h.KN o5) rfl|exact KS Li rfl rfl (h.KN ma) rfl|exact KS Li rfl rfl (h.KN yI) rfl|exact KS Li rfl rfl (h.KN uZ) rfl)) bj ?_;refine KR 2 rfl (KT Nw rfl) bj (qT 3 rfl (fun _ h=>(by first|exact KS Li rfl rfl (h.KN o5) rfl|exact KS Li rfl rfl (h.KN ma) rfl|exact KS Li rfl rfl (h.KN yI) rfl|exact KS Li rfl rfl (h.KN uZ) rfl)) bj ?_);refine KR 4 rfl (KW rfl) bj (qT 5 rfl (fun _ h=>(by first|exact KS MZ rfl rfl (h.KN o5) rfl|exact KS MZ rfl rfl (h.KN ma) rfl|exact KS MZ rfl rfl (h.KN yI) rfl|exact KS MZ rfl rfl (h.KN uZ) rfl)) bj ?_);refine KR 6 rfl (L6 rfl) bj (KR 7 rfl (KT Ry rfl) bj (qT 8 rfl (fun _ hS=>Lj (news:=Qf p) VA rfl MP rfl (ld (hS.KN (ad.KN h.KN))) rfl) bj (O2 9 [.tmp 37] rfl VD rfl (NZ p _) ?_)));rintro _ w9 ⟨rfl,eX⟩;refine⟨bj.trans eX,?_⟩;have gu:=bj.trans eX;have fK:=ad.trans gu;refine O2 10 [.tmp 29,.tmp 30,.tmp 32,.tmp 33,.tmp 38] rfl Zb rfl (Qq p.list hp.1 L.length hL succ l hs B4 r h2 (fun e=>by omega) (fK.KN hG) (fK.KN hU) (dV.ext fK) (H9.rd.ext fK) ko o3) ?_;rintro _ w10 ⟨rfl,bz⟩;refine⟨gu.trans bz,?_⟩;have fL:=gu.trans bz;have kO:=kh.ext fL;have B5:=kO.c8;have B6:=fL.KN uZ
   generalize (Ld (MK p.list L.length succ l r)).length=nb
   refine KR 11 rfl (KW rfl) (gu.trans bz) (KR 12 rfl (Lu rfl rfl) (gu.trans bz) (KR 13 rfl (Lu rfl rfl) (gu.trans bz) (KR 14 rfl (MO rfl) (gu.trans bz) (KR 15 rfl (MO rfl) (gu.trans bz) (qE (Ll.qb (e:=[(0,_),(4,_),(5,_),(6,_),(8,_),(10,_)]) ?_))))));refine qN rfl (An rfl (qV (KS U3 rfl rfl B5 rfl) (qV (LX rfl rfl) (py (KZ rfl (fun h4=>?_) (fun h4=>?_))))))
   ·have jB:=Ext.Lb w10;have gG:=kO.ext jB;have lb8:=hA.c8.lt;have lb4:=hA.c4.lt;have lb9:=hA.c9.lt;have Ha:¬(tb=b8\/tb=b4\/tb=b9):=by omega
    refine KV (fun w'=>Kp (fun i=>i=b8\/i=b4\/i=b9) w10 w') (by kernel_rfl) rfl (KR 0 rfl (KW rfl) (jB.kp) (KR 1 rfl (KW rfl) (jB.kp) (qT 2 rfl (fun _ h=>Lj Qd rfl LY rfl (KY.cells (n:=2) (h.KN B6 Ha) (news:=[_,_]) rfl) rfl) (jB.kp) (qO 3 (Lv (i:=3) rfl rfl (Mt LG rfl rfl rfl gG.c8 (by simp)) ?_)))));rintro w11 ⟨aH,aP⟩;refine⟨jB.kp.trans (aP.L2 fun i e=> .inl e),?_⟩;have qd:Kp (fun i=>i=b8\/i=b4\/i=b9) w10 w11:=jB.kp.trans (aP.L2 fun i e=> .inl e);have Hb:=aP.KN gG.c4 (fun e=>hd.2.2.2.2.2.2.2.2.2.1 e.symm);refine qO 4 (Lv (i:=4) rfl rfl (Mt LG rfl rfl rfl Hb (by simp)) ?_);rintro w12 ⟨aZ,aU⟩;refine⟨qd.trans (aU.L2 fun i e=> .inr (.inl e)),?_⟩;have vd:Kp (fun i=>i=b8\/i=b4\/i=b9) w10 w12:=qd.trans (aU.L2 fun i e=> .inr (.inl e));have Hc:=aU.KN (aP.KN gG.c9 (fun e=>hd.2.2.2.2.2.2.2.2.2.2.1 e.symm)) (fun e=>hd.2.2.2.2.2.2.2.2.2.2.2 e.symm);refine qO 5 (Lv (i:=5) rfl rfl (Lz (news:=[.slice a1 l.length c1,I (e.2:Int)]) LY rfl rfl rfl rfl Hc (by simp)) ?_);rintro w13 ⟨dm,cz⟩;refine⟨vd.trans (cz.L2 fun i e=> .inr (.inr e)),?_⟩;replace dm:KY w13 b9 [.slice a1 l.length c1,I (e.2:Int)] 250:=dm;replace aZ:KY w12 b4 [I (r:Int)] 3:=aZ;replace aH:KY w11 b8 [I (nb:Int)] 3:=aH;refine qE (M8 Tryz.func137 rfl ?_);obtain⟨d1,d2,d3,d4,d5,d6,d7,d8,d9,d10,d11,d12⟩:=hd;have lO:∀{b:Nat} {cs:List Value} {T:TypeId},KY w10.drew b cs T->b8≠b->b4≠b->b9≠b->KY w13 b cs T:=fun hB n1 n2 n3=>cz.KN (aU.KN (aP.KN hB (fun e=>n1 e.symm)) (fun e=>n2 e.symm)) (fun e=>n3 e.symm);refine⟨_,rfl,rfl,?_,nb,r,.slice a1 l.length c1,e.2,⟨lO gG.c2 d1 d4 d7,lO gG.c3 d2 d5 d8,lO gG.c7 d3 d6 d9,cz.KN (aU.KN aH d10) d11,cz.KN aZ d12,dm⟩,.inr ⟨h1,h2,B2,B3,l,e,hl,he,rfl,fX⟩⟩;exact((ad.trans fL).trans jB).kp.trans ((aP.L2 fun i e=> .inl e).trans ((aU.L2 fun i e=> .inr (.inl e)).trans (cz.L2 fun i e=> .inr (.inr e))))
   ·refine It (M8 Tryz.func137 rfl ?_);exact⟨_,rfl,rfl,(ad.trans fL).kp,_,_,_,_,kO,hF⟩
 case cJ=>
  rcases Nat.lt_or_ge L.length r with aO|jk
  ·have ar:=hg;refine Le [15] (fun w'=>Ext w w') (by kernel_rfl) rfl (qL [1,2,10,11,12,13,15,16] 0 rfl (fun _ h=>(by first|exact KS MZ rfl rfl (h.KN eM) rfl|exact KS MZ rfl rfl (h.KN kZ) rfl)) ar ?_);refine qL [2,10,11,12,13,15,16] 1 rfl (fun _ h=>L6 rfl) ar (qL [10,11,12,13,15,16] 2 rfl (fun _ h=>KT SZ rfl) ar (qL [10,11,12,13,15,16] 3 rfl (fun _ h=>KW rfl) ar (qL [5,10,11,12,13,15,16] 4 rfl (fun _ h=>(by first|exact KS Li rfl rfl (h.KN eM) rfl|exact KS Li rfl rfl (h.KN kZ) rfl)) ar ?_)));refine qL [10,11,12,13,15,16] 5 rfl (fun _ h=>LM Li rfl) ar (qL [7,8,9,10,11,12,13,15,16] 6 rfl (fun _ h=>(by first|exact KS MZ rfl rfl (h.KN eM) rfl|exact KS MZ rfl rfl (h.KN kZ) rfl)) ar ?_);refine qL [8,9,10,11,12,13,15,16] 7 rfl (fun _ h=>L6 rfl) ar (qL [9,10,11,12,13,15,16] 8 rfl (fun _ h=>KT Ry rfl) ar (qL [10,11,12,13,15,16] 9 rfl (fun _ hS=>Lj (news:=Qf p) VA rfl MP rfl (ld (hS.KN h.KN)) rfl) ar (S8 (i:=10) (j:=14) (by kernel_rfl) ?_ ?_)))
   ·refine N6 (i:=10) rfl rfl rfl (yc (args:=[.tmp 15,.tmp 16,.tmp 18,.tmp 22]) z2h rfl) (RM (ar.KN h.KN) h.len (by omega) hp r succ.length h1 h2 uY) ?_;rintro _ w10 ⟨kL,bz⟩;refine⟨ar.trans bz,?_⟩;rw[if_neg (by omega)] at kL;subst kL
    try have cW:=bz.KN cW
    have ar:=ar.trans bz;refine qL [12,13,15,16] 11 rfl (fun _ h=>KW rfl) ar (qL [15,16] 12 rfl (fun _ h=>Lu rfl rfl) ar (LP (i:=13) rfl (by kernel_rfl) rfl rfl (fun _=>Lu rfl rfl) ar (MB (i:=14) (by kernel_rfl) (LZ (i:=14) rfl rfl rfl (N3 (cs:=[_,_]) LY rfl) ?_))));rintro _ w14 ⟨tb,rfl,mG,ek,cW⟩;refine⟨ar.trans ek,?_⟩;have jC:w.heap.size<=tb:=by have:=ar.size;omega
    have ar:=ar.trans ek;refine LD [15] (by kernel_rfl) (by kernel_rfl) (qO 15 (Lv (i:=15) rfl rfl (Lz (news:=[.slice none 0 0,I ((0:Nat):Int)]) LY rfl rfl rfl rfl cW (by simp)) ?_));rintro w15 ⟨dB,jD⟩;refine⟨trivial,?_⟩;refine KR 16 rfl (MO rfl) trivial (qE ?_);exact(cq _ _ ⟨tb,.slice none 0 0,0,false,rfl,ar.KK jD (fun i e=>by omega),jC,dB,fun e=>by cases e⟩).qb
   ·refine LZ (i:=14) rfl rfl rfl (N3 (cs:=[_,_]) LY rfl) ?_;rintro _ w14 ⟨tb,rfl,mG,ek,cW⟩;refine⟨ar.trans ek,?_⟩;have jC:w.heap.size<=tb:=by have:=ar.size;omega
    have ar:=ar.trans ek;refine MB (i:=10) (by kernel_rfl) (N6 (i:=10) rfl rfl rfl (yc (args:=[.tmp 15,.tmp 16,.tmp 18,.tmp 22]) z2h rfl) (RM (ar.KN h.KN) h.len (by omega) hp r succ.length h1 h2 uY) ?_);rintro _ w10 ⟨kL,bz⟩;refine⟨ar.trans bz,?_⟩;rw[if_neg (by omega)] at kL;subst kL
    try have cW:=bz.KN cW
    have ar:=ar.trans bz;refine qL [12,13,15,16] 11 rfl (fun _ h=>KW rfl) ar (qL [15,16] 12 rfl (fun _ h=>Lu rfl rfl) ar (LP (i:=13) rfl (by kernel_rfl) rfl rfl (fun _=>Lu rfl rfl) ar (LD [15] (by kernel_rfl) (by kernel_rfl) (qO 15 (Lv (i:=15) rfl rfl (Lz (news:=[.slice none 0 0,I ((0:Nat):Int)]) LY rfl rfl rfl rfl cW (by simp)) ?_)))));rintro w15 ⟨dB,jD⟩;refine⟨trivial,?_⟩;refine KR 16 rfl (MO rfl) trivial (qE ?_);exact(cq _ _ ⟨tb,.slice none 0 0,0,false,rfl,ar.KK jD (fun i e=>by omega),jC,dB,fun e=>by cases e⟩).qb
  ·have ar:=hg;refine Le [15] (fun w'=>Ext w w') (by kernel_rfl) rfl (qL [1,2,10,11,12,13,15,16] 0 rfl (fun _ h=>(by first|exact KS MZ rfl rfl (h.KN eM) rfl|exact KS MZ rfl rfl (h.KN kZ) rfl)) ar ?_);refine qL [2,10,11,12,13,15,16] 1 rfl (fun _ h=>L6 rfl) ar (qL [10,11,12,13,15,16] 2 rfl (fun _ h=>KT SZ rfl) ar (qL [10,11,12,13,15,16] 3 rfl (fun _ h=>KW rfl) ar (qL [5,10,11,12,13,15,16] 4 rfl (fun _ h=>(by first|exact KS Li rfl rfl (h.KN eM) rfl|exact KS Li rfl rfl (h.KN kZ) rfl)) ar ?_)));refine qL [10,11,12,13,15,16] 5 rfl (fun _ h=>LM Li rfl) ar (qL [7,8,9,10,11,12,13,15,16] 6 rfl (fun _ h=>(by first|exact KS MZ rfl rfl (h.KN eM) rfl|exact KS MZ rfl rfl (h.KN kZ) rfl)) ar ?_);refine qL [8,9,10,11,12,13,15,16] 7 rfl (fun _ h=>L6 rfl) ar (qL [9,10,11,12,13,15,16] 8 rfl (fun _ h=>KT Ry rfl) ar (qL [10,11,12,13,15,16] 9 rfl (fun _ hS=>Lj (news:=Qf p) VA rfl MP rfl (ld (hS.KN h.KN)) rfl) ar (S8 (i:=10) (j:=14) (by kernel_rfl) ?_ ?_)))
   ·refine N6 (i:=10) rfl rfl rfl (yc (args:=[.tmp 15,.tmp 16,.tmp 18,.tmp 22]) z2h rfl) (RM (ar.KN h.KN) h.len (by omega) hp r succ.length h1 h2 uY) ?_;rintro _ w10 ⟨kL,bz⟩;refine⟨ar.trans bz,?_⟩;rw[if_pos jk] at kL;subst kL
    try have cW:=bz.KN cW
    have ar:=ar.trans bz;refine qL [12,13,15,16] 11 rfl (fun _ h=>KW rfl) ar (qL [15,16] 12 rfl (fun _ h=>Lu rfl rfl) ar (LP (i:=13) rfl (by kernel_rfl) rfl rfl (fun _=>Lu rfl rfl) ar (MB (i:=14) (by kernel_rfl) (LZ (i:=14) rfl rfl rfl (N3 (cs:=[_,_]) LY rfl) ?_))));rintro _ w14 ⟨tb,rfl,mG,ek,cW⟩;refine⟨ar.trans ek,?_⟩;have jC:w.heap.size<=tb:=by have:=ar.size;omega
    have ar:=ar.trans ek;refine LD [15] (by kernel_rfl) (by kernel_rfl) (qO 15 (Lv (i:=15) rfl rfl (Lz (news:=[.slice a1 m1 c1,I ((e1:Nat):Int)]) LY rfl rfl rfl rfl cW (by simp)) ?_));rintro w15 ⟨dB,jD⟩;refine⟨trivial,?_⟩;refine KR 16 rfl (MO rfl) trivial (qE ?_);exact(cq _ _ ⟨tb,.slice a1 m1 c1,e1,OY p m1 succ.length e1,rfl,ar.KK jD (fun i e=>by omega),jC,dB,fun e=>⟨jk,rfl,rfl,e⟩⟩).qb
   ·refine LZ (i:=14) rfl rfl rfl (N3 (cs:=[_,_]) LY rfl) ?_;rintro _ w14 ⟨tb,rfl,mG,ek,cW⟩;refine⟨ar.trans ek,?_⟩;have jC:w.heap.size<=tb:=by have:=ar.size;omega
    have ar:=ar.trans ek;refine MB (i:=10) (by kernel_rfl) (N6 (i:=10) rfl rfl rfl (yc (args:=[.tmp 15,.tmp 16,.tmp 18,.tmp 22]) z2h rfl) (RM (ar.KN h.KN) h.len (by omega) hp r succ.length h1 h2 uY) ?_);rintro _ w10 ⟨kL,bz⟩;refine⟨ar.trans bz,?_⟩;rw[if_pos jk] at kL;subst kL
    try have cW:=bz.KN cW
    have ar:=ar.trans bz;refine qL [12,13,15,16] 11 rfl (fun _ h=>KW rfl) ar (qL [15,16] 12 rfl (fun _ h=>Lu rfl rfl) ar (LP (i:=13) rfl (by kernel_rfl) rfl rfl (fun _=>Lu rfl rfl) ar (LD [15] (by kernel_rfl) (by kernel_rfl) (qO 15 (Lv (i:=15) rfl rfl (Lz (news:=[.slice a1 m1 c1,I ((e1:Nat):Int)]) LY rfl rfl rfl rfl cW (by simp)) ?_)))));rintro w15 ⟨dB,jD⟩;refine⟨trivial,?_⟩;refine KR 16 rfl (MO rfl) trivial (qE ?_);exact(cq _ _ ⟨tb,.slice a1 m1 c1,e1,OY p m1 succ.length e1,rfl,ar.KK jD (fun i e=>by omega),jC,dB,fun e=>⟨jk,rfl,rfl,e⟩⟩).qb
end Go.Proofs.YtpldpcjdjcgicaaGreatDoor
