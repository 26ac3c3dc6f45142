/- Merged by program. -/
import Derived.Test.YtfgjaafcgghnoaaGreatDoorCNp7
set_option linter.all false
set_option maxRecDepth 1000000
set_option maxHeartbeats 16000000
namespace Go.Proofs.YtfgjaafcgghnoaaGreatDoor
open Go Go.RowKit
section
variable {w w':World}{Q:NI}{txt:Int->Bytes}{K:Nat}{X:Nat->Prop}{vb width st each n:Nat}{xs:List Nat}
theorem z0b (hP:Sp Q txt K X w)(hX:∀b,X b->b<w.heap.size)(hK:K<=900000000000)(hv:Ts Q txt vb width st xs w)(ew:X vb){f:Nat}(oD:CF Tryz.prog f)(caps:List Value)(Lg:Nat->Bytes)(aD:∀b,(Lg b).length<=512)
  (hf:∀(b:Nat) (w1:World),b<RJ xs.length (512 / width)->Kp (λb=>¬X b) w w1->LP Tryz.prog f ([I (b:Int)]++caps) w1 λv w2=>v=S (Lg b)/\Ext w1 w2):
  LP Tryz.prog 80 [ptr vb 0,.func (.func f) #[] caps.toArray] w λv w'=>v=I 0/\∃txt',Sp Q txt' (K+RJ xs.length (512 / width)) X w'/\Kp (λb=>¬X b) w w'/\(∀b,b<RJ xs.length (512 / width)->txt' ((st+b:Nat):Int)=Lg b++zeros (512-(Lg b).length))/\(∀y:Int,y<(st:Int)\/(st:Int)+(RJ xs.length (512 / width):Int)<=y->txt' y=txt y):=by
 have ev:maxLen=9223372036854775807:=rfl
 have eu:=hP.n
 have hB:=hv.cells
 have ct:=hv.fit
 have iF:=hv.n
 obtain⟨e1,e2,e3,e4,e5⟩:=hv.e
 have vX:=U7 xs.length width (512 / width) ⟨by omega,e2⟩ iF w
 obtain⟨N,hN⟩:∃N,RJ xs.length (512 / width)=N:=⟨_,rfl⟩
 rw[hN] at hB ct vX hf⊢
 refine Lb (e:=[(0,_),(1,_)]) Tryz.func80 O Tryz.ntmps80 O O$ qN O$ Lk O$ run_seq$ qN O$ Le O$ LU O$ Lt NO O$ qV (LM z4w O TC O (Lq.cells (n:=3) hB (news:=[_,_,_]) O) O)$ LD zdN O (vX) ?_
 rintro _ w1 ⟨rfl,ad⟩
 refine Le O$ Lf$ Lc$ Nj (α:=Nat) (0) (λk=>[(0,ptr vb 0),(1,.func (.func f) #[] caps.toArray),(12,I (N:Int)),(13,I (k:Int))]) (λk w'=>k<=N/\Kp (λb=>¬X b) w w'/\∃txt',Sp Q txt' (K+k) X w'/\(∀b,b<k->txt' ((st+b:Nat):Int)=Lg b++zeros (512-(Lg b).length))/\(∀y:Int,y<(st:Int)\/(st:Int)+(k:Int)<=y->txt' y=txt y)) (λk=>N-k) ?hI ?hround
 case hI=>exact⟨Nat.zero_le _,ad.kp,txt,hP.ext' ad,λb hb=>by omega,λy _=>rfl⟩
 case hround=>
  rintro k w2 ⟨hk,ao,txt2,eZ,FW,ni⟩ ih;have am:=ao.Lg hB (λe=>e ew)
  try dsimp only
  refine qN O$ Mw O O$ Lf$ run_seq$ Lp O (λh0=>?_)$ λh0=>?_
  ·have DG:k<N:=by omega
   refine py$ run_seq$ Lc$ qN O$ Le O$ Lw O$ qM O$ Lu O O$ MK O O (NW oD O O) (hf k w2 DG ao) ?_;rintro _ w3 ⟨rfl,ah⟩;have aq:=ah.Lg am;have gu:=eZ.ext' ah;have ae:=Ext.LC w3;have hl:=aD k;have cA:=ao.trans ah.kp;obtain⟨t,ht⟩:∃t,Lg k=t:=⟨_,rfl⟩;rw[ht] at hl⊢;have hz:(zeros (512-t.length)).length=512-t.length:=by simp[zeros]
   have cF:=gu.size;have xM:∀w4,Ext w3 w4->LP Tryz.prog 56 [ptr Q.s 0] w4 λv w'=>v=I 512/\w'=w4:=λw4 hx=>(gu.ext' hx).size;refine Lk O$ run_seq$ N7 (λw'=>Kp (λb=>¬X b) w3 w') O$ LA 0 O O (ae.kp)$ Ll 1 O (Mo O) (ae.kp)$ Ll 2 O (LV SB O) (ae.kp)$ qT 3 O (λ_ h=>Lj SJ O O (h.Lg aq (λe=>e ew)) O) (ae.kp)$ LA 4 O O (ae.kp)$ Ll 5 O (Mo O) (ae.kp)$ Ll 6 O (LV VZ O) (ae.kp)$ Ll 7 O (LV MV O) (ae.kp)$ qT 8 O (λ_ h=>Lj U3 O O (h.Lg aq (λe=>e ew)) O) (ae.kp)$ LA 9 O O (ae.kp)$ Ll 10 O (Qu O O (by omega)) (ae.kp) ?_;refine LA 11 O O (ae.kp)$ LA 12 O O (ae.kp)$ Ll 13 O (Mo O) (ae.kp)$ Ll 14 O (LV SB O) (ae.kp)$ qT 15 O (λ_ h=>Lj SJ O O (h.Lg aq (λe=>e ew)) O) (ae.kp)$ LA 17 O O (ae.kp)$ Ll 18 O (RK U9 O) (ae.kp)$ OA 16 O z0i O (xM _ ae) ?_;rintro _ w4 ⟨rfl,rfl⟩;refine⟨ae.kp,?_⟩;refine Ll 19 O (SR O O (by omega)) (ae.kp) ?_;rw[show(512:Int)-(t.length:Int)=((512-t.length:Nat):Int) by omega];refine qO 20$ NY (i:=20) O O O (pmk (c:=512-t.length) (n:=512-t.length) Mz Tq O O O (by omega) (by omega) (by omega)) ?_;rintro _ w4 ⟨b4,rfl,⟨gn,ay,aF⟩,-⟩;refine⟨ae.kp.trans ay.kp,?_⟩;have cx:=ae.trans ay;refine qO 21$ zbY (i:=21) O O O (z3I (l:=zeros (512-t.length)) Mz U5 U9 O aF (Vu _) hz) (cx.kp)$ Ll 22 O (Ua O O (by rw[hz];omega)) (cx.kp) ?_;have pA:(t++zeros (512-t.length)).length=512:=by rw[List.length_append,hz];omega
   rw[show(st:Int)+(k:Int)=((st+k:Nat):Int) by omega];refine OA 23 O zaO O ((gu.ext' cx).write (λb hb=>by have:=hX b hb;have:=cA.size;have:=cx.size;omega) (by omega) (no:=((st+k:Nat):Int)) (by omega) (by omega) _ pA) ?_;rintro _ w5 ⟨rfl,gS,ak⟩;refine⟨cx.kp.trans ak,?_⟩;have j6:Kp (λb=>¬X b) w3 w5:=cx.kp.trans ak;refine Ll 24 O (Ni O) (cx.kp.trans ak)$ qE$ qN O$ Le O$ Mu O O$ Lf$ An O$ py$ Ld$ Li O$ Mb O O$ Le O$ Lf ((ih (k+1) w5 ⟨by omega,cA.trans j6,_,gS,λb hb=>?_,λy hy=>?_⟩ (by omega)).qb)
   ·by_cases e:b=k
    ·subst e;rw[NU,ht];rfl
    ·rw[Nn _ _ (by omega)];exact FW b (by omega)
   ·rw[Nn _ _ (by omega)];exact ni y (by omega)
  ·have DG:k=N:=by omega
   subst DG;refine Ln O$ qN O$ Lk O$ Lh Tryz.func80 O ?_;exact⟨_,rfl,rfl,txt2,eZ,ao,FW,ni⟩
theorem ZA (l:Bytes):∀n,((List.replicate n l).flatten).length=n*l.length
 |0=>by simp
 |n+1=>by rw[List.replicate_succ,List.flatten_cons,List.length_append,ZA l n,Nat.add_mul];omega
theorem ZN {bf:Nat}{s:Bytes}(b:Nat)(hB:Lq w bf [S s] 9):LP Tryz.prog 102 ([I (b:Int)]++[ptr bf 0]) w λv w2=>v=S s/\Ext w w2:=by
 show LP _ _ [I (b:Int),ptr bf 0] _ _
 refine Lb (e:=[(0,_),(1,_)]) Tryz.func102 O Tryz.ntmps102 O O$ qN O$ Lw O$ qM O$ qV (Lj U9 O O hB O)$ Lk O$ Lh Tryz.func102 O ?_
 exact⟨_,rfl,rfl,Ext.refl _⟩
theorem z1P (hP:Sp Q txt K X w)(hX:∀b,X b->b<w.heap.size)(hK:K<=900000000000)(hv:Ts Q txt vb width st xs w)(ew:X vb){x:Nat}(hx:x<2^(8*width)):
  LP Tryz.prog 64 [ptr vb 0,Ly x] w λv w'=>v=I 0/\VcW Q txt (K+RJ xs.length (512 / width)) X vb width st (List.replicate xs.length x) w w':=by
 have hB:=hv.cells
 have iF:=hv.n
 obtain⟨e1,e2,e3,e4,e5⟩:=hv.e
 have lX:x<18446744073709551616:=by
  have:=Nat.pow_le_pow_right (show 0<2 by decide) (show 8*width<=64 by omega);omega
 have eT:=Mi width x
 have lz:(List.replicate (512 / width) (QU width x)).flatten.length=512:=by
  rw[ZA,eT];exact e3
 refine Lb (e:=[(0,_),(1,_)]) Tryz.func64 O Tryz.ntmps64 O O$ qN O$ Lk O$ run_seq$ qN O$ Le O$ LD z7w O (PD hv) ?_
 rintro _ w ⟨rfl,rfl⟩
 refine Lw O$ qM O$ Le O$ Mu O O$ Lf$ An O$ py$ run_seq$ qN O$ Le O$ LU O$ Lt NO O$ qV (LM z4w O TC O (Lq.cells (n:=3) hB (news:=[_,_,_]) O) O)$ Le O ?_
 refine LD zba O (WU xs.length width (512 / width) x hv.wd hx w) ?_
 rintro _ w1 ⟨rfl,ad⟩
 have ai:=ad.Lg hB
 have aJ:=Ext.LC w1
 refine qV ((by first|exact Mh O|exact NL O)) ?_
 refine Lf$ An O$ py$ run_seq$ M6 (λe' w'=>∃bf,e'=[(0,ptr vb 0),(6,ptr bf 0)]/\Lq w' bf [S (List.replicate (512 / width) (QU width x)).flatten] 9/\Ext w1 w'/\w1.heap.size<=bf) ?cD$ λcD=>?cQ
 case cD=>
  rintro e' w2 ⟨bf,rfl,da,ag,DH⟩;have aG:=ad.trans ag;have m5:=ad.size;have eZ:Sp Q txt K (λb=>X b\/b=bf) w2:=hP.ext aG (λb e=>e.imp id λe=>by omega);have lbf:=da.lt;have hw:=z0b eZ (λb hb=>by rcases hb with e|e;(have:=hX b e;have:=aG.size;omega);omega) hK (hv.ext aG) (.inl ew) zb1 [ptr bf 0] (λ_=>(List.replicate (512 / width) (QU width x)).flatten) (λ_=>by rw[lz];omega) (λb w3 _ ax=>ZN b (ax.Lg da (λe=>e (.inr O))));refine qN O$ Le O$ qV (Z9 (first:=[]) (caps:=[.tmp 6]) O O)$ LD zfR O (hw) ?_;rintro _ w3 ⟨rfl,txt3,gu,ax,pe,Ja⟩;refine Lk O$ Lh Tryz.func64 O ?_;have df:Kp (λb=>¬X b) w1 w3:=ag.kp.trans (ax.Lv λb e e2=>e (.inl e2));have gR:(List.replicate xs.length x).length=xs.length:=List.length_replicate;refine⟨_,rfl,rfl,txt3,gu.less (λb e=> .inl e),⟨?_,hv.wd,VcT.fill hx (by omega) (λi hi=>?_),by rw[gR];exact iF,by rw[gR];exact hv.fit⟩,λy hy=>Ja y (by rw[gR] at hy;exact hy),ad.kp.trans df⟩
  ·rw[gR];exact(ad.kp.trans df).Lg hB (λe=>e ew)
  ·have sQ:=z2a (each:=512 / width) (by omega) hi;exact⟨_,pe _ sQ⟩
 case cQ=>
  have aj:=aJ;have bu:=aj.size;refine LH [13] (λw'=>Ext w1 w') (by kernel_rfl) O$ qL [1,2,3,5,11,13] 0 O (λ_ h=>M0 O) aj$ qL [2,3,5,11,13] 1 O (λ_ h=>Mo O) aj$ qL [3,5,11,13] 2 O (λ_ h=>LV NO O) aj$ qL [5,11,13] 3 O (λ_ h=>LM z4w O TC O (Lq.cells (n:=3) (h.Lg ai) (news:=[_,_,_]) O) O) aj$ qL [5,11,13] 4 O (λ_ h=>M0 O) aj$ qL [7,8,9,10,11,13] 6 O (λ_ h=>M0 O) aj$ qL [8,9,10,11,13] 7 O (λ_ h=>Mo O) aj$ qL [9,10,11,13] 8 O (λ_ h=>LV NO O) aj$ qL [10,11,13] 9 O (λ_ h=>LV TF O) aj$ qL [11,13] 10 O (λ_ h=>Lj U3 O O (h.Lg ai) O) aj$ SL (i:=5) (j:=12) (by kernel_rfl) ?_ ?_
  ·refine ND (i:=5) O O O (yc zat O) (Tn _ _ _ x e5 lX _) ?_;rintro _ w5 ⟨rfl,aX⟩;refine⟨aj.trans aX,?_⟩;have aj:=aj.trans aX
   try have bz:=aX.Lg bz
   have bu:=Nat.le_trans bu aX.size;refine SL (i:=11) (j:=12) (by kernel_rfl) ?_ ?_
   ·refine ND (i:=11) O O O (yc z6W O) (Uv (QU width x) (512 / width) (by omega) (by omega) _) ?_;rintro _ w11 ⟨rfl,aQ⟩;refine⟨aj.trans aQ,?_⟩;have aj:=aj.trans aQ
    try have bz:=aQ.Lg bz
    have bu:=Nat.le_trans bu aQ.size;refine N4 (i:=12) (by kernel_rfl)$ Ms (i:=12) O O O (NJ (cs:=[_]) XB O) ?_;rintro _ w12 ⟨bf,rfl,DH,aA,bz⟩;refine⟨aj.trans aA,?_⟩;have aj:=aj.trans aA;have nH:w1.heap.size<=bf:=by omega
    have bu:=Nat.le_trans bu aA.size;refine OY [13]$ qO 13$ M1 (i:=13) O O (MY XB O O O bz (by simp)) ?_;rintro w13 ⟨dp,df⟩;refine⟨trivial,?_⟩;refine qE$ LS.qb (e:=[(0,_),(4,_),(6,_)]) ?_;exact(cD _ _ ⟨bf,rfl,dp,aj.It df (λj e=>by omega),nH⟩).qb
   ·refine Ms (i:=12) O O O (NJ (cs:=[_]) XB O) ?_;rintro _ w12 ⟨bf,rfl,DH,aA,bz⟩;refine⟨aj.trans aA,?_⟩;have aj:=aj.trans aA;have nH:w1.heap.size<=bf:=by omega
    have bu:=Nat.le_trans bu aA.size;refine N4 (i:=11) (by kernel_rfl)$ ND (i:=11) O O O (yc z6W O) (Uv (QU width x) (512 / width) (by omega) (by omega) _) ?_;rintro _ w11 ⟨rfl,aQ⟩;refine⟨aj.trans aQ,?_⟩;have aj:=aj.trans aQ
    try have bz:=aQ.Lg bz
    have bu:=Nat.le_trans bu aQ.size;refine OY [13]$ qO 13$ M1 (i:=13) O O (MY XB O O O bz (by simp)) ?_;rintro w13 ⟨dp,df⟩;refine⟨trivial,?_⟩;refine qE$ LS.qb (e:=[(0,_),(4,_),(6,_)]) ?_;exact(cD _ _ ⟨bf,rfl,dp,aj.It df (λj e=>by omega),nH⟩).qb
  ·refine Ms (i:=12) O O O (NJ (cs:=[_]) XB O) ?_;rintro _ w12 ⟨bf,rfl,DH,aA,bz⟩;refine⟨aj.trans aA,?_⟩;have aj:=aj.trans aA;have nH:w1.heap.size<=bf:=by omega
   have bu:=Nat.le_trans bu aA.size;refine N4 (i:=5) (by kernel_rfl)$ ND (i:=5) O O O (yc zat O) (Tn _ _ _ x e5 lX _) ?_;rintro _ w5 ⟨rfl,aX⟩;refine⟨aj.trans aX,?_⟩;have aj:=aj.trans aX
   try have bz:=aX.Lg bz
   have bu:=Nat.le_trans bu aX.size;refine N4 (i:=11) (by kernel_rfl)$ ND (i:=11) O O O (yc z6W O) (Uv (QU width x) (512 / width) (by omega) (by omega) _) ?_;rintro _ w11 ⟨rfl,aQ⟩;refine⟨aj.trans aQ,?_⟩;have aj:=aj.trans aQ
   try have bz:=aQ.Lg bz
   have bu:=Nat.le_trans bu aQ.size;refine OY [13]$ qO 13$ M1 (i:=13) O O (MY XB O O O bz (by simp)) ?_;rintro w13 ⟨dp,df⟩;refine⟨trivial,?_⟩;refine qE$ LS.qb (e:=[(0,_),(4,_),(6,_)]) ?_;exact(cD _ _ ⟨bf,rfl,dp,aj.It df (λj e=>by omega),nH⟩).qb
end
section
variable {w w':World}{Q:NI}{txt:Int->Bytes}{K:Nat}{X:Nat->Prop}{vb width st each n:Nat}{xs:List Nat}
end
section
variable {w w':World}{Q:NI}{txt:Int->Bytes}{K:Nat}{X:Nat->Prop}{vb width st each n:Nat}{xs:List Nat}
theorem z0K (hP:Sp Q txt K X w)(hX:∀b,X b->b<w.heap.size)(hv:Ts Q txt vb width st xs w)(ew:X vb)(cW:2<=st)(hc:∀i,st<=i->i<st+RJ xs.length (512 / width)->Q.L[i]? =some true):
  LP Tryz.prog 37 [ptr vb 0] w λv w'=>v=I 0/\∃txt',Sp (Q.MD (MZ Q.L st (RJ xs.length (512 / width)) false)) txt' K X w'/\(∀y:Int,y<(st:Int)\/(st:Int)+(RJ xs.length (512 / width):Int)<=y->txt' y=txt y)/\Kp (λb=>¬X b\/b=vb) w w':=by
 have hB:=hv.cells
 have ct:=hv.fit
 have kf:1<=RJ xs.length (512 / width):=Nat.le_max_left _ _
 have hg:=Ext.LC w
 have Jb:=(hP.ext' hg).zeT (λb hb=>by have:=hX b hb;have:=hg.size;omega) kf cW ct hc
 generalize RJ xs.length (512 / width)=N at*
 refine Lb (e:=[(0,_)]) Tryz.func37 O Tryz.ntmps37 O O$ qN O$ Lk O$ run_seq$ qN O$ Le O$ LD z7w O (PD hv) ?_
 rintro _ w ⟨rfl,rfl⟩
 refine Lw O$ qM O$ Le O$ Mu O O$ Lf$ An O$ py$ run_seq$ run_seq$ N7 (λw'=>Kp (λb=>¬X b) w w') O$ LA 0 O O (hg.kp)$ Ll 1 O (Mo O) (hg.kp)$ Ll 2 O (LV SB O) (hg.kp)$ qT 3 O (λ_ h=>Lj SJ O O (h.Lg hB (λe=>e ew)) O) (hg.kp) ?_
 refine LA 4 O O (hg.kp)$ Ll 5 O (Mo O) (hg.kp)$ Ll 6 O (LV VZ O) (hg.kp)$ qT 7 O (λ_ hS=>LM S2 O MX O (Lq.cells (n:=2) (hS.Lg hB (λe=>e ew)) (news:=[_,_]) O) O) (hg.kp)$ OA 8 O zeB O (Jb) ?_
 rintro _ w1 ⟨rfl,txt1,jo,mA,aN⟩
 refine⟨hg.kp.trans aN,?_⟩
 have ik:=hg.kp.trans aN
 have ai:=ik.Lg hB (λe=>e ew)
 refine Ll 9 O (Ni O) (hg.kp.trans aN)$ qE$ qN O$ Le O$ Mu O O$ Lf$ An O$ py$ qN O$ Le O$ LU O$ Lt z3A O$ Ls O (MY Rz O O O ai (by simp)) ?_
 rintro w2 ⟨am,ao⟩
 refine qM O$ Lk O$ Lh Tryz.func37 O ?_
 exact⟨_,rfl,rfl,txt1,jo.own ao (λb e=>by rw[e];exact ew),mA,(ik.Lv λb e=> .inl e).trans (ao.Lv λb e=> .inr e)⟩
theorem VcT.any {txt:Int->Bytes}{st width each n:Nat}(he:1<=each)(hw:each*width<=512)(h:∀i,i<n->(txt ((st+i / each:Nat):Int)).length=512):∃xs:List Nat,xs.length=n/\VcT txt st width each xs:=by
 refine⟨(List.range n).map λi=>valB (LF (((txt ((st+i / each:Nat):Int)).drop (i%each*width)).take width)),by simp,λi x hx=>?_⟩
 rw[List.getElem?_map] at hx
 by_cases hi:i<n
 ·rw[List.getElem?_range hi] at hx;cases hx;have hl:=h i hi;have hm:(i%each+1)*width<=each*width:=Nat.mul_le_mul_right _ (Nat.mod_lt _ he);rw[Nat.add_mul,Nat.one_mul] at hm
  have aD:(((txt ((st+i / each:Nat):Int)).drop (i%each*width)).take width).length=width:=by
   rw[List.length_take,List.length_drop,hl];omega
  refine⟨?_,?_⟩
  ·have hb:=z82 (((txt ((st+i / each:Nat):Int)).drop (i%each*width)).take width);rw[aD] at hb;exact hb.symm
  ·have h1:=N1 (LF (((txt ((st+i / each:Nat):Int)).drop (i%each*width)).take width));rw[bitsT_length,aD] at h1;exact h1
 ·rw[List.getElem?_eq_none (by simpa using hi)] at hx;cases hx
theorem z3N (hP:Sp Q txt K X w)(hX:∀b,X b->b<w.heap.size)(hK:K<=800000000000){a:Nat}(hp:Pre Q.L a)(n width:Nat)(hn:n<=4194304)(ot:width=1\/width=2\/width=4\/width=8)(ct:a+RJ n (512 / width)<=Q.L.length):
  LP Tryz.prog 33 [ptr Q.s 0,I (n:Int),I (width:Int)] w λv w'=>∃vb txt',v= .tuple #[ptr vb 0,I 0]/\w.heap.size<=vb/\Sp (Q.MD (MZ Q.L a (RJ n (512 / width)) true)) txt' (K+RJ n (512 / width)) (λb=>X b\/b=vb) w'/\Ts (Q.MD (MZ Q.L a (RJ n (512 / width)) true)) txt' vb width a (List.replicate n 0) w'/\(∀y:Int,y<(a:Int)\/(a:Int)+(RJ n (512 / width):Int)<=y->txt' y=txt y)/\Kp (λb=>¬X b) w w':=by
 have kf:1<=RJ n (512 / width):=Nat.le_max_left _ _
 have eu:=hP.n
 obtain⟨e1,e2,e3,e4,e5⟩:64<=512 / width/\512 / width<=512/\512 / width*width=512/\1<=width/\width<=8:=by
  rcases ot with e|e|e|e<;>subst e<;>decide
 have dN:(MZ Q.L a (RJ n (512 / width)) true).length=Q.L.length:=N6 ct
 refine Lb (e:=[(0,_),(1,_),(2,_)]) Tryz.func33 O Tryz.ntmps33 O O$ qN O$ Lw O$ Lk O$ run_seq$ Lc$ qN O$ Le O$ qV (Ml SJ O O)$ Lk O$ An O$ run_seq$ M6 (λe' w'=>w'=w/\e'=[(0,ptr Q.s 0),(1,I (n:Int)),(2,I (width:Int)),(15,.bool false)]) ?au$ λau=>?dz
 case au=>
  rintro e' w' ⟨rfl,rfl⟩;refine An O$ py$ Ld$ qN O$ Lu O O$ Le O$ LD z0i O (hP.size) ?_;rintro _ w' ⟨rfl,rfl⟩;refine Le O$ qV (SC O O (by omega)) ?_;rw[show(512:Int) / (width:Int)=((512 / width:Nat):Int) from rfl];refine qV (O6 (cs:=[_,_,_]) TC O zbA O O)$ Le O$ qV (O6 (cs:=[_,_,_,_,_,_,_]) zc4 O zbv O O)$ Lm O O (Nc O (cs:=[I (n:Int),I (width:Int),I ((512 / width:Nat):Int),I 0,I 0,ptr Q.s 0,.bool false]) O) ?_;rintro _ w1 ⟨vb,rfl,ew,ad,ai⟩;refine Lw O$ qM O$ Lu O O$ LU O$ Lt NO O$ qV (LM z4w O TC O (Lq.cells (n:=3) ai (news:=[_,_,_]) O) O)$ LD zdN O (U7 n width (512 / width) ⟨by omega,e2⟩ hn _) ?_;rintro _ w2 ⟨rfl,ag⟩;have aG:=ad.trans ag;have am:=ag.Lg ai;have z1:=ad.size;have z2:=ag.size;have l1:=ai.lt;have eZ:Sp Q txt K (λb=>X b\/b=vb) w2:=hP.ext aG (λb e=>e.imp id λe=>by omega)
  have gq:∀b,(X b\/b=vb)->b<w2.heap.size:=λb hb=>by
   rcases hb with e| e
   ·have:=hX b e;have:=aG.size;omega
   ·omega
  obtain⟨N,hN⟩:∃N,RJ n (512 / width)=N:=⟨_,rfl⟩;rw[hN] at kf ct dN⊢;refine LD zbO O (eZ.take gq hp kf ct) ?_;rintro _ w3 ⟨rfl,gu,ax⟩;have aq:=ax.Lg am (λe=>e (.inr O));have z3:=ax.size;refine Le O$ Mp O O$ Mp O O$ Lm O O (NJ (cs:=[_,_]) MX O) ?_;rintro _ w4 ⟨b9,rfl,mz,ay,aF⟩;refine Ls O (M7 (news:=[I (a:Int),I (N:Int)]) MX O O O O aF (by simp)) ?_;rintro w5 ⟨aI,ak⟩;replace aI:Lq w5 b9 [I (a:Int),I (N:Int)] 108:=aI;have cm:Ext w3 w5:=ay.It ak (λj e=>by omega);have cy:=cm.Lg aq;have gS:=gu.ext' cm;refine Lk O$ LS.qb (e:=[(0,_),(8,_),(9,_),(10,_)]) ?_;refine run_seq$ qN O$ Le O$ Mu O O$ Lf$ An O$ py$ qN O$ Le O$ qV (LM S2 O MX O (Lq.cells (n:=2) aI (news:=[_,_]) O) O)$ LU O$ Lt VZ O$ Ls O (M7 (news:=[I (a:Int),I (N:Int)]) MX O O O O cy (by simp)) ?_;rintro w6 ⟨aR,aU⟩;replace aR:Lq w6 vb [I (n:Int),I (width:Int),I ((512 / width:Nat):Int),I (a:Int),I (N:Int),ptr Q.s 0,.bool false] 145:=aR;have pV:=gS.own aU (λb e=> .inr e);have aD:(Q.MD (MZ Q.L a N true)).L.length=Q.L.length:=dN
  obtain⟨xs,f9,zM⟩:=VcT.any (txt:=txt) (st:=a) (width:=width) (each:=512 / width) (n:=n) (by omega) (by omega) (λi hi=>by
   have sQ:=z2a (each:=512 / width) (by omega) hi;rw[hN] at sQ
   generalize i / (512 / width)=q at sQ⊢
   exact pV.X4 (by omega) (by rw[aD];omega))
  have Jc:Ts (Q.MD (MZ Q.L a N true)) txt vb width a xs w6:=⟨by rw[f9,hN];exact aR,ot,zM,by omega,by rw[f9,hN,aD];exact ct⟩
  have ki:∀b,(X b\/b=vb)->b<w6.heap.size:=λb hb=>by
   have:=gq b hb;have:=cm.size;have:=aU.size;omega
  have qR:=z1P pV ki (by omega) Jc (.inr O) (x:=0) (Nat.two_pow_pos _);rw[f9,hN] at qR;refine Lf$ run_seq$ qN O$ Le O$ LD zez O (qR) ?_;rintro _ w7 ⟨rfl,hW⟩;obtain⟨txt7,y9,zm,Jd,aC⟩:=hW;refine Lw O$ qM O$ Le O$ Mu O O$ Lf$ An O$ py$ qN O$ Le O$ Lw O$ Lk O$ Lh Tryz.func33 O ?_;have gR:(List.replicate n 0).length=n:=List.length_replicate;refine⟨_,rfl,vb,txt7,rfl,by omega,y9,zm,λy hy=>Jd y (by rw[gR,hN];exact hy),?_⟩;have cA:Kp (λb=>¬X b) w' w3:=aG.kp.trans (ax.Lv λb e e2=>e (.inl e2));exact((cA.trans cm.kp).It aU (λb e=> .inl (by omega))).trans (aC.Lv λb e e2=>e (.inl e2))
 case dz=>
  rcases ot with rfl|rfl|rfl|rfl
  ·refine Li O$ Le O$ Mw O O$ M5$ Lu O O$ MH O O$ M5$ M8 O O$ Lu O O$ Mu O O$ M5$ Le O$ qS$ qS ?_;refine M8 O O$ Le O$ qS$ qS$ M8 O O$ Le O$ qS$ qS$ M8 O O$ M8 O O$ Lk O$ LS.qb (e:=[(0,_),(1,_),(2,_),(6,_),(7,_),(15,_)]) ?_;exact(au _ _ ⟨rfl,rfl⟩).qb
  ·refine Li O$ Le O$ Mw O O$ M5$ Lu O O$ MH O O$ M5$ M8 O O$ Lu O O$ Mu O O$ Ns$ Lu O O$ Mu O O$ M5 ?_;refine MU O O$ Le O$ qS$ qS$ M8 O O$ Le O$ qS$ qS$ M8 O O$ M8 O O$ Lk O$ LS.qb (e:=[(0,_),(1,_),(2,_),(6,_),(7,_),(15,_)]) ?_;exact(au _ _ ⟨rfl,rfl⟩).qb
  ·refine Li O$ Le O$ Mw O O$ M5$ Lu O O$ MH O O$ M5$ M8 O O$ Lu O O$ Mu O O$ Ns$ Lu O O$ Mu O O$ Ns ?_;refine MU O O$ Lu O O$ Mu O O$ M5$ MU O O$ Le O$ qS$ qS$ M8 O O$ M8 O O$ Lk O$ LS.qb (e:=[(0,_),(1,_),(2,_),(6,_),(7,_),(15,_)]) ?_;exact(au _ _ ⟨rfl,rfl⟩).qb
  ·refine Li O$ Le O$ Mw O O$ M5$ Lu O O$ MH O O$ M5$ M8 O O$ Lu O O$ Mu O O$ Ns$ Lu O O$ Mu O O$ Ns ?_;refine MU O O$ Lu O O$ Mu O O$ Ns$ MU O O$ Lu O O$ Mu O O$ M5$ MU O O$ M8 O O$ Lk O$ LS.qb (e:=[(0,_),(1,_),(2,_),(6,_),(7,_),(15,_)]) ?_;exact(au _ _ ⟨rfl,rfl⟩).qb
end
structure Gr where
 n:Nat
 succ:Nat->List Nat
 lt:∀v u,u∈succ v->u<n
theorem NR {g:List (List Nat)}(h:Nu g)(v u:Nat)(hu:u∈Lo g v):u<g.length:=by
 unfold Lo at hu
 cases e:g[v]? with
 |none=>rw[e] at hu;cases hu
 |some l=>rw[e] at hu;exact h.lt l (List.mem_of_getElem? e) u hu
abbrev Ds:=List (Option Nat)
def dF (d:Ds)(u:Nat):Option Nat:=(d[u]?).getD none
def zce (t:Nat)(d:Ds)(u:Nat):Ds:=if d[u]? =some none then d.set u (some (t+1)) else d
def zf3 (t:Nat)(g:List (List Nat))(d:Ds)(v:Nat):Ds:=if dF d v=some t then(Lo g v).foldl (zce t) d else d
def lvl (t:Nat)(g:List (List Nat))(d:Ds):Ds:=(List.range g.length).foldl (zf3 t g) d
section
variable {G:Gr}{r t:Nat}{d0 d:Nat->Option Nat}{A B:Nat->Nat->Prop}
end
section
variable {g:List (List Nat)}{r t:Nat}
end
/-! ### The same with a flag: whether there were some -/
/-! ### A run -/
structure BfS where
 t:Nat
 done:Bool
 d:Ds
section
variable {g:List (List Nat)}{h:Nu g}{r:Nat}{s:BfS}
end
theorem z2K {v:Nat}(h:v<=200000):Nat.log2 (v+1)<=17:=by
 have h1:=Nat.log2_self_le (n:=v+1) (by omega)
 have h3:2^Nat.log2 (v+1)<2^18:=by
  have:(2:Nat)^18=262144:=by decide
  omega
 have:=(Nat.pow_lt_pow_iff_right (by decide:1<2)).1 h3
 omega
theorem T2.z8u {k:Nat}{q:Cd×Nat}(h:T2 k q)(hk:1<=k/\k<=3):(q.1.enc q.2).length<=40:=by
 rw[Sj]
 rcases h with⟨e,h⟩|⟨e,h⟩|⟨e,h⟩
 ·rw[e];show q.2+1+0<=_;omega
 ·have:=z2K h;rw[e];show Nat.log2 (q.2+1)+1+Nat.log2 (q.2+1)<=_;omega
 ·have h3:=z2K h;have h4:Nat.log2 (q.2+1) / k<=Nat.log2 (q.2+1):=Nat.div_le_self _ _;have hm:Nat.log2 (q.2+1) / k*k<=Nat.log2 (q.2+1):=Nat.div_mul_le_self _ _
  have h5:(Nt (q.2+1-2^(Nat.log2 (q.2+1) / k*k)) (2^(Nat.log2 (q.2+1) / k*k)*2^k-2^(Nat.log2 (q.2+1) / k*k))).2<=20:=by
   have h6:Ma (2^(Nat.log2 (q.2+1) / k*k)*2^k-2^(Nat.log2 (q.2+1) / k*k)-1)<=20:=by
    refine N0 ?_;have h7:=Nat.pow_le_pow_right (show 0<2 by decide) (show Nat.log2 (q.2+1) / k*k+k<=20 by omega);rw[Nat.pow_add] at h7;have:=Nat.two_pow_pos (Nat.log2 (q.2+1) / k*k);omega
   unfold Nt;dsimp only;split
   ·show Ma _-1<=20;omega
   ·exact h6
  rw[e];show Nat.log2 (q.2+1) / k+1+(Nt _ _).2<=_;omega
theorem z1y {p:NT}(hp:p.My)(hz:p.zeta<=3){x:Nat}(hx:x<65536){succ ref:List Nat}(hs:LZ succ)(hr:LZ ref){r:Nat}(iP:r<=p.LJ)(Hz:succ.length<=40)(yJ:ref.length<=40):(LG (Nr p x succ ref r)).length<=6600:=by
 have aw:LZ (leftOf succ ref):=hs.sub List.filter_sublist
 have dN:(leftOf succ ref).length<=succ.length:=List.length_filter_le _ _
 have h1:=(OM succ ref).WC
 rw[List.length_map] at h1
 have h2:=XT p.interval aw
 have h3:=(Q5 p.interval (leftOf succ ref)).length_le
 have aD:(Nr p x succ ref r).length<=165:=by
  unfold Nr;rw[List.length_cons];split
  ·simp
  rw[List.length_append,List.length_append];have e1:(if 0<p.LJ then [(Cd.unary,r)] else []).length<=1:=by split<;>simp
  have e2:(if 0<r then(Cd.gamma,(N5 succ ref).length-1)::runNums 0 (N5 succ ref).dropLast else []).length<=42:=by
   split
   ·rw[List.length_cons,ON,List.length_dropLast];omega
   ·simp
  have e3:(if leftOf succ ref=[] then [] else(if 0<p.interval then(Cd.gamma,(rowsN p.interval (leftOf succ ref)).1.length)::longNums x p.interval none (rowsN p.interval (leftOf succ ref)).1 else [])++restNums x p.zeta none (rowsN p.interval (leftOf succ ref)).2).length<=121:=by
   split
   ·simp
   ·rw[List.length_append,P3];split
    ·rw[List.length_cons,Ob];omega
    ·simp;omega
  omega
 have:=XZ (n:=40) (L:=Nr p x succ ref r) (λq hq=>(VQ hp hx hs hr iP q hq).z8u ⟨hp.2.2.1,hz⟩)
 omega
section
variable {p:Mq}{g:List (List Nat)}{E:List (Nat×Nat)}
theorem zau (h:OH p g E)(ui:g.length<=40)(hz:p.zeta<=3){i:Nat}(hi:i<g.length):(T8 p g E i).length<=6600:=by
 unfold T8
 have su:g[i]? =some g[i]:=List.getElem?_eq_getElem hi
 have qv:i<E.length:=by have:=h.pk.el;omega
 have FX:E[i]? =some E[i]:=List.getElem?_eq_getElem qv
 have gI:=h.pk.ok.ent i _ FX
 rw[su,FX]
 rw[su] at gI
 show(LG (Nr p.list i g[i] (MG g i E[i].1) E[i].1)).length<=6600
 have h2:LZ (MG g i E[i].1)/\(MG g i E[i].1).length<=40:=by
  rcases Sb g i E[i].1 with e| e
  ·rw[e];exact⟨⟨List.Pairwise.nil,λy h=>(by cases h)⟩,Nat.zero_le _⟩
  ·exact⟨h.gr.ok _ e,by have:=h.gr.len e;omega⟩
 have iP:E[i].1<=p.list.LJ:=by
  rcases gI with e|⟨-,h3,-⟩
  ·rw[e];exact Nat.zero_le _
  ·exact h3
 have hm:g[i]∈g:=List.getElem_mem hi
 exact z1y h.My.1 hz (by omega) (h.gr.ok _ hm) h2.1 iP (by have:=h.gr.len hm;omega) h2.2
theorem z5M (h:OH p g E)(ui:g.length<=40)(hz:p.zeta<=3):∀n,n<=g.length->(MB p g E n).length<=n*6600
 |0,_=>by simp[MB]
 | n + 1, hn => by
   have:=z5M h ui hz n (by omega);have:=zau h ui hz (i:=n) (by omega);rw[OL,List.length_append,Nat.add_mul];omega
theorem z8b {n u:Nat}(hn:1<=n):(PE n u).bits<=3*n:=by
 show(u-1) / 2^Tr n u+n<=_
 have h:u<2*n*2^Tr n u:=by
  unfold Tr;split
  ·rename_i e
   have:=(Nat.div_eq_zero_iff).1 e;omega
  ·rename_i e
   have h1:=Ss (v:=u / n);have h2:=(Nat.div_lt_iff_lt_mul (by omega)).1 h1;have h3:1<=Ma (u / n):=by unfold Ma;rw[if_neg e];omega
   rw[show Ma (u / n)=Ma (u / n)-1+1 by omega,Nat.pow_succ,Nat.mul_comm _ n,Nat.mul_comm _ 2,<-Nat.mul_assoc,Nat.mul_comm n 2] at h2;exact h2
 have h4:(u-1) / 2^Tr n u<2*n:=(Nat.div_lt_iff_lt_mul (Nat.two_pow_pos _)).2 (by omega)
 omega
theorem z7o (h:OH p g E)(ui:g.length<=40)(hz:p.zeta<=3):(T3 p g E).length<=36000:=by
 have h1:=z5M h ui hz g.length (Nat.le_refl _)
 have h2:g.length*6600<=40*6600:=Nat.mul_le_mul_right _ ui
 have h3:(Xv p g E).size<=2900:=by
  have hw:Tr (g.length+1) ((MB p g E g.length).length+1)<=30:=UC (by omega);have hb:=z8b (n:=g.length+1) (u:=(MB p g E g.length).length+1) (by omega);have hm:(g.length+1)*Tr (g.length+1) ((MB p g E g.length).length+1)<=41*30:=Nat.mul_le_mul (by omega) hw;show 12+((g.length+1)*Tr (g.length+1) ((MB p g E g.length).length+1)+7) / 8+((PE (g.length+1) ((MB p g E g.length).length+1)).bits+7) / 8+4*((g.length+1+63) / 64)<=2900;omega
 rw[h.len]
 unfold RM
 omega
end
structure GwP where
 p:Mq
 g:List (List Nat)
 E:List (Nat×Nat)
 st:Nat
 len:Nat
 rb:Nat
 sum:Nat
 k:Nat
 x:Nat
def Oq (G:GwP)(Q:NI)(txt:Int->Bytes)(K:Nat)(X:Nat->Prop)(w:World):Prop:=∃o:StO Q txt K G.st G.len (T3 G.p G.g G.E),Qs (z44 o G.rb G.sum) G.k G.x X w
section
variable {G:GwP}{w w':World}{Q Q':NI}{txt txt':Int->Bytes}{K K':Nat}{X Y S':Nat->Prop}
theorem Oq.sp (h:Oq G Q txt K X w):Sp Q txt K (λb=>X b\/b=G.rb) w:=by obtain⟨o,h⟩:=h;exact h.inv.1
theorem Oq.rbB (h:Oq G Q txt K X w):Lq w G.rb (srC Q.s G.st G.len (T3 G.p G.g G.E).length G.sum) 204:=by obtain⟨o,h⟩:=h;exact h.inv.2.1
theorem Oq.rbX (h:Oq G Q txt K X w):¬X G.rb:=by obtain⟨o,h⟩:=h;exact h.inv.2.2
theorem Oq.lt (h:Oq G Q txt K X w):∀b,X b->b<w.heap.size:=by obtain⟨o,h⟩:=h;exact h.lt
theorem Oq.lt1 (h:Oq G Q txt K X w):∀b,(X b\/b=G.rb)->b<w.heap.size:=λb hb=>hb.elim (h.lt b) (λe=>by rw[e];exact h.rbB.lt)
theorem Oq.ZG (h:Oq G Q txt K X w):K<1000000000000:=by obtain⟨o,h⟩:=h;exact o.k
theorem Oq.xk (h:Oq G Q txt K X w):X G.k/\X G.x/\X 0/\X 1:=by obtain⟨o,h⟩:=h;exact⟨h.xk,h.xx,h.x1,h.x2⟩
theorem Oq.ok (h:Oq G Q txt K X w):OH G.p G.g G.E:=by obtain⟨o,h⟩:=h;exact h.ok
theorem Oq.Xk (h:Oq G Q txt K X w)(hk:Kp S' w w')(hS:∀b,S' b->¬(X b\/b=G.rb)\/(X b/\b≠G.k/\b≠G.x/\b≠0/\b≠1))(hP:Sp Q' txt' K' (λb=>X b\/b=G.rb) w')(hs:Q'.s=Q.s)(hl:Q'.L.length=Q.L.length)(hK:K'<1000000000000)(ht:∀y:Int,(G.st:Int)<=y->y<(G.st:Int)+(G.len:Int)->txt' y=txt y):Oq G Q' txt' K' X w':=by
 have ta:=h.rbX
 have zN:=h.rbB
 obtain⟨o,h⟩:=h
 have aD:=o.len
 refine⟨⟨hK,by rw[hl];exact o.fit,o.laid.z7L λk hk=>ht _ (by omega) (by omega),o.len⟩,h.re hk (λj hj=>?_) ⟨hP,?_,ta⟩⟩
 ·rcases hS j hj with e| e
  ·exact⟨λe2=>e (.inl (e2▸h.xk)),λe2=>e (.inl (e2▸h.xx)),λe2=>e (.inl (e2▸h.x1)),λe2=>e (.inl (e2▸h.x2))⟩
  ·exact e.2
 ·rw[hs];exact hk.Lg zN (λe=>(hS _ e).elim (λe=>e (.inr O)) (λe=>ta e.1))
theorem Oq.zdV (h:Oq G Q txt K X w)(hk:Kp S' w w')(hS:∀b,S' b->¬(X b\/b=G.rb))(bY:∀j,X j->Y j)(hY:∀j,Y j->X j\/(w.heap.size<=j/\j<w'.heap.size))(hP:Sp Q' txt' K' (λb=>Y b\/b=G.rb) w')(hs:Q'.s=Q.s)(hl:Q'.L.length=Q.L.length)(hK:K'<1000000000000)(ht:∀y:Int,(G.st:Int)<=y->y<(G.st:Int)+(G.len:Int)->txt' y=txt y):Oq G Q' txt' K' Y w':=by
 have ta:=h.rbX
 have zN:=h.rbB
 obtain⟨o,h⟩:=h
 have aD:=o.len
 have hI:(z44 (⟨hK,by rw[hl];exact o.fit,o.laid.z7L λk hk=>ht _ (by omega) (by omega),o.len⟩:StO Q' txt' K' G.st G.len (T3 G.p G.g G.E)) G.rb G.sum).inv Y w':=⟨hP,by rw[hs];exact hk.Lg zN (λe=>hS _ e (.inr O)),λe=>(hY _ e).elim ta (λe=>by have:=zN.lt;omega)⟩
 refine⟨_,⟨h.ok,hk.Lg h.Lg (λe=>hS _ e (.inl h.xk)),hk.Lg h.ix (λe=>hS _ e (.inl h.xx)),bY _ h.xk,bY _ h.xx,hI,λj hj=>?_,bY _ h.x1,bY _ h.x2,hk.Lg h.gam (λe=>hS _ e (.inl h.x1)),hk.Lg h.una (λe=>hS _ e (.inl h.x2))⟩⟩
 rcases hY j hj with e| e
 ·have:=h.lt j e;have:=hk.size;omega
 ·exact e.2
theorem Oq.grow (h:Oq G Q txt K X w)(hx:Ext w w')(hY:∀j,Y j->X j\/(w.heap.size<=j/\j<w'.heap.size))(bY:∀j,X j->Y j):Oq G Q txt K Y w':=by
 obtain⟨o,h⟩:=h
 exact⟨o,h.grow hx hY bY⟩
theorem Oq.ext (h:Oq G Q txt K X w)(hx:Ext w w'):Oq G Q txt K X w':=h.grow hx (λj hj=> .inl hj) λj hj=>hj
theorem Oq.own (h:Oq G Q txt K X w)(hk:Kp S' w w')(hS:∀j,S' j->X j/\j≠G.k/\j≠G.x/\j≠0/\j≠1):Oq G Q txt K X w':=by
 obtain⟨o,h⟩:=h
 exact⟨o,h.own hk hS⟩
theorem Oq.step (h:Oq G Q txt K X w)(hk:Kp S' w w')(hS:∀j,S' j->X j/\j≠G.k/\j≠G.x/\j≠0/\j≠1)(hY:∀j,Y j->X j\/(w.heap.size<=j/\j<w'.heap.size))(bY:∀j,X j->Y j):Oq G Q txt K Y w':=by
 obtain⟨o,h⟩:=h
 exact⟨o,h.step hk hS hY bY⟩
theorem Oq.less (h:Oq G Q txt K Y w)(bY:∀j,X j->Y j)(hx:X G.k/\X G.x/\X 0/\X 1):Oq G Q txt K X w:=by
 obtain⟨o,h⟩:=h
 exact⟨o,h.less bY hx.1 hx.2.1 hx.2.2.1 hx.2.2.2⟩
theorem Oq.more (h:Oq G Q txt K X w)(hK:K<=K')(DI:K'<1000000000000):Oq G Q txt K' X w:=h.Xk (S':=λ_=>False) (Kp.refl _ w) (λ_ e=>e.elim) (h.sp.more hK) O O DI λ_ _ _=>rfl
theorem YO (h:Oq G Q txt K X w):LP Tryz.prog 34 [ptr G.k 0] w λv w'=>v=I (G.g.length:Int)/\w'=w:=by
 obtain⟨o,h⟩:=h
 exact z8l h
theorem z1X {l bk bi v:Nat}(iS:G.g.length<50)(hv:v<G.g.length)(h:Oq G Q txt K X w)(gp:Lq w bk [ptr G.k 0] 29)(uh:Lq w bi [I (v:Int)] 3)(Z:Nat->Prop)(hZ:∀j,Z j->X j)(J:(Nat->Prop)->Nat->World->Prop)(F:World->Prop)
  (h0:∀(Y:Nat->Prop) (w':World),(∀j,X j->Y j)->(∀j,Y j->X j\/w.heap.size<=j)->Oq G Q txt K Y w'->Kp (λj=>¬X j) w w'->J Y 0 w')
  (hround:∀(Y:Nat->Prop) (i s:Nat) (w':World),(∀j,X j->Y j)->(∀j,Y j->X j\/w.heap.size<=j)->(Lo G.g v)[i]? =some s->J Y i w'->Z6 Tryz.prog l [LO s,I 0] w' λr w''=>(r= .bool true/\J Y (i+1) w''/\Kp (λj=>¬Y j\/Z j) w' w'')\/(r= .bool false/\F w'')):
  LP Tryz.prog 113 [.func (.yield l) #[] #[],ptr bk 0,ptr bi 0] w λr w'=>r= .tuple #[]/\((∃Y,(∀j,X j->Y j)/\(∀j,Y j->X j\/w.heap.size<=j)/\J Y (Lo G.g v).length w')\/F w'):=by
 obtain⟨o,h⟩:=h
 exact z1M iS hv h gp uh Z hZ J F (λY w' h1 h2 h3 h4=>h0 Y w' h1 h2 ⟨o,h3⟩ h4) hround
end
def GrR (w:World)(gb go:Nat)(g:List (List Nat)):Prop:=∀(v:Nat) (l:List Nat),g[v]? =some l->∃(a:Option Addr) (c:Nat),w.cell? ⟨gb,go+v*1,none⟩=some (.slice a l.length c)/\∀(i x:Nat),l[i]? =some x->∃lb lo,a=some ⟨lb,lo,none⟩/\w.cell? ⟨lb,lo+i*1,none⟩=some (LO x)
theorem LQ {w w':World}{a:Addr}{u:Value}(hx:Ext w w')(h:w.cell? a=some u):w'.cell? a=some u:=by
 unfold World.cell? at h⊢
 cases hh:w.heap[a.block]? with
 |none=>rw[hh] at h;simp at h
 |some o=>rw[hx.heap hh id];rw[hh] at h;exact h
theorem GrR.ext {w w':World}{gb go:Nat}{g:List (List Nat)}(h:GrR w gb go g)(hx:Ext w w'):GrR w' gb go g:=λv l hl=>by
 obtain⟨a,c,h1,h2⟩:=h v l hl
 refine⟨a,c,LQ hx h1,λi x hi=>?_⟩
 obtain⟨lb,lo,e,h3⟩:=h2 i x hi
 exact⟨lb,lo,e,LQ hx h3⟩
theorem GrM.r {w:World}{v:Value}{g:List (List Nat)}(h:GrM w v g)(h1:1<=g.length):∃gb go gc,v= .slice (some ⟨gb,go,none⟩) g.length gc/\GrR w gb go g:=by
 obtain⟨vs,hr,hv⟩:=h.ex
 rcases hr.2 with⟨c,-,h0⟩|⟨gb,go,gc,e,hc⟩
 ·omega
 ·refine⟨gb,go,gc,e,λv l hl=>?_⟩;obtain⟨a,c,g1,g2,g3⟩:=hv v l hl;refine⟨a,c,by rw[Nat.mul_one];exact hc v _ g1,λi x hi=>?_⟩;rcases g3.2 with⟨c',-,h0⟩|⟨lb,lo,lc,e2,dM⟩
  ·have:l=[]:=List.eq_nil_of_length_eq_zero h0;rw[this] at hi;cases hi
  ·cases e2;exact⟨lb,lo,rfl,by rw[Nat.mul_one];exact dM i _ (by rw[List.getElem?_map,hi];rfl)⟩
/-! ### Distances -/
structure UO (w:World)(bg B:Nat)(L:List (List Nat)):Prop where
 ex:∃vs:List Value,Lq w bg vs 45/\vs.length=L.length/\∀(i:Nat) (l:List Nat),L[i]? =some l->∃(a:Option Addr) (c:Nat),vs[i]? =some (.slice a l.length c)/\l.length<=c/\Rd w (.slice a l.length c) 1 l.length (l.map LO)/\∀b,(Value.slice a l.length c).ownBlock=some b->B<=b/\b≠bg
section
variable {w w':World}{bg B:Nat}{L:List (List Nat)}
theorem UO.ext (h:UO w bg B L)(hx:Ext w w'):UO w' bg B L:=by
 obtain⟨vs,h1,h2,h3⟩:=h.ex
 refine⟨vs,hx.Lg h1,h2,λi l hl=>?_⟩
 obtain⟨a,c,g1,g2,g3,g4⟩:=h3 i l hl
 exact⟨a,c,g1,g2,g3.ext hx,g4⟩
theorem UO.new {n:Nat}(h:Lq w bg (List.replicate n (.slice none 0 0)) 45):UO w bg B (List.replicate n []):=
 ⟨_,h,by simp,λi l hl=>by
  rw[List.getElem?_replicate] at hl;split at hl
  ·rename_i hi
   cases hl;exact⟨none,0,by rw[List.getElem?_replicate,if_pos hi];rfl,Nat.le_refl _,⟨rfl,.inl ⟨(none,0),rfl,rfl⟩⟩,λb hb=>by cases hb⟩
  ·cases hl⟩
theorem UO.set (h:UO w bg B L){f:Nat}{l:List Nat}{a:Option Addr}{c:Nat}(hk:Kp (λb=>b=bg) w w')(hB:∀vs,Lq w bg vs 45->Lq w' bg (vs.set (0+f*1) (.slice a l.length c)) 45)(hf:f<L.length)(gE:l.length<=c)(hr:Rd w (.slice a l.length c) 1 l.length (l.map LO))(ho:∀b,(Value.slice a l.length c).ownBlock=some b->B<=b/\b≠bg):UO w' bg B (L.set f l):=by
 obtain⟨vs,h1,h2,h3⟩:=h.ex
 refine⟨_,hB vs h1,by simp[h2],λi l' hl=>?_⟩
 rw[Nat.zero_add,Nat.mul_one]
 by_cases e:f=i
 ·subst e;rw[List.getElem?_set_self hf] at hl;cases hl;exact⟨a,c,List.getElem?_set_self (by rw[h2];exact hf),gE,hr.kp hk (λb hb e=>(ho b hb).2 e),ho⟩
 ·rw[List.getElem?_set_ne e] at hl;obtain⟨a',c',g1,g2,g3,g4⟩:=h3 i l' hl;exact⟨a',c',by rw[List.getElem?_set_ne e];exact g1,g2,g3.kp hk (λb hb e=>(g4 b hb).2 e),g4⟩
theorem UO.gr (h:UO w bg B L):GrM w (.slice (some ⟨bg,0,none⟩) L.length L.length) L:=by
 obtain⟨vs,h1,h2,h3⟩:=h.ex
 refine⟨vs,⟨by rw[h2,Nat.mul_one],.inr ⟨bg,0,L.length,rfl,λj u hj=>by rw[h1.cell,Nat.zero_add];exact hj⟩⟩,λi l hl=>?_⟩
 obtain⟨a,c,g1,g2,g3,g4⟩:=h3 i l hl
 exact⟨a,c,g1,g2,g3⟩
theorem UO.lt (h:UO w bg B L):bg<w.heap.size:=by obtain⟨vs,h1,-⟩:=h.ex;exact h1.lt
theorem UO.cell (h:UO w bg B L){f:Nat}{l:List Nat}(hf:L[f]? =some l):∃(a:Option Addr) (c:Nat),w.cell? ⟨bg,0+f*1,none⟩=some (.slice a l.length c)/\l.length<=c/\Rd w (.slice a l.length c) 1 l.length (l.map LO)/\∀b,(Value.slice a l.length c).ownBlock=some b->B<=b/\b≠bg:=by
 obtain⟨vs,h1,h2,h3⟩:=h.ex
 obtain⟨a,c,g1,g2,g3,g4⟩:=h3 f l hf
 exact⟨a,c,by rw[h1.cell,Nat.zero_add,Nat.mul_one];exact g1,g2,g3,g4⟩
def EdR (w:World)(ea:Option Addr)(es:List (Nat×Nat)):Prop:=∀(i:Nat) (e:Nat×Nat),es[i]? =some e->e.1<4294967296/\e.2<4294967296/\∃eb eo,ea=some ⟨eb,eo,none⟩/\w.cell? ⟨eb,eo+i*2+0,none⟩=some (LO e.1)/\w.cell? ⟨eb,eo+i*2+1,none⟩=some (LO e.2)
theorem EdR.ext {ea:Option Addr}{es:List (Nat×Nat)}(h:EdR w ea es)(hx:Ext w w'):EdR w' ea es:=λi e he=>by
 obtain⟨h1,h2,eb,eo,h3,h4,h5⟩:=h i e he
 exact⟨h1,h2,eb,eo,h3,LQ hx h4,LQ hx h5⟩
end
theorem Nu.insert {g:List (List Nat)}(h:Nu g){f x k:Nat}{s:List Nat}(hs:g[f]? =some s)(hx:x<g.length)(hk:k<=s.length)(h1:∀y∈s.take k,y<x)(h2:∀y∈s.drop k,x<y):Nu (g.set f (s.take k++[x]++s.drop k)):=by
 have hm:=List.mem_of_getElem? hs
 have tc:=h.ok s hm
 have aV:=h.lt s hm
 have hn:=h.n
 refine⟨λl hl=>?_,λl hl y hy=>?_,by rw[List.length_set];exact h.n⟩
 ·rcases List.mem_or_eq_of_mem_set hl with e| e
  ·exact h.ok l e
  ·subst e;refine⟨?_,λy hy=>?_⟩
   ·have hr:List.Pairwise (·<·) s:=tc.Uq;show List.Pairwise (·<·) _;rw[List.append_assoc,List.pairwise_append];refine⟨hr.sublist (List.take_sublist _ _),?_,λa ha b hb=>?_⟩
    ·rw[List.singleton_append,List.pairwise_cons];exact⟨h2,hr.sublist (List.drop_sublist _ _)⟩
    ·rw[List.singleton_append] at hb;rcases List.mem_cons.1 hb with e| e
     ·rw[e];exact h1 a ha
     ·exact Nat.lt_trans (h1 a ha) (h2 b e)
   ·rcases List.mem_append.1 hy with e| e
    ·rcases List.mem_append.1 e with e| e
     ·exact tc.lt y (List.mem_of_mem_take e)
     ·rw[List.mem_singleton.1 e];omega
    ·exact tc.lt y (List.mem_of_mem_drop e)
 ·rw[List.length_set];rcases List.mem_or_eq_of_mem_set hl with e| e
  ·exact h.lt l e y hy
  ·subst e;rcases List.mem_append.1 hy with e| e
   ·rcases List.mem_append.1 e with e| e
    ·exact aV y (List.mem_of_mem_take e)
    ·rw[List.mem_singleton.1 e];exact hx
   ·exact aV y (List.mem_of_mem_drop e)
theorem Nu.empty {n:Nat}(hn:n<=60):Nu (List.replicate n []):=
 ⟨λl hl=>by rw[List.eq_of_mem_replicate hl];exact⟨List.Pairwise.nil,λy h=>(by cases h)⟩,λl hl y hy=>(by rw[List.eq_of_mem_replicate hl] at hy;cases hy),by simpa using hn⟩
theorem Lq.uniq {w:World}{b:Nat}{cs cs':List Value}{T T':TypeId}(h:Lq w b cs T)(h':Lq w b cs' T'):cs=cs':=by
 obtain⟨fz,h1,-⟩:=h
 obtain⟨fz',h2,-⟩:=h'
 rw[h1] at h2
 have:=ML h2
 injection this with e1 e2 e3
 have:=congrArg Array.toList e1
 simpa using this
theorem z4T {n : Nat}(cT : 1 <= n)(hn : n <= 40){w : World}{ea : Option Addr}{ec : Nat}{es : List (Nat × Nat)}(oh : es.length <= 9000000000000000000)(hE : EdR w ea es) : LP Tryz.prog 24 [I (n : Int), .slice ea es.length ec] w λv w' => ∃ g bg, v = .slice (some ⟨bg, 0, none⟩) g.length g.length /\ g.length = n /\ Nu g /\ UO w' bg w.heap.size g /\ Ext w w' := by
 have ev:maxLen=9223372036854775807:=rfl
 refine Lb (e:=[(0,_),(1,_)]) Tryz.func24 O Tryz.ntmps24 O O$ qN O$ Lw O$ qM O$ Le O$ Lm O O (pmk (c:=n) (n:=n) Qq O2 O O O (by omega) (by omega) (by omega)) ?_
 rintro _ w1 ⟨bg,rfl,⟨FN,ad,ai⟩,-⟩
 have kr:UO w1 bg w.heap.size (List.replicate n []):=UO.new ai
 refine Lk O$ run_seq$ qN O$ Lk O$ Lc$ Nj (α:=Nat×List (List Nat)) ((0,List.replicate n [])) (λy=>[(0,I (n:Int)),(1,.slice ea es.length ec),(5,.slice (some ⟨bg,0,none⟩) n n),(6,I (y.1:Int))]) (λy w'=>y.1<=es.length/\y.2.length=n/\Nu y.2/\UO w' bg w.heap.size y.2/\Ext w w') (λy=>es.length-y.1) ?hI ?hround
 case hI=>exact⟨Nat.zero_le _,by simp,Nu.empty (by omega),kr,ad⟩
 case hround =>
  rintro⟨i,g⟩ w2 ⟨hi,dS,aw,cH,ag⟩ ih;dsimp only at hi dS aw cH ag ih⊢
  try dsimp only
  refine run_seq$ qN O$ Lu O O$ Nd XN O$ Mw O O$ Lf$ Lp O (λhq=>?_)$ λhq=>?_
  ·have cE : i < es.length := by omega
   obtain⟨e,he⟩:∃e,es[i]? =some e:=⟨_,List.getElem?_eq_getElem cE⟩;obtain⟨e1,e2,eb,eo,rfl,dv,dM⟩:=(hE.ext ag) i e he;refine py$ run_seq$ Lc$ run_seq$ qN O$ Lu O O$ qV (M9 XN PC O O (by omega))$ Lt SG O$ qV (LN Mx O O dv)$ qV (M3 O Mx U3 (by omega))$ Le O ?_;by_cases hf:e.1<n
   ·by_cases ht:e.2<n
    ·refine Pa O O$ M5$ Lu O O$ Le O$ qV (M9 XN PC O O (by omega))$ Lt Re O$ qV (LN Mx O O dM)$ qV (M3 O Mx U3 (by omega))$ Le O$ Pa O O$ M5 ?_;obtain⟨s,hs⟩:∃s,g[e.1]? =some s:=⟨_,List.getElem?_eq_getElem (by omega)⟩;obtain⟨a,c,fB,gE,dO,DJ⟩:=cH.cell hs;have fm:s.length<=n:=by rw[<-dS];exact aw.len (List.mem_of_getElem? hs)
     refine M8 O O$ Lf$ An O$ py$ qN O$ Lu O O$ Le O$ qV (M9 XN PC O O (by omega))$ Lt SG O$ qV (LN Mx O O dv)$ qV (M9 Qq O2 O O (by omega))$ qV (LN LI O O fB)$ Lw O$ qM O ?_;refine Lk O$ run_seq$ Lc ?_;have sP:List.Pairwise (·<·) s:=(aw.ok s (List.mem_of_getElem? hs)).Uq
     have Je:∀(k y:Nat),s[k]? =some y->∀z∈s.drop k,y<=z:=λk y hy z hz=>by
      have jL:k<s.length:=by
       rcases Nat.lt_or_ge k s.length with h| h
       ·exact h
       ·rw[List.getElem?_eq_none h] at hy;cases hy
      have h1:List.Pairwise (·<·) (s.drop k):=sP.sublist (List.drop_sublist _ _);rw[List.drop_eq_getElem_cons jL] at h1 hz;rw[List.getElem?_eq_getElem jL] at hy;cases hy;rcases List.mem_cons.1 hz with e| e
      ·omega
      ·exact Nat.le_of_lt ((List.pairwise_cons.1 h1).1 z e)
     refine Nl (λe' w'=>∃k:Nat,e'=[(0,I (n:Int)),(1,.slice (some ⟨eb,eo,none⟩) es.length ec),(5,.slice (some ⟨bg,0,none⟩) n n),(6,I (i:Int)),(7,.slice a s.length c),(8,I (k:Int))]/\k<=s.length/\(∀y∈s.take k,y<e.2)/\(∀y,s[k]? =some y->e.2<=y)/\Ext w2 w') ?jd$ λjd=>?th
     case jd =>
      rintro e' w3 ⟨k,rfl,hk,gJ,ip,ah⟩;have ae:=Ext.LC w3;have te:=dO.ext ah;have tf:=LQ ah dM;refine run_seq$ M6 (λe' w'=>∃q,e'=[(0,I (n:Int)),(1,.slice (some ⟨eb,eo,none⟩) es.length ec),(5,.slice (some ⟨bg,0,none⟩) n n),(6,I (i:Int)),(7,.slice a s.length c),(8,I (k:Int)),(76,.bool q)]/\(q=true->∀y∈s.drop k,e.2<y)/\Ext w2 w') ?et$ λet=>?iv
      case et =>
       rintro e' w4 ⟨q,rfl,ox,ay⟩;have fE:=cH.ext ay;have lY:=dO.ext ay;have DK:=LQ ay dv;have DL:=LQ ay dM;have cR:=ag.trans ay;refine Mg O (λpW=>?_)$ λpW=>?_
       ·have aj:=Ext.LC w4;have bu:=aj.size;have Ft:w.heap.size<=w4.heap.size:=cR.size;have DM:=fE.lt
        have kS:((s.take k++[e.2])++s.drop k).length=s.length+1:=by
         rw[List.length_append,List.length_append,List.length_take,List.length_drop,List.length_singleton];omega
        have dh:∀(l:List Nat),∀c∈l.map LO,c.oneCell'=true:=λl c hc=>by obtain⟨z,-,rfl⟩:=List.mem_map.1 hc;rfl
        have js:(s.take k).length=k:=by rw[List.length_take];omega
        have tM:(s.drop k).length=s.length-k:=List.length_drop ..;obtain⟨vs,nI,jW,-⟩:=id fE.ex;refine LH [23] (λw'=>Ext w4 w') (by kernel_rfl) O$ qL [22,23] 0 O (λ_ h=>M0 O) aj$ qL [3,4,5,22,23] 1 O (λ_ h=>M0 O) aj$ qL [3,4,5,22,23] 2 O (λ_ h=>M0 O) aj$ qL [4,5,22,23] 3 O (λ_ h=>M9 XN PC O O (by omega)) aj$ qL [5,22,23] 4 O (λ_ h=>LV SG O) aj$ qL [9,10,17,21,22,23] 7 O (λ_ h=>M0 O) aj$ qL [9,10,17,21,22,23] 8 O (λ_ h=>M0 O) aj$ qL [13,14,15,16,17,21,22,23] 11 O (λ_ h=>M0 O) aj$ qL [13,14,15,16,17,21,22,23] 12 O (λ_ h=>M0 O) aj$ qL [14,15,16,17,21,22,23] 13 O (λ_ h=>M9 XN PC O O (by omega)) aj$ qL [15,16,17,21,22,23] 14 O (λ_ h=>LV Re O) aj$ qL [20,21,22,23] 18 O (λ_ h=>M0 O) aj$ qL [20,21,22,23] 19 O (λ_ h=>M0 O) aj ?_;refine qL [22,23] 5 O (λ_ h=>LN Mx O O (LQ h DK)) aj$ qL [10,17,21,22,23] 9 O (λ_ h=>z7c LI Lz O O (by omega)) aj$ qL [16,17,21,22,23] 15 O (λ_ h=>LN Mx O O (LQ h DL)) aj$ qL [21,22,23] 20 O (λ_ h=>T7 LI Lz O O hk gE) aj$ SL (i:=6) (j:=16) (by kernel_rfl) ?_ ?_
        ·refine Ms (i:=6) O O O (RN (cs:=[]) (zs:=[]) LI Lz O (by kernel_rfl) O O O (by decide)) ?_;rintro v6 w6 ⟨b6,rfl,⟨m7,aK,aR⟩,eK⟩;refine⟨aj.trans aK,?_⟩;have ye:w4.heap.size<=b6:=by omega
         have lb6:=aR.lt;have aj:=aj.trans aK
         try have bq:=bq.ext aK
         have bu:=Nat.le_trans bu aK.size;refine SL (i:=10) (j:=16) (by kernel_rfl) ?_ ?_
         ·refine Ms (i:=10) O O O (pap LI Lz O (by decide) O O eK ((P6 (i:=k) lY hk).ext aj) (λc hc=>dh s c (List.mem_of_mem_take hc)) (by omega) (by omega)) ?_;rintro v10 w10 ⟨bh,ar,ba,-⟩;refine⟨aj.It ar (λj e=>by have e:b6=j:=ML e;omega),?_⟩;have aj:=aj.It ar (λj e=>by have e:b6=j:=ML e;omega)
          try have bq:=bq.kp ar (λj hj e=>by have e:b6=j:=ML e;have hj:b16=j:=ML hj;omega)
          have ba:∀j,v10.ownBlock=some j->w4.heap.size<=j:=λj hj=>by rcases ba j hj with e|e;(have e:b6=j:=ML e;omega);omega
          have bu:=Nat.le_trans bu ar.size;have nJ:=λ(j:Nat) (hj:v10.ownBlock=some j)=>bh.lt hj;refine N4 (i:=16) (by kernel_rfl)$ Ms (i:=16) O O O (RN (cs:=[_]) (zs:=[Value.int .u32 0]) LI Lz O (by kernel_rfl) O O O (by decide)) ?_;rintro v16 w16 ⟨b16,rfl,⟨nK,aO,gj⟩,bq⟩;refine⟨aj.trans aO,?_⟩;have nL:w4.heap.size<=b16:=by omega
          have aj:=aj.trans aO
          try have eK:=eK.ext aO
          try have bh:=bh.ext aO
          have lb16:=gj.lt;have bu:=Nat.le_trans bu aO.size;refine N4 (i:=17) (by kernel_rfl)$ Ms (i:=17) O O O (pap LI Lz O (by decide) O O bh bq.rd (λc hc=>dh [e.2] c hc) (by omega) (by omega)) ?_;rintro v17 w17 ⟨eg,cj,bG,-⟩;refine⟨aj.It cj (λj e=>ba j e),?_⟩;have aj:=aj.It cj (λj e=>ba j e);have bG:∀j,v17.ownBlock=some j->w4.heap.size<=j:=λj hj=>by rcases bG j hj with e|e;exact ba j e;omega
          have bu:=Nat.le_trans bu cj.size;refine N4 (i:=21) (by kernel_rfl)$ Ms (i:=21) O O O (pap LI Lz O (by decide) O O eg ((Of (i:=k) lY hk gE).ext aj) (λc hc=>dh s c (List.mem_of_mem_drop hc)) (by omega) (by omega)) ?_;rintro v21 w21 ⟨bL,dI,cL,-⟩;refine⟨aj.It dI (λj e=>bG j e),?_⟩;have aj:=aj.It dI (λj e=>bG j e);have cL:∀j,v21.ownBlock=some j->w4.heap.size<=j:=λj hj=>by rcases cL j hj with e|e;exact bG j e;omega
          refine qL [23] 22 O (λ_ h=>M9 Qq O2 O O (by omega)) aj ?_;have gl:=aj.Lg nI;refine OY [23]$ qO 23$ M1 (i:=23) O O (MY O2 O O (Sw bL) gl (by rw[jW];omega)) ?_;rintro w23 ⟨cS,dH⟩;refine⟨trivial,?_⟩;refine qE$ Ld$ Li O$ Le O$ Mb O O$ Lk O ?_;rw[show 0+k+1+(s.length-k)=(s.take k++[e.2]++s.drop k).length by rw[kS];omega,show([]++List.take k (s.map LO)++[LO e.2]++List.drop k (s.map LO))=(s.take k++[e.2]++s.drop k).map LO by simp[List.map_take,List.map_drop]] at bL;obtain⟨ra,rc,rfl,-⟩:=bL.rd.shape
          have nM:(s.take k++[e.2]++s.drop k).length<=rc:=by
           rcases bL.shape with⟨e1,e2⟩|⟨gg,cc,e1,e2⟩
           ·omega
           ·cases e1;exact e2
          have nN:=(fE.ext aj).set dH (f:=e.1) (l:=s.take k++[e.2]++s.drop k) (a:=ra) (c:=rc) (λvs' h'=>by rw[Lq.uniq h' gl];exact cS) (by omega) nM bL.rd (λj hj=>by have:=cL j hj;omega);have nO:=aw.insert hs (x:=e.2) (k:=k) (by omega) hk gJ (ox pW);exact(ih (i+1,g.set e.1 (s.take k++[e.2]++s.drop k)) _ ⟨by omega,by rw[List.length_set];exact dS,nO,nN,(cR.trans aj).It dH (λj e=>by omega)⟩ (by omega)).qb
         ·refine Ms (i:=16) O O O (RN (cs:=[_]) (zs:=[Value.int .u32 0]) LI Lz O (by kernel_rfl) O O O (by decide)) ?_;rintro v16 w16 ⟨b16,rfl,⟨nK,aO,gj⟩,bq⟩;refine⟨aj.trans aO,?_⟩;have nL:w4.heap.size<=b16:=by omega
          have aj:=aj.trans aO
          try have eK:=eK.ext aO
          try have bh:=bh.ext aO
          have lb16:=gj.lt;have bu:=Nat.le_trans bu aO.size;refine N4 (i:=10) (by kernel_rfl)$ Ms (i:=10) O O O (pap LI Lz O (by decide) O O eK ((P6 (i:=k) lY hk).ext aj) (λc hc=>dh s c (List.mem_of_mem_take hc)) (by omega) (by omega)) ?_;rintro v10 w10 ⟨bh,ar,ba,-⟩;refine⟨aj.It ar (λj e=>by have e:b6=j:=ML e;omega),?_⟩;have aj:=aj.It ar (λj e=>by have e:b6=j:=ML e;omega)
          try have bq:=bq.kp ar (λj hj e=>by have e:b6=j:=ML e;have hj:b16=j:=ML hj;omega)
          have ba:∀j,v10.ownBlock=some j->w4.heap.size<=j:=λj hj=>by rcases ba j hj with e|e;(have e:b6=j:=ML e;omega);omega
          have bu:=Nat.le_trans bu ar.size;have nJ:=λ(j:Nat) (hj:v10.ownBlock=some j)=>bh.lt hj;refine N4 (i:=17) (by kernel_rfl)$ Ms (i:=17) O O O (pap LI Lz O (by decide) O O bh bq.rd (λc hc=>dh [e.2] c hc) (by omega) (by omega)) ?_;rintro v17 w17 ⟨eg,cj,bG,-⟩;refine⟨aj.It cj (λj e=>ba j e),?_⟩;have aj:=aj.It cj (λj e=>ba j e);have bG:∀j,v17.ownBlock=some j->w4.heap.size<=j:=λj hj=>by rcases bG j hj with e|e;exact ba j e;omega
          have bu:=Nat.le_trans bu cj.size;refine N4 (i:=21) (by kernel_rfl)$ Ms (i:=21) O O O (pap LI Lz O (by decide) O O eg ((Of (i:=k) lY hk gE).ext aj) (λc hc=>dh s c (List.mem_of_mem_drop hc)) (by omega) (by omega)) ?_;rintro v21 w21 ⟨bL,dI,cL,-⟩;refine⟨aj.It dI (λj e=>bG j e),?_⟩;have aj:=aj.It dI (λj e=>bG j e);have cL:∀j,v21.ownBlock=some j->w4.heap.size<=j:=λj hj=>by rcases cL j hj with e|e;exact bG j e;omega
          refine qL [23] 22 O (λ_ h=>M9 Qq O2 O O (by omega)) aj ?_;have gl:=aj.Lg nI;refine OY [23]$ qO 23$ M1 (i:=23) O O (MY O2 O O (Sw bL) gl (by rw[jW];omega)) ?_;rintro w23 ⟨cS,dH⟩;refine⟨trivial,?_⟩;refine qE$ Ld$ Li O$ Le O$ Mb O O$ Lk O ?_;rw[show 0+k+1+(s.length-k)=(s.take k++[e.2]++s.drop k).length by rw[kS];omega,show([]++List.take k (s.map LO)++[LO e.2]++List.drop k (s.map LO))=(s.take k++[e.2]++s.drop k).map LO by simp[List.map_take,List.map_drop]] at bL;obtain⟨ra,rc,rfl,-⟩:=bL.rd.shape
          have nM:(s.take k++[e.2]++s.drop k).length<=rc:=by
           rcases bL.shape with⟨e1,e2⟩|⟨gg,cc,e1,e2⟩
           ·omega
           ·cases e1;exact e2
          have nN:=(fE.ext aj).set dH (f:=e.1) (l:=s.take k++[e.2]++s.drop k) (a:=ra) (c:=rc) (λvs' h'=>by rw[Lq.uniq h' gl];exact cS) (by omega) nM bL.rd (λj hj=>by have:=cL j hj;omega);have nO:=aw.insert hs (x:=e.2) (k:=k) (by omega) hk gJ (ox pW);exact(ih (i+1,g.set e.1 (s.take k++[e.2]++s.drop k)) _ ⟨by omega,by rw[List.length_set];exact dS,nO,nN,(cR.trans aj).It dH (λj e=>by omega)⟩ (by omega)).qb
        ·refine Ms (i:=16) O O O (RN (cs:=[_]) (zs:=[Value.int .u32 0]) LI Lz O (by kernel_rfl) O O O (by decide)) ?_;rintro v16 w16 ⟨b16,rfl,⟨nK,aO,gj⟩,bq⟩;refine⟨aj.trans aO,?_⟩;have nL:w4.heap.size<=b16:=by omega
         have aj:=aj.trans aO
         try have eK:=eK.ext aO
         try have bh:=bh.ext aO
         have lb16:=gj.lt;have bu:=Nat.le_trans bu aO.size;refine N4 (i:=6) (by kernel_rfl)$ Ms (i:=6) O O O (RN (cs:=[]) (zs:=[]) LI Lz O (by kernel_rfl) O O O (by decide)) ?_;rintro v6 w6 ⟨b6,rfl,⟨m7,aK,aR⟩,eK⟩;refine⟨aj.trans aK,?_⟩;have ye:w4.heap.size<=b6:=by omega
         have lb6:=aR.lt;have aj:=aj.trans aK
         try have bq:=bq.ext aK
         have bu:=Nat.le_trans bu aK.size;refine N4 (i:=10) (by kernel_rfl)$ Ms (i:=10) O O O (pap LI Lz O (by decide) O O eK ((P6 (i:=k) lY hk).ext aj) (λc hc=>dh s c (List.mem_of_mem_take hc)) (by omega) (by omega)) ?_;rintro v10 w10 ⟨bh,ar,ba,-⟩;refine⟨aj.It ar (λj e=>by have e:b6=j:=ML e;omega),?_⟩;have aj:=aj.It ar (λj e=>by have e:b6=j:=ML e;omega)
         try have bq:=bq.kp ar (λj hj e=>by have e:b6=j:=ML e;have hj:b16=j:=ML hj;omega)
         have ba:∀j,v10.ownBlock=some j->w4.heap.size<=j:=λj hj=>by rcases ba j hj with e|e;(have e:b6=j:=ML e;omega);omega
         have bu:=Nat.le_trans bu ar.size;have nJ:=λ(j:Nat) (hj:v10.ownBlock=some j)=>bh.lt hj;refine N4 (i:=17) (by kernel_rfl)$ Ms (i:=17) O O O (pap LI Lz O (by decide) O O bh bq.rd (λc hc=>dh [e.2] c hc) (by omega) (by omega)) ?_;rintro v17 w17 ⟨eg,cj,bG,-⟩;refine⟨aj.It cj (λj e=>ba j e),?_⟩;have aj:=aj.It cj (λj e=>ba j e);have bG:∀j,v17.ownBlock=some j->w4.heap.size<=j:=λj hj=>by rcases bG j hj with e|e;exact ba j e;omega
         have bu:=Nat.le_trans bu cj.size;refine N4 (i:=21) (by kernel_rfl)$ Ms (i:=21) O O O (pap LI Lz O (by decide) O O eg ((Of (i:=k) lY hk gE).ext aj) (λc hc=>dh s c (List.mem_of_mem_drop hc)) (by omega) (by omega)) ?_;rintro v21 w21 ⟨bL,dI,cL,-⟩;refine⟨aj.It dI (λj e=>bG j e),?_⟩;have aj:=aj.It dI (λj e=>bG j e);have cL:∀j,v21.ownBlock=some j->w4.heap.size<=j:=λj hj=>by rcases cL j hj with e|e;exact bG j e;omega
         refine qL [23] 22 O (λ_ h=>M9 Qq O2 O O (by omega)) aj ?_;have gl:=aj.Lg nI;refine OY [23]$ qO 23$ M1 (i:=23) O O (MY O2 O O (Sw bL) gl (by rw[jW];omega)) ?_;rintro w23 ⟨cS,dH⟩;refine⟨trivial,?_⟩;refine qE$ Ld$ Li O$ Le O$ Mb O O$ Lk O ?_;rw[show 0+k+1+(s.length-k)=(s.take k++[e.2]++s.drop k).length by rw[kS];omega,show([]++List.take k (s.map LO)++[LO e.2]++List.drop k (s.map LO))=(s.take k++[e.2]++s.drop k).map LO by simp[List.map_take,List.map_drop]] at bL;obtain⟨ra,rc,rfl,-⟩:=bL.rd.shape
         have nM:(s.take k++[e.2]++s.drop k).length<=rc:=by
          rcases bL.shape with⟨e1,e2⟩|⟨gg,cc,e1,e2⟩
          ·omega
          ·cases e1;exact e2
         have nN:=(fE.ext aj).set dH (f:=e.1) (l:=s.take k++[e.2]++s.drop k) (a:=ra) (c:=rc) (λvs' h'=>by rw[Lq.uniq h' gl];exact cS) (by omega) nM bL.rd (λj hj=>by have:=cL j hj;omega);have nO:=aw.insert hs (x:=e.2) (k:=k) (by omega) hk gJ (ox pW);exact(ih (i+1,g.set e.1 (s.take k++[e.2]++s.drop k)) _ ⟨by omega,by rw[List.length_set];exact dS,nO,nN,(cR.trans aj).It dH (λj e=>by omega)⟩ (by omega)).qb
       ·refine py$ Ld$ Li O$ Le O$ Mb O O$ Lk O ?_;exact(ih (i+1,g) _ ⟨by omega,dS,aw,fE,cR⟩ (by omega)).qb
      case iv=>
       refine N7 (λw'=>Ext w3 w') O$ LA 0 O O (ae)$ LA 1 O O (ae)$ Ll 2 O (Ol LI O) ae ?_;by_cases od:k=s.length
       ·refine Ll 3 O (Xu O O) ae$ Pu$ LA 4 O O (ae)$ qJ 5 O (ae)$ qJ 6 O (ae)$ qJ 7 O (ae)$ qJ 8 O (ae)$ qJ 9 O (ae)$ qJ 10 O (ae)$ qJ 11 O (ae)$ qJ 12 O (ae)$ qJ 13 O (ae)$ qJ 14 O (ae)$ Ll 15 O (Qy O O) ae ?_;refine qE ?_;exact(et _ _ ⟨true,rfl,λ_ y hy=>(by rw[od,List.drop_length] at hy;cases hy),ah.trans ae⟩).qb
       ·obtain⟨y,hy⟩:∃y,s[k]? =some y:=⟨_,List.getElem?_eq_getElem (by omega)⟩;rcases te.2 with⟨⟨ca,cc⟩,fd,pE⟩|⟨lb,lo,cap,fd,dt⟩
        ·omega
        cases fd;have pX:w3.cell? ⟨lb,lo+k*1,none⟩=some (LO y):=dt (k*1) _ (by rw[Nat.mul_one,List.getElem?_map,hy];rfl);refine Ll 3 O (Xu O O) ae$ PU$ LA 4 O O (ae)$ LA 5 O O (ae)$ LA 6 O O (ae)$ Ll 7 O (M9 LI Lz O O (by omega)) ae$ LA 9 O O (ae)$ LA 10 O O (ae)$ Ll 11 O (M9 XN PC O O (by omega)) ae$ Ll 12 O (LV Re O) ae$ qT 8 O (λ_ h=>LN Mx O O (LQ h pX)) ae$ qT 13 O (λ_ h=>LN Mx O O (LQ h tf)) ae ?_;have zO:=ip y hy;by_cases uw:y=e.2
        ·refine Ll 14 O (yne O O) ae$ PU$ Ll 15 O (Qt O O) ae$ qE ?_;exact(et _ _ ⟨false,rfl,λe=>(by cases e),ah.trans ae⟩).qb
        ·refine Ll 14 O (yne O O) ae$ Pu$ Ll 15 O (Qt O O) ae$ qE ?_;exact(et _ _ ⟨true,rfl,λ_ z hz=>(by have:=Je k y hy z hz;omega),ah.trans ae⟩).qb
     case th=>
      refine Nj (α:=Nat) (0) (λk=>[(0,I (n:Int)),(1,.slice (some ⟨eb,eo,none⟩) es.length ec),(5,.slice (some ⟨bg,0,none⟩) n n),(6,I (i:Int)),(7,.slice a s.length c),(8,I (k:Int))]) (λk w'=>k<=s.length/\(∀y∈s.take k,y<e.2)/\Ext w2 w') (λk=>s.length-k) ?hI ?hround
      case hI=>exact⟨Nat.zero_le _,λy hy=>(by simp at hy),Ext.refl _⟩
      case hround=>
       rintro k w3 ⟨hk,gJ,ah⟩ ih2;have ae:=Ext.LC w3;have te:=dO.ext ah;have tf:=LQ ah dM
       try dsimp only
       refine run_seq$ run_seq$ N7 (λw'=>Ext w3 w') O$ LA 0 O O (ae)$ LA 1 O O (ae)$ Ll 2 O (Ol LI O) ae ?_;by_cases jL:k<s.length
       ·obtain⟨y,hy⟩:∃y,s[k]? =some y:=⟨_,List.getElem?_eq_getElem jL⟩;rcases te.2 with⟨⟨ca,cc⟩,fd,pE⟩|⟨lb,lo,cap,fd,dt⟩
        ·omega
        cases fd;have pX:w3.cell? ⟨lb,lo+k*1,none⟩=some (LO y):=dt (k*1) _ (by rw[Nat.mul_one,List.getElem?_map,hy];rfl);refine Ll 3 O (Wr O O) ae$ Pu$ LA 4 O O (ae)$ LA 5 O O (ae)$ LA 6 O O (ae)$ Ll 7 O (M9 LI Lz O O (by omega)) ae$ LA 9 O O (ae)$ LA 10 O O (ae)$ Ll 11 O (M9 XN PC O O (by omega)) ae$ Ll 12 O (LV Re O) ae$ qT 8 O (λ_ h=>LN Mx O O (LQ h pX)) ae$ qT 13 O (λ_ h=>LN Mx O O (LQ h tf)) ae ?_;by_cases zO:y<e.2
        ·refine Ll 14 O (Wr O O) ae$ Pu$ Ll 15 O (Qy O O) ae$ qE$ Lr O$ py$ Lc$ Li O$ Le O$ Mb O O$ Lk O$ Ld ((ih2 (k+1) _ ⟨by omega,λz hz=>?_,ah.trans ae⟩ (by omega)).qb);rw[M4 hy] at hz;rcases List.mem_append.1 hz with e'|e'
         ·exact gJ z e'
         ·rw[List.mem_singleton.1 e'];exact zO
        ·refine Ll 14 O (Wr O O) ae$ PU$ Ll 15 O (Qy O O) ae$ qE$ An O$ Ln O ?_;exact(jd _ _ ⟨k,rfl,hk,gJ,λz hz=>(by rw[hy] at hz;cases hz;omega),ah.trans ae⟩).qb
       ·refine Ll 3 O (Wr O O) ae$ PU$ LA 4 O O (ae)$ qJ 5 O (ae)$ qJ 6 O (ae)$ qJ 7 O (ae)$ qJ 8 O (ae)$ qJ 9 O (ae)$ qJ 10 O (ae)$ qJ 11 O (ae)$ qJ 12 O (ae)$ qJ 13 O (ae)$ qJ 14 O (ae)$ Ll 15 O (Qt O O) ae ?_;refine qE$ An O$ Ln O ?_;exact(jd _ _ ⟨k,rfl,hk,gJ,λz hz=>(by rw[List.getElem?_eq_none (by omega)] at hz;cases hz),ah.trans ae⟩).qb
    ·refine Pa O O$ M5$ Lu O O$ Le O$ qV (M9 XN PC O O (by omega))$ Lt Re O$ qV (LN Mx O O dM)$ qV (M3 O Mx U3 (by omega))$ Le O$ Pa O O$ Ns$ M8 O O$ Lf$ Lr O ?_;refine Ln O$ Li O$ Le O$ Mb O O$ Lk O ?_;exact(ih (i+1,g) _ ⟨by omega,dS,aw,cH,ag⟩ (by omega)).qb
   ·refine Pa O O$ Ns$ Le O$ qS$ qS$ qS$ qS$ qS$ qS$ qS$ qS$ MU O O$ Lf$ Lr O ?_;refine Ln O$ Li O$ Le O$ Mb O O$ Lk O ?_;exact(ih (i+1,g) _ ⟨by omega,dS,aw,cH,ag⟩ (by omega)).qb
  ·refine Ln O$ qN O$ Le O$ Lk O$ Lh Tryz.func24 O ?_;exact⟨_,rfl,g,bg,by rw[dS];rfl,dS,aw,cH,ag⟩
abbrev pl:Nat:=2147483648
def lessC (xs:List Nat)(u:Nat):List Nat:=match xs[u]? with
 |some d=>if pl<=d\/d=0 then xs else xs.set u (d-1)
 |none=>xs
def NZ (g:List (List Nat))(L:Nat)(xs:List Nat)(v:Nat):List Nat:=(Lo g v).foldl lessC (xs.set v (pl+L))
def T5 (g:List (List Nat))(L:Nat)(p:List Nat×Bool×Bool)(v:Nat):List Nat×Bool×Bool:=match p.1[v]? with
 |some d=>if pl<=d then p else if L<d then(p.1,p.2.1,true) else(NZ g L p.1 v,true,p.2.2)
 |none=>p
def Rh (g:List (List Nat))(L:Nat)(xs:List Nat):List Nat×Bool×Bool:=(List.range g.length).foldl (T5 g L) (xs,false,false)
structure PL where
 t:Nat
 level:Nat
 done:Bool
 xs:List Nat
def PL.new (g:List (List Nat)):PL:=⟨0,0,false,g.map List.length⟩
def PL.step (g:List (List Nat))(s:PL):PL:=⟨s.t+1,if(Rh g s.level s.xs).2.1 then s.level else s.level+1,!(Rh g s.level s.xs).2.2,(Rh g s.level s.xs).1⟩
def Qx (xs:List Nat):Nat:=xs.countP (λx=>decide (x<pl))
theorem WQ {xs:List Nat}{u d:Nat}(y:Nat)(h:xs[u]? =some d):Qx (xs.set u y)+(if d<pl then 1 else 0)=Qx xs+(if y<pl then 1 else 0):=by
 unfold Qx
 induction xs generalizing u with
 |nil=>simp at h
 | cons x xs ih =>
   cases u with
   | zero =>
     simp at h;subst h;rw[List.set_cons_zero,List.countP_cons,List.countP_cons];simp only[decide_eq_true_eq]
     omega
   | succ u =>
     simp at h;have:=ih h;rw[List.set_cons_succ,List.countP_cons,List.countP_cons];omega
structure Yv (n L:Nat)(xs:List Nat):Prop where
 len:xs.length=n
 val:∀(v x:Nat),xs[v]? =some x->x<=n\/(pl<=x/\x<=pl+L)
theorem z0u {n L:Nat}{xs:List Nat}(hn:n<pl)(h:Yv n L xs)(u:Nat):Yv n L (lessC xs u)/\Qx (lessC xs u)=Qx xs/\∀(v y:Nat),xs[v]? =some y->y<pl->∃z,(lessC xs u)[v]? =some z/\z<pl:=by
 unfold lessC
 split
 ·rename_i d hd
  split
  ·exact⟨h,rfl,λv y h1 h2=>⟨y,h1,h2⟩⟩
  ·rename_i hc
   have hc1:d<pl:=by
    rcases Nat.lt_or_ge d pl with e| e
    ·exact e
    ·exact absurd (.inl e) hc
   have hc0:d≠0:=λe=>hc (.inr e)
   have hu:u<xs.length:=by
    rcases Nat.lt_or_ge u xs.length with e| e
    ·exact e
    ·rw[List.getElem?_eq_none e] at hd;cases hd
   refine⟨⟨by rw[List.length_set];exact h.len,λv x hx=>?_⟩,?_,λv y h1 h2=>?_⟩
   ·by_cases e:u=v
    ·subst e;rw[List.getElem?_set_self hu] at hx;cases hx;rcases h.val u d hd with h3|h3
     ·left;omega
     ·omega
    ·rw[List.getElem?_set_ne e] at hx;exact h.val v x hx
   ·have:=WQ (d-1) hd;rw[if_pos hc1,if_pos (by omega)] at this;omega
   ·by_cases e:u=v
    ·subst e;exact⟨d-1,List.getElem?_set_self hu,by omega⟩
    ·exact⟨y,by rw[List.getElem?_set_ne e];exact h1,h2⟩
 ·exact⟨h,rfl,λv y h1 h2=>⟨y,h1,h2⟩⟩
theorem Uk {n L:Nat}(hn:n<pl):∀(l:List Nat) {xs:List Nat},Yv n L xs->Yv n L (l.foldl lessC xs)/\Qx (l.foldl lessC xs)=Qx xs/\∀(v y:Nat),xs[v]? =some y->y<pl->∃z,(l.foldl lessC xs)[v]? =some z/\z<pl
 |[],xs,h=>⟨h,rfl,λv y h1 h2=>⟨y,h1,h2⟩⟩
 | u :: l, xs, h => by
   obtain⟨h1,h2,h3⟩:=z0u hn h u;obtain⟨k1,k2,k3⟩:=Uk hn l h1;rw[List.foldl_cons];refine⟨k1,by omega,λv y e1 e2=>?_⟩;obtain⟨z,f1,f2⟩:=h3 v y e1 e2;exact k3 v z f1 f2
structure SwC (n L m:Nat)(xs:List Nat)(p:List Nat×Bool×Bool):Prop where
 num:Yv n L p.1
 lft:Qx p.1+(if p.2.1 then 1 else 0)<=Qx xs
 left:p.2.2=true->L<n/\∃v y,v<m/\p.1[v]? =some y/\y<pl
theorem X5 {g:List (List Nat)}{L m:Nat}{xs:List Nat}{p:List Nat×Bool×Bool}(hn:g.length<pl)(hm:m<g.length)(h:SwC g.length L m xs p):SwC g.length L (m+1) xs (T5 g L p m):=by
 unfold T5
 have hlen:=h.num.len
 split
 ·rename_i d hd
  split
  ·exact⟨h.num,h.lft,λe=>by obtain⟨h1,v,y,h2,h3⟩:=h.left e;exact⟨h1,v,y,by omega,h3⟩⟩
  ·rename_i hd1
   have hd2:d<pl:=by omega
   split
   ·rename_i hL
    refine⟨h.num,h.lft,λ_=>⟨?_,m,d,by omega,hd,hd2⟩⟩;rcases h.num.val m d hd with e|e<;>omega
   ·have hnum:Yv g.length L (p.1.set m (pl+L)):=⟨by rw[List.length_set];exact hlen,λv x hx=>by
     by_cases e:m=v
     ·subst e;rw[List.getElem?_set_self (by omega)] at hx;cases hx;exact .inr ⟨by omega,by omega⟩
     ·rw[List.getElem?_set_ne e] at hx
      exact h.num.val v x hx⟩
    obtain⟨k1,k2,k3⟩:=Uk hn (Lo g m) hnum;have hs:=WQ (pl+L) hd;rw[if_pos hd2,if_neg (by omega)] at hs;refine⟨k1,?_,λe=>?_⟩
    ·show Qx (NZ g L p.1 m)+1<=Qx xs;have:=h.lft;unfold NZ;have h0:0<=(if p.2.1=true then 1 else 0:Nat):=Nat.zero_le _;omega
    ·obtain⟨h1,v,y,h2,h3,h4⟩:=h.left e;obtain⟨z,f1,f2⟩:=k3 v y (by rw[List.getElem?_set_ne (by omega)];exact h3) h4;exact⟨h1,v,z,by omega,f1,f2⟩
 ·rename_i hd
  exact absurd hd (by rw[List.getElem?_eq_getElem (by omega)];simp)
theorem Yl {g:List (List Nat)}{L:Nat}{xs:List Nat}(hn:g.length<pl)(h:Yv g.length L xs):SwC g.length L g.length xs (Rh g L xs):=by
 have key:∀m,m<=g.length->SwC g.length L m xs ((List.range m).foldl (T5 g L) (xs,false,false)):=λm=>by
  induction m with
  |zero=>exact λ_=>⟨h,Nat.le_refl _,λe=>by cases e⟩
  | succ m ih =>
    intro hm;rw[List.range_succ,List.foldl_append,List.foldl_cons,List.foldl_nil];exact X5 hn (by omega) (ih (by omega))
 exact key _ (Nat.le_refl _)
theorem Zh {xs:List Nat}{v y:Nat}(h:xs[v]? =some y)(hy:y<pl):1<=Qx xs:=by
 have:=WQ pl h
 rw[if_pos hy,if_neg (by omega)] at this
 omega
structure CrI (g:List (List Nat))(s:PL):Prop where
 num:Yv g.length s.level s.xs
 t:s.t+Qx s.xs<=g.length+s.level
 lvl:s.level<=g.length+(if s.done then 1 else 0)
 run:s.done=false->1<=Qx s.xs
theorem z8S (xs:List Nat):Qx xs<=xs.length:=List.countP_le_length
theorem CrI.new {g:List (List Nat)}(hg:Nu g)(h1:1<=g.length)(hn:g.length<pl):CrI g (PL.new g):=by
 have hlen:(g.map List.length).length=g.length:=List.length_map ..
 have hv:∀(v x:Nat),(g.map List.length)[v]? =some x->x<=g.length:=λv x hx=>by
  rw[List.getElem?_map] at hx
  cases e:g[v]? with
  |none=>rw[e] at hx;cases hx
  | some l =>
    rw[e] at hx;cases hx;exact hg.len (List.mem_of_getElem? e)
 refine⟨⟨hlen,λv x hx=> .inl (hv v x hx)⟩,?_,Nat.zero_le _,λ_=>?_⟩
 ·have:=z8S (g.map List.length);show 0+Qx (g.map List.length)<=g.length+0;omega
 ·have e:(g.map List.length)[0]? =some ((g.map List.length)[0]'(by omega)):=List.getElem?_eq_getElem (by omega);have:=hv 0 _ e;exact Zh e (by omega)
theorem CrI.step {g:List (List Nat)}{s:PL}(hn:g.length<pl)(h:CrI g s)(hd:s.done=false):CrI g (s.step g):=by
 have hs:=Yl hn h.num
 have h1:=hs.lft
 have h2:=hs.left
 have h3:=hs.num
 have ht:=h.t
 have hl:=h.lvl
 have hr:=h.run hd
 rw[hd] at hl
 have hl:s.level<=g.length:=by simpa using hl
 unfold PL.step
 obtain⟨q,hq⟩:∃q,Rh g s.level s.xs=q:=⟨_,rfl⟩
 rw[hq] at h1 h2 h3⊢
 obtain⟨ys,b,c⟩:=q
 dsimp only at h1 h2 h3⊢
 refine⟨⟨h3.len,λv x hx=>(h3.val v x hx).imp id λe=>⟨e.1,?_⟩⟩,?_,?_,λe=>?_⟩
 ·cases b
  ·show x<=pl+(s.level+1);omega
  ·exact e.2
 ·cases b
  ·show s.t+1+Qx ys<=g.length+(s.level+1);have:Qx ys+0<=Qx s.xs:=h1;omega
  ·show s.t+1+Qx ys<=g.length+s.level;have:Qx ys+1<=Qx s.xs:=h1;omega
 ·cases c with
  | true =>
    have:=(h2 O).1;cases b
    ·show s.level+1<=g.length+0;omega
    ·show s.level<=g.length+0;omega
  | false =>
    cases b
    ·show s.level+1<=g.length+1;omega
    ·show s.level<=g.length+1;omega
 ·have e:c=true:=by simpa using e
  obtain⟨-,v,y,-,hv,hy⟩:=h2 e;exact Zh hv hy
theorem CrI.zfu {g:List (List Nat)}{s:PL}(h:CrI g s)(hd:s.done=false):s.t<2*g.length:=by
 have h1:=h.t
 have h2:=h.lvl
 have h3:=h.run hd
 rw[hd] at h2
 have h2:s.level<=g.length:=by simpa using h2
 omega
theorem CrI.bounds {g:List (List Nat)}{s:PL}(h:CrI g s):s.t<=2*g.length+2/\s.level<=g.length+1:=by
 have h1:=h.t
 have h2:=h.lvl
 cases hd:s.done with
 | true => rw [hd] at h2; have h2 : s.level <= g.length + 1 := by simpa using h2
           omega
 | false => rw [hd] at h2; have h2 : s.level <= g.length := by simpa using h2
            omega
def unB (xs:List Nat)(u:Nat):Bool:=match xs[u]? with
 |some y=>decide (y<pl)
 |none=>false
theorem PT {xs:List Nat}{u:Nat}:unB xs u=true↔∃y,xs[u]? =some y/\y<pl:=by
 unfold unB
 cases e:xs[u]? with
 |none=>simp
 |some y=>simp
structure Z7 (g:List (List Nat)):Prop where
 sym:∀u v,u∈Lo g v->v∈Lo g u
 irr:∀v,v∉Lo g v
theorem Vo {g:List (List Nat)}(h:Nu g)(v:Nat):(Lo g v).Nodup:=by
 unfold Lo
 cases e:g[v]? with
 |none=>exact List.nodup_nil
 | some l =>
   have hr:List.Pairwise (·<·) l:=(h.ok l (List.mem_of_getElem? e)).Uq;exact hr.imp (λh=>by omega)
def Exact (g:List (List Nat))(xs:List Nat):Prop:=∀v y,xs[v]? =some y->y<pl->y=(Lo g v).countP (unB xs)
theorem z0F (xs:List Nat)(u w:Nat):unB (lessC xs u) w=unB xs w:=by
 unfold lessC
 split
 ·rename_i d hd
  split
  ·rfl
  ·rename_i hc
   have hu:u<xs.length:=by
    rcases Nat.lt_or_ge u xs.length with e| e
    ·exact e
    ·rw[List.getElem?_eq_none e] at hd;cases hd
   by_cases e:u=w
   ·subst e;unfold unB;rw[List.getElem?_set_self hu,hd]
    have:d<pl:=by
     rcases Nat.lt_or_ge d pl with e| e
     ·exact e
     ·exact absurd (.inl e) hc
    have h2:d-1<pl:=by omega
    simp only[this,h2]
   ·unfold unB;rw[List.getElem?_set_ne e]
 ·rfl
theorem z4Y {xs:List Nat}{u w:Nat}{y:Nat}(h:xs[w]? =some y)(hy:y<pl):(lessC xs u)[w]? =some (if u=w then y-1 else y):=by
 unfold lessC
 by_cases e:u=w
 ·subst e;rw[h,if_pos O]
  have hu:u<xs.length:=by
   rcases Nat.lt_or_ge u xs.length with e| e
   ·exact e
   ·rw[List.getElem?_eq_none e] at h;cases h
  dsimp only;split
  ·rename_i hc
   rcases hc with e| e
   ·omega
   ·subst e;exact h
  ·exact List.getElem?_set_self hu
 ·rw[if_neg e];split
  ·split
   ·exact h
   ·rw[List.getElem?_set_ne e];exact h
  ·exact h
theorem z1q {xs:List Nat}{u w:Nat}{y:Nat}(h:xs[w]? =some y)(hy:pl<=y):(lessC xs u)[w]? =some y:=by
 unfold lessC
 split
 ·rename_i d hd
  split
  ·exact h
  ·rename_i hc
   by_cases e:u=w
   ·subst e;rw[h] at hd;cases hd;exact absurd (.inl hy) hc
   ·rw[List.getElem?_set_ne e];exact h
 ·exact h
theorem Tk {xs:List Nat}{w y:Nat}(h:xs[w]? =some y):∀(l:List Nat),l.Nodup->(∀u,unB (l.foldl lessC xs) u=unB xs u)/\(y<pl->(l.foldl lessC xs)[w]? =some (if w∈l then y-1 else y))/\(pl<=y->(l.foldl lessC xs)[w]? =some y):=by
 intro l
 induction l generalizing xs y with
 |nil=>exact λ_=>⟨λ_=>rfl,λ_=>by simp[h],λ_=>h⟩
 | cons u l ih =>
   intro hn;obtain⟨hu,hn⟩:=List.nodup_cons.1 hn;rw[List.foldl_cons];rcases Nat.lt_or_ge y pl with hy|hy
   ·have h1:=z4Y (u:=u) h hy;obtain⟨k1,k2,-⟩:=ih h1 hn;refine⟨λx=>by rw[k1,z0F],λ_=>?_,λe=>by omega⟩;rw[k2 (by split<;>omega)];by_cases e:u=w
    ·subst e;rw[if_neg hu,if_pos O,if_pos List.mem_cons_self]
    ·rw[if_neg e];by_cases e2:w∈l
     ·rw[if_pos e2,if_pos (List.mem_cons_of_mem _ e2)]
     ·rw[if_neg e2,if_neg (λe3=>(List.mem_cons.1 e3).elim (λe4=>e e4.symm) e2)]
   ·have h1:=z1q (u:=u) h hy;obtain⟨k1,-,k3⟩:=ih h1 hn;exact⟨λx=>by rw[k1,z0F],λe=>by omega,λ_=>k3 hy⟩
theorem z0w {l:List Nat}{p q:Nat->Bool}{v:Nat}(hn:l.Nodup)(hv:p v=true)(hq:∀u,q u=(p u&&decide (u≠v))):l.countP q+(if v∈l then 1 else 0)=l.countP p:=by
 induction l with
 |nil=>simp
 | cons u l ih =>
   obtain⟨hu,hn⟩:=List.nodup_cons.1 hn;have:=ih hn;rw[List.countP_cons,List.countP_cons,hq u];by_cases e:u=v
   ·subst e;rw[if_neg hu] at this;rw[if_pos List.mem_cons_self,hv];simp;omega
   ·have hm:(v∈u::l)↔v∈l:=by
     rw[List.mem_cons];exact⟨λh=>h.elim (λe2=>absurd e2.symm e) id,.inr⟩
    simp only[hm];cases hp:p u<;>simp[e]<;>omega
theorem W7 {g:List (List Nat)}(hg:Nu g)(hs:Z7 g){L v d:Nat}{xs:List Nat}(h:Exact g xs)(hv:xs[v]? =some d)(hd:d<pl):Exact g (NZ g L xs v)/\(∀u,unB (NZ g L xs v) u=(unB xs u&&decide (u≠v)))/\(NZ g L xs v)[v]? =some (pl+L)/\∀w y,xs[w]? =some y->pl<=y->w≠v->(NZ g L xs v)[w]? =some y:=by
 have hvl:v<xs.length:=by
  rcases Nat.lt_or_ge v xs.length with e| e
  ·exact e
  ·rw[List.getElem?_eq_none e] at hv;cases hv
 have h1:(xs.set v (pl+L))[v]? =some (pl+L):=List.getElem?_set_self hvl
 have hnd:=Vo hg v
 obtain⟨u1,-,u3⟩:=Tk h1 (Lo g v) hnd
 have hun:∀u,unB (NZ g L xs v) u=(unB xs u&&decide (u≠v)):=λu=>by
  unfold NZ;rw[u1];unfold unB;by_cases e:v=u
  ·subst e;rw[h1];simp
  ·rw[List.getElem?_set_ne e];have:decide (u≠v)=true:=by simp;exact λe2=>e e2.symm
   rw[this,Bool.and_true]
 refine⟨λw y hw hy=>?_,hun,u3 (by omega),λw y hw hy hwv=>?_⟩
 ·have hwu:unB (NZ g L xs v) w=true:=PT.2 ⟨y,hw,hy⟩;rw[hun] at hwu;simp only[Bool.and_eq_true,decide_eq_true_eq] at hwu;obtain⟨y0,e0,e1⟩:=PT.1 hwu.1;have hx0:=h w y0 e0 e1;have h2:(xs.set v (pl+L))[w]? =some y0:=by rw[List.getElem?_set_ne (λe=>hwu.2 e.symm)];exact e0
  obtain⟨-,k2,-⟩:=Tk h2 (Lo g v) hnd;have hk:=k2 e1;have hw2:(List.foldl lessC (xs.set v (pl+L)) (Lo g v))[w]? =some y:=hw;rw[hk] at hw2;have hc:=z0w (l:=Lo g w) (p:=unB xs) (q:=unB (NZ g L xs v)) (v:=v) (Vo hg w) (PT.2 ⟨d,hv,hd⟩) hun;by_cases e:w∈Lo g v
  ·rw[if_pos e] at hw2;rw[if_pos (hs.sym w v e)] at hc;cases hw2;omega
  ·rw[if_neg e] at hw2;rw[if_neg (λe2=>e (hs.sym v w e2))] at hc;cases hw2;omega
 ·have h2:(xs.set v (pl+L))[w]? =some y:=by rw[List.getElem?_set_ne (λe=>hwv e.symm)];exact hw
  exact(Tk h2 (Lo g v) hnd).2.2 hy
/-! ### Cores -/
def YE (g:List (List Nat))(k:Nat)(S:Nat->Bool):Prop:=∀v,S v=true->v<g.length/\k<=(Lo g v).countP S
def QS (g:List (List Nat))(k v:Nat):Prop:=∃S,YE g k S/\S v=true
theorem QS.le {g:List (List Nat)}{k j v:Nat}(h:QS g k v)(hj:j<=k):QS g j v:=by
 obtain⟨S,h1,h2⟩:=h
 exact⟨S,λu hu=>⟨(h1 u hu).1,Nat.le_trans hj (h1 u hu).2⟩,h2⟩
structure CoJ (g:List (List Nat))(L:Nat)(xs:List Nat):Prop where
 ex:Exact g xs
 lo:∀k S,YE g k S->∀v,S v=true->unB xs v=true\/∃l,k<=l/\xs[v]? =some (pl+l)
 hi:∀v l,xs[v]? =some (pl+l)->l<=L/\QS g l v
 un:∀v,unB xs v=true->QS g L v
theorem CoJ.zeN {g : List (List Nat)}(hg : Nu g)(hs : Z7 g){L v d : Nat}{xs : List Nat}(h : CoJ g L xs)(hv : xs[v]? = some d)(hd : d < pl)(hL : d <= L) : CoJ g L (NZ g L xs v) := by
 obtain⟨k1,k2,k3,k4⟩:=W7 (L:=L) hg hs h.ex hv hd
 have hun:unB xs v=true:=PT.2 ⟨d,hv,hd⟩
 refine⟨k1,λk S hS w hw=>?_,λw l hw=>?_,λw hw=>?_⟩
 ·by_cases e:w=v
  ·subst e
   right
   refine⟨L,?_,k3⟩;rcases Nat.lt_or_ge L k with hk|hk
   ·have h1:(Lo g w).countP S<=(Lo g w).countP (unB xs):=List.countP_mono_left λu _ hu=>by
     rcases h.lo k S hS u hu with e|⟨l,e1,e2⟩
     ·exact e
     ·have:=(h.hi u l e2).1;omega
    have h2:=(hS w hw).2;have h3:=h.ex w d hv hd;omega
   ·exact hk
  ·rcases h.lo k S hS w hw with e1|⟨l,e1,e2⟩
   ·left
    rw[k2,e1];simp[e]
   ·exact .inr ⟨l,e1,k4 w _ e2 (by omega) e⟩
 ·by_cases e : w = v
  ·subst e;rw[k3] at hw;have:L=l:=by have:=Option.some.inj hw;omega
   subst this;exact⟨Nat.le_refl _,h.un w hun⟩
  ·have hnu : unB (NZ g L xs v) w = false := by
    unfold unB;rw[hw];simp
   rw[k2] at hnu;have hnu:unB xs w=false:=by simpa[e] using hnu
   have hlen : ∃ y, xs[w]? = some y := by
    cases e3:xs[w]? with
    |some y=>exact⟨y,rfl⟩
    | none =>
      have hl : (NZ g L xs v).length = xs.length := by
       have:∀(l:List Nat) (zs:List Nat),(l.foldl lessC zs).length=zs.length:=λl=>by
        induction l with
        |nil=>exact λ_=>rfl
        | cons u l ih =>
          intro zs;rw[List.foldl_cons,ih];unfold lessC;split
          ·split
           ·rfl
           ·exact List.length_set
          ·rfl
       unfold NZ;rw[this,List.length_set]
      rw[List.getElem?_eq_none (by rw[hl];exact List.getElem?_eq_none_iff.1 e3)] at hw;cases hw
   obtain⟨y,hy⟩:=hlen
   have hyp:pl<=y:=by
    rcases Nat.lt_or_ge y pl with e4|e4
    ·rw[PT.2 ⟨y,hy,e4⟩] at hnu;cases hnu
    ·exact e4
   rw[k4 w y hy hyp e] at hw;have e5:=Option.some.inj hw;exact h.hi w l (by rw[hy,e5])
 ·rw[k2] at hw;simp only[Bool.and_eq_true] at hw;exact h.un w hw.1
structure SwJ (g:List (List Nat))(L m:Nat)(xs:List Nat)(p:List Nat×Bool×Bool):Prop where
 co:CoJ g L p.1
 st:p.2.1=false->p.1=xs/\∀v y,v<m->xs[v]? =some y->y<pl->L<y
 dn:p.2.2=false->∀v,v<m->unB p.1 v=false
theorem zaW {g:List (List Nat)}(hg:Nu g)(hs:Z7 g){L m:Nat}{xs:List Nat}{p:List Nat×Bool×Bool}(hl:p.1.length=g.length)(hm:m<g.length)(h:SwJ g L m xs p):SwJ g L (m+1) xs (T5 g L p m):=by
 unfold T5
 split
 ·rename_i d hd
  split
  ·rename_i hp
   refine⟨h.co,λe=>⟨(h.st e).1,λv y hv hy hyp=>?_⟩,λe v hv=>?_⟩
   ·by_cases e2:v=m
    ·subst e2;rw[(h.st e).1,hy] at hd;cases hd;omega
    ·exact(h.st e).2 v y (by omega) hy hyp
   ·by_cases e2:v=m
    ·subst e2;unfold unB;rw[hd];simp;exact hp
    ·exact h.dn e v (by omega)
  ·rename_i hd1
   split
   ·rename_i hL
    refine⟨h.co,λe=>⟨(h.st e).1,λv y hv hy hyp=>?_⟩,λe=>by cases e⟩;by_cases e2:v=m
    ·subst e2;rw[(h.st e).1,hy] at hd;cases hd;exact hL
    ·exact(h.st e).2 v y (by omega) hy hyp
   ·rename_i hL
    obtain⟨-,k2,-,-⟩:=W7 (L:=L) hg hs h.co.ex hd (by omega);refine⟨h.co.zeN hg hs hd (by omega) (by omega),λe=>(by cases e),λe v hv=>?_⟩;show unB (NZ g L p.1 m) v=false;rw[k2];by_cases e2:v=m
    ·subst e2;simp
    ·rw[h.dn e v (by omega)];rfl
 ·rename_i hd
  exact absurd hd (by rw[List.getElem?_eq_getElem (by omega)];simp)
theorem z5G {g:List (List Nat)}(hg:Nu g)(hs:Z7 g)(hn:g.length<pl){L:Nat}{xs:List Nat}(hnum:Yv g.length L xs)(h:CoJ g L xs):SwJ g L g.length xs (Rh g L xs):=by
 have key:∀m,m<=g.length->SwC g.length L m xs ((List.range m).foldl (T5 g L) (xs,false,false))/\SwJ g L m xs ((List.range m).foldl (T5 g L) (xs,false,false)):=λm=>by
  induction m with
  |zero=>exact λ_=>⟨⟨hnum,Nat.le_refl _,λe=>by cases e⟩,⟨h,λ_=>⟨rfl,λv y hv=>by omega⟩,λ_ v hv=>by omega⟩⟩
  | succ m ih =>
    intro hm;obtain⟨h1,h2⟩:=ih (by omega);rw[List.range_succ,List.foldl_append,List.foldl_cons,List.foldl_nil];exact⟨X5 hn (by omega) h1,zaW hg hs h1.num.len (by omega) h2⟩
 exact(key _ (Nat.le_refl _)).2
structure CrJ (g:List (List Nat))(s:PL):Prop where
 i:CrI g s
 co:CoJ g s.level s.xs
 dn:s.done=true->∀v,v<g.length->unB s.xs v=false
theorem CrJ.new {g:List (List Nat)}(hg:Nu g)(h1:1<=g.length)(hn:g.length<pl):CrJ g (PL.new g):=by
 have hall:∀v,v<g.length->∃y,(g.map List.length)[v]? =some y/\y=(Lo g v).length/\y<pl:=λv hv=>by
  have e:g[v]? =some g[v]:=List.getElem?_eq_getElem hv;refine⟨g[v].length,by rw[List.getElem?_map,e];rfl,by unfold Lo;rw[e];rfl,?_⟩;have:=hg.len (List.mem_of_getElem? e);omega
 have hun:∀v,v<g.length->unB (PL.new g).xs v=true:=λv hv=>by
  obtain⟨y,e1,-,e2⟩:=hall v hv;exact PT.2 ⟨y,e1,e2⟩
 have hlt:∀v y,(PL.new g).xs[v]? =some y->v<g.length:=λv y hy=>by
  rcases Nat.lt_or_ge v g.length with e| e
  ·exact e
  ·rw[List.getElem?_eq_none (by show(g.map List.length).length<=v;rw[List.length_map];exact e)] at hy;cases hy
 refine⟨CrI.new hg h1 hn,⟨λv y hy hyp=>?_,λk S hS v hv=> .inl (hun v (hS v hv).1),λv l hl=>?_,λv hv=>?_⟩,λe=>by cases e⟩
 ·obtain⟨z,e1,e2,-⟩:=hall v (hlt v y hy);have hy':(g.map List.length)[v]? =some y:=hy;rw[e1] at hy';cases hy';rw[e2];exact(List.countP_eq_length.2 λu hu=>hun u (NR hg v u hu)).symm
 ·obtain⟨z,e1,-,e2⟩:=hall v (hlt v _ hl);have hl':(g.map List.length)[v]? =some (pl+l):=hl;rw[e1] at hl';cases hl';omega
 ·obtain⟨y,hy,-⟩:=PT.1 hv;exact⟨λu=>decide (u<g.length),λu hu=>⟨by simpa using hu,Nat.zero_le _⟩,by simpa using hlt v y hy⟩
theorem CrJ.step {g:List (List Nat)}(hg:Nu g)(hs:Z7 g)(hn:g.length<pl){s:PL}(h:CrJ g s)(hd:s.done=false):CrJ g (s.step g):=by
 have hJ:=z5G hg hs hn h.i.num h.co
 have h1:=hJ.co
 have h2:=hJ.st
 have h3:=hJ.dn
 refine⟨h.i.step hn hd,?_,λe=>?_⟩
 ·unfold PL.step;obtain⟨q,hq⟩:∃q,Rh g s.level s.xs=q:=⟨_,rfl⟩;rw[hq] at h1 h2⊢;obtain⟨ys,b,c⟩:=q;dsimp only at h1 h2⊢
  cases b with
  |true=>exact h1
  | false =>
    obtain⟨e1,e2⟩:=h2 O;have hlen:=h.i.num.len;subst e1;refine⟨h1.ex,h1.lo,λv l hl=>⟨by have:=(h1.hi v l hl).1;show l<=s.level+1;omega,(h1.hi v l hl).2⟩,λv hv=>⟨unB s.xs,λu hu=>?_,hv⟩⟩;obtain⟨y,hy,hyp⟩:=PT.1 hu
    have hul:u<g.length:=by
     rcases Nat.lt_or_ge u g.length with e| e
     ·exact e
     ·rw[List.getElem?_eq_none (by omega)] at hy;cases hy
    have:=e2 u y hul hy hyp;have:=h1.ex u y hy hyp;exact⟨hul,by show s.level+1<=_;omega⟩
 ·refine h3 ?_;have e:(!(Rh g s.level s.xs).2.2)=true:=e
  simpa using e
theorem CrJ.value {g:List (List Nat)}(hg:Nu g){s:PL}(h:CrJ g s)(hd:s.done=true){v:Nat}(hv:v<g.length):∃l,s.xs[v]? =some (pl+l)/\l<=g.length/\∀k,QS g k v↔k<=l:=by
 have hu:=h.dn hd v hv
 have hlen:=h.i.num.len
 obtain⟨y,hy⟩:∃y,s.xs[v]? =some y:=⟨_,List.getElem?_eq_getElem (by omega)⟩
 have hyp:pl<=y:=by
  rcases Nat.lt_or_ge y pl with e| e
  ·rw[PT.2 ⟨y,hy,e⟩] at hu;cases hu
  ·exact e
 obtain⟨l,rfl⟩:∃l,y=pl+l:=⟨y-pl,by omega⟩
 have hc:=(h.co.hi v l hy).2
 refine⟨l,hy,?_,λk=>⟨λhk=>?_,λhk=>hc.le hk⟩⟩
 ·obtain⟨S,h1,h2⟩:=hc;have h3:=(h1 v h2).2;have h4:(Lo g v).countP S<=(Lo g v).length:=List.countP_le_length
  have h5:(Lo g v).length<=g.length:=by
   unfold Lo
   cases e:g[v]? with
   |none=>exact Nat.zero_le _
   |some l=>exact hg.len (List.mem_of_getElem? e)
  omega
 ·obtain⟨S,h1,h2⟩:=hk;rcases h.co.lo k S h1 v h2 with e|⟨j,e1,e2⟩
  ·rw[hu] at e;cases e
  ·rw[hy] at e2;have:=Option.some.inj e2;omega
def Um (s:PL)(v:Nat):Nat:=(s.xs[v]?).getD 0-pl
theorem CrJ.zfs {g:List (List Nat)}(hg:Nu g){s:PL}(h:CrJ g s)(hd:s.done=true){v:Nat}(hv:v<g.length):Um s v<=(Lo g v).countP (λu=>decide (Um s v<=Um s u)):=by
 have hc:∀u,u<g.length->∀k,QS g k u↔k<=Um s u:=λu hu=>by
  obtain⟨l,h1,-,h2⟩:=h.value hg hd hu;intro k;rw[h2 k];unfold Um;rw[h1];simp
 obtain⟨S,h1,h2⟩:=(hc v hv (Um s v)).2 (Nat.le_refl _)
 refine Nat.le_trans (h1 v h2).2 (List.countP_mono_left λu _ hu=>?_)
 simp only[decide_eq_true_eq]
 exact(hc u (h1 u hu).1 (Um s v)).1 ⟨S,h1,hu⟩
def z2b (ls:List Nat)(u:Nat):Bool:=decide (ls[u]? =some 1)
def UJ (ls:List Nat)(l:List Nat):Nat:=(l.map λu=>(ls[u]?).getD 0).sum
structure KpI (g:List (List Nat))(k:Nat)(ls:List Nat):Prop where
 len:ls.length=g.length
 bit:∀(v x:Nat),ls[v]? =some x->x=0\/x=1
 core:∀S,YE g k S->∀v,S v=true->ls[v]? =some 1
theorem KpI.sum {g:List (List Nat)}{k:Nat}{ls:List Nat}(h:KpI g k ls):∀(l:List Nat),UJ ls l=l.countP (z2b ls)
 |[]=>rfl
 | u :: l => by
   have ih:=h.sum l;unfold UJ at ih⊢;rw[List.map_cons,List.sum_cons,ih,List.countP_cons];unfold z2b
   cases e:ls[u]? with
   |none=>simp
   | some x =>
     rcases h.bit u x e with rfl|rfl
     ·simp
     ·simp;omega
theorem KpI.new {g:List (List Nat)}{k:Nat}:KpI g k (List.replicate g.length 1):=
 ⟨by simp,λv x hx=>by rw[List.getElem?_replicate] at hx;split at hx<;>cases hx;exact .inr O,λS hS v hv=>by rw[List.getElem?_replicate,if_pos (hS v hv).1]⟩
theorem KpI.drop {g:List (List Nat)}{k v:Nat}{ls:List Nat}(h:KpI g k ls)(hv:v<g.length)(hn:UJ ls (Lo g v)<k):KpI g k (ls.set v 0):=by
 have hl:=h.len
 refine⟨by rw[List.length_set];exact hl,λu x hx=>?_,λS hS u hu=>?_⟩
 ·by_cases e:v=u
  ·subst e;rw[List.getElem?_set_self (by omega)] at hx;cases hx;exact .inl O
  ·rw[List.getElem?_set_ne e] at hx;exact h.bit u x hx
 ·by_cases e:v=u
  ·subst e;exfalso;have h1:=(hS v hu).2
   have h2:(Lo g v).countP S<=(Lo g v).countP (z2b ls):=List.countP_mono_left λx _ hx=>by
    unfold z2b;simp only[decide_eq_true_eq];exact h.core S hS x hx
   rw[h.sum] at hn;omega
  ·rw[List.getElem?_set_ne e];exact h.core S hS u hu
theorem KpI.fin {g:List (List Nat)}{k:Nat}{ls:List Nat}(h:KpI g k ls)(hf:∀v,v<g.length->ls[v]? =some 1->k<=UJ ls (Lo g v))(v:Nat):ls[v]? =some 1↔QS g k v:=by
 refine⟨λhv=>⟨z2b ls,λu hu=>?_,by unfold z2b;simpa using hv⟩,λ⟨S,h1,h2⟩=>h.core S h1 v h2⟩
 unfold z2b at hu
 have hu:ls[u]? =some 1:=by simpa using hu
 have hul:u<g.length:=by
  rcases Nat.lt_or_ge u g.length with e| e
  ·exact e
  ·rw[List.getElem?_eq_none (by rw[h.len];exact e)] at hu;cases hu
 have:=hf u hul hu
 rw[h.sum] at this
 exact⟨hul,this⟩
theorem z36:∀{ls:List Nat} {v:Nat},ls[v]? =some 1->(ls.set v 0).sum+1=ls.sum
 |[],v,h=>by simp at h
 | x :: ls, 0, h => by
   simp at h;subst h;simp[List.sum_cons]
   omega
 | x :: ls, v + 1, h => by
   simp at h;have:=z36 h;rw[List.set_cons_succ,List.sum_cons,List.sum_cons];omega
def TY (ls:List Nat):List Value:=ls.map λ(x:Nat)=>I (x:Int)
theorem Zo (ls:List Nat)(v x:Nat):(TY ls).set v (I (x:Int))=TY (ls.set v x):=(List.map_set ..).symm
theorem z0Q (ls:List Nat):(TY ls).length=ls.length:=List.length_map ..
theorem TP {ls:List Nat}{v x:Nat}(h:ls[v]? =some x):(TY ls)[v]? =some (I (x:Int)):=by
 unfold TY
 rw[List.getElem?_map,h];rfl
theorem z4j {ls l:List Nat}{i x y:Nat}(h:l[i]? =some x)(hy:ls[x]? =some y):UJ ls (l.take (i+1))=UJ ls (l.take i)+y:=by
 unfold UJ
 rw[M4 h,List.map_append,List.sum_append]
 simp[hy]
theorem z5n {g : List (List Nat)}(aw : Nu g){w : World}{gb go gc : Nat}(hg : GrR w gb go g){k : Nat}(hk : k <= 1000000) : LP Tryz.prog 11 [.slice (some ⟨gb, go, none⟩) g.length gc, I (k : Int)] w λv w' => ∃ bl ls, v = .slice (some ⟨bl, 0, none⟩) g.length g.length /\ Lq w' bl (TY ls) 3 /\ ls.length = g.length /\ (∀ v, ls[v]? = some 1 ↔ QS g k v) /\ w.heap.size <= bl /\ Ext w w' := by
 have ev:maxLen=9223372036854775807:=rfl
 have hn:=aw.n
 refine Lb (e:=[(0,_),(1,_)]) Tryz.func11 O Tryz.ntmps11 O O$ qN O$ Lw O$ qM O$ Le O$ Nd Qq O$ Lm O O (pmk (c:=g.length) (n:=g.length) N3 Md O O O (by omega) (by omega) (by omega)) ?_
 rintro _ w1 ⟨bl,rfl,⟨eT,ad,ai⟩,-⟩
 have fJ:Lq w1 bl (TY (List.replicate g.length 0)) 3:=by
  unfold TY;rw[List.map_replicate];exact ai
 refine Lk O$ run_seq$ qN O$ Lk O$ Lc$ Nj (α:=Nat×List Nat) ((0,List.replicate g.length 0)) (λy=>[(0,.slice (some ⟨gb,go,none⟩) g.length gc),(1,I (k:Int)),(5,.slice (some ⟨bl,0,none⟩) g.length g.length),(6,I (y.1:Int))]) (λy w'=>y.1<=g.length/\y.2.length=g.length/\(∀j,j<y.1->y.2[j]? =some 1)/\Lq w' bl (TY y.2) 3/\Ext w w') (λy=>g.length-y.1) ?hI ?hround
 case hI=>exact⟨Nat.zero_le _,List.length_replicate,λj hj=>absurd hj (Nat.not_lt_zero _),fJ,ad⟩
 case hround =>
  rintro⟨i,ls⟩ w2 ⟨hi,dN,gR,am,ag⟩ ih;dsimp only at hi dN gR am ih⊢;have gE:=z0Q ls
  try dsimp only
  refine run_seq$ qN O$ Lu O O$ Nd Qq O$ Mw O O$ Lf$ Lp O (λhq=>?_)$ λhq=>?_
  ·refine py$ run_seq$ Lc$ Li O$ Lu O O$ qV (M9 N3 Md O O (by omega))$ Ls O (MY Md O O O am (by rw[gE,dN];omega)) ?_;rintro w3 ⟨aq,ax⟩;rw[Nat.zero_add,Nat.mul_one,show Value.int .i64 1=I ((1:Nat):Int) from rfl,Zo] at aq;refine Lf$ Ld$ Li O$ Le O$ Mb O O$ Lk O ((ih (i+1,ls.set i 1) _ ⟨by show i+1<=g.length;omega,by show(ls.set i 1).length=_;rw[List.length_set];exact dN,λj hj=>?_,aq,ag.It ax λb e=>by omega⟩ (by show g.length-(i+1)<g.length-i;omega)).qb);show(ls.set i 1)[j]? =_;by_cases e:i=j
   ·subst e;rw[List.getElem?_set_self (by omega)]
   ·rw[List.getElem?_set_ne e];have hj:j<i+1:=hj;exact gR j (by omega)
  ·have aT : i = g.length := by omega
   subst aT
   have gA:ls=List.replicate g.length 1:=by
    apply List.ext_getElem?;intro j;by_cases hj:j<g.length
    ·rw[gR j hj,List.getElem?_replicate,if_pos hj]
    ·rw[List.getElem?_eq_none (by omega),List.getElem?_eq_none (by rw[List.length_replicate];omega)]
   subst gA;refine Ln O$ run_seq$ qN O$ Lk O$ Lc$ Nj (α:=Bool×List Nat) ((true,List.replicate g.length 1)) (λy=>[(0,.slice (some ⟨gb,go,none⟩) g.length gc),(1,I (k:Int)),(5,.slice (some ⟨bl,0,none⟩) g.length g.length),(7,.bool y.1)]) (λy w'=>KpI g k y.2/\(y.1=false->∀v,v<g.length->y.2[v]? =some 1->k<=UJ y.2 (Lo g v))/\Lq w' bl (TY y.2) 3/\Ext w w') (λy=>2*y.2.sum+(if y.1 then 1 else 0)) ?hI ?hround
   case hI=>exact⟨KpI.new,λe=>(by cases e),am,ag⟩
   case hround =>
    rintro⟨ch,ls⟩ w3 ⟨zP,md,aq,ah⟩ ih2;dsimp only at zP md aq ih2⊢;have dN:=zP.len
    try dsimp only
    cases ch with
    | false =>
      refine run_seq$ qN O$ Le O$ Lf$ An O$ Ln O$ qN O$ Le O$ Lk O$ Lh Tryz.func11 O ?_
      exact⟨_,rfl,bl,ls,rfl,aq,dN,zP.fin (md O),by omega,ah⟩
    | true =>
      refine run_seq$ qN O$ Le O$ Lf$ Lr O$ py$ Lc$ qN O$ Lw O$ qM O$ Lk O$ Lc$ Nj (α:=Nat×Bool×List Nat) ((0,false,ls)) (λy=>[(0,.slice (some ⟨gb,go,none⟩) g.length gc),(1,I (k:Int)),(5,.slice (some ⟨bl,0,none⟩) g.length g.length),(7,.bool y.2.1),(8,I (y.1:Int))]) (λy w'=>y.1<=g.length/\KpI g k y.2.2/\y.2.2.sum+(if y.2.1 then 1 else 0)<=ls.sum/\(y.2.1=false->∀v,v<y.1->y.2.2[v]? =some 1->k<=UJ y.2.2 (Lo g v))/\Lq w' bl (TY y.2.2) 3/\Ext w w') (λy=>g.length-y.1) ?hI ?hround
      case hI=>exact⟨Nat.zero_le _,zP,Nat.le_refl _,λ_ v hv=>absurd hv (Nat.not_lt_zero _),aq,ah⟩
      case hround =>
       rintro⟨v,c2,l2⟩ w4 ⟨hv,ti,mb,kD,aF,ay⟩ ih3;dsimp only at hv ti mb kD aF ih3⊢;have Fy:=ti.len;have DN:=z0Q l2
       try dsimp only
       refine run_seq$ qN O$ Lu O O$ Nd Qq O$ Mw O O$ Lf$ Lp O (λeC=>?_)$ λeC=>?_
       ·have di:v<g.length:=by omega
        have dS:g[v]? =some (Lo g v):=by unfold Lo;rw[List.getElem?_eq_getElem di];rfl
        have fm:(Lo g v).length<=g.length:=aw.len (List.mem_of_getElem? dS);obtain⟨a,c,dv,dM⟩:=hg v _ dS;refine py$ run_seq$ Lc$ qN O$ Lk O$ run_seq$ qN O$ Lk O$ Lc$ Nl (λe' w'=>e'=[(0,.slice (some ⟨gb,go,none⟩) g.length gc),(1,I (k:Int)),(5,.slice (some ⟨bl,0,none⟩) g.length g.length),(7,.bool c2),(8,I (v:Int)),(9,I (UJ l2 (Lo g v):Int))]/\w'=w4) ?fw$ λfw=>?rJ
        case fw=>
         rintro e' w5 ⟨rfl,rfl⟩;obtain⟨x,hx⟩:∃x,l2[v]? =some x:=⟨_,List.getElem?_eq_getElem (by omega)⟩
         have kT:w5.cell? ⟨bl,0+v*1,none⟩=some (I (x:Int)):=by
          rw[aF.cell,Nat.zero_add,Nat.mul_one];exact TP hx
         refine qN O$ Lu O O$ qV (M9 N3 Md O O (by omega))$ qV (LN U3 O O kT) ?_;by_cases ad:x=1
         ·subst ad;refine Nb O O$ Ns$ Lu O O$ Le O ?_;by_cases CW:UJ l2 (Lo g v)<k
          ·refine Mw O O$ Ns$ MU O O$ Lf$ Lr O$ qN O$ Lu O O$ qV (M9 N3 Md O O (by omega))$ Ls O (MY Md O O O aF (by rw[DN,Fy];omega)) ?_;rintro w6 ⟨aR,aU⟩;rw[Nat.zero_add,Nat.mul_one,show Value.int .i64 0=I ((0:Nat):Int) from rfl,Zo] at aR;have KW:=z36 hx;refine Lf$ Li O$ Lk O$ Ld$ Li O$ Le O$ Mb O O$ Lk O ?_;exact(ih3 (v+1,true,l2.set v 0) _ ⟨by show v+1<=g.length;omega,ti.drop di CW,by show(l2.set v 0).sum+1<=ls.sum;cases c2<;>simp at mb<;>omega,λe=>(by cases e),aR,ay.It aU λb e=>by omega⟩ (by show g.length-(v+1)<g.length-v;omega)).qb
          ·refine Mw O O$ M5$ MU O O$ Lf$ An O$ py$ Ld$ Li O$ Le O$ Mb O O$ Lk O ((ih3 (v+1,c2,l2) _ ⟨by show v+1<=g.length;omega,ti,mb,λe u hu gC=>?_,aF,ay⟩ (by show g.length-(v+1)<g.length-v;omega)).qb);have hu:u<v+1:=hu;by_cases e2:u=v
           ·subst e2;show k<=UJ l2 (Lo g u);omega
           ·exact kD e u (by omega) gC
         ·refine Nb O O$ M5$ Le O$ qS$ qS$ qS$ M8 O O$ Lf$ An O$ py$ Ld$ Li O$ Le O$ Mb O O ?_;refine Lk O ((ih3 (v+1,c2,l2) _ ⟨by show v+1<=g.length;omega,ti,mb,λe u hu gC=>?_,aF,ay⟩ (by show g.length-(v+1)<g.length-v;omega)).qb);have hu:u<v+1:=hu;by_cases e2:u=v
          ·subst e2;have gC:l2[u]? =some 1:=gC;rw[hx] at gC;exact absurd (ML gC) ad
          ·exact kD e u (by omega) gC
        case rJ=>
         refine Nj (α:=Nat×Nat) ((0,0)) (λy=>[(0,.slice (some ⟨gb,go,none⟩) g.length gc),(1,I (k:Int)),(5,.slice (some ⟨bl,0,none⟩) g.length g.length),(7,.bool c2),(8,I (v:Int)),(9,I (y.2:Int)),(10,I (y.1:Int))]) (λy w'=>y.1<=(Lo g v).length/\y.2=UJ l2 ((Lo g v).take y.1)/\y.2<=y.1/\w'=w4) (λy=>(Lo g v).length-y.1) ?hI ?hround
         case hI=>exact⟨Nat.zero_le _,rfl,Nat.le_refl _,rfl⟩
         case hround=>
          rintro⟨i,m⟩ w5 ⟨hi,hm,o2,rfl⟩ ih4;dsimp only at hi hm o2 ih4⊢
          try dsimp only
          refine run_seq$ qN O$ Lu O O$ Le O$ qV (M9 Qq O2 O O (by omega))$ qV (LN LI O O (LQ ay dv))$ Nd LI O$ Mw O O$ Lf$ Lp O (λrK=>?_)$ λrK=>?_
          ·obtain⟨x,hx⟩:∃x,(Lo g v)[i]? =some x:=⟨_,List.getElem?_eq_getElem (by omega)⟩;obtain⟨lb,lo,rfl,kT⟩:=dM i x hx;have iF:x<g.length:=NR aw v x (List.mem_of_getElem? hx);obtain⟨y,hy⟩:∃y,l2[x]? =some y:=⟨_,List.getElem?_eq_getElem (by omega)⟩
           have pX:w5.cell? ⟨bl,0+x*1,none⟩=some (I (y:Int)):=by
            rw[aF.cell,Nat.zero_add,Nat.mul_one];exact TP hy
           have pw:=ti.bit x y hy;have eL:=z4j hx hy;refine py$ run_seq$ Lc$ Li O$ Lu O O$ Lu O O$ qV (M9 Qq O2 O O (by omega))$ qV (LN LI O O (LQ ay dv))$ Le O$ qV (M9 LI Lz O O (by omega))$ qV (LN Mx O O (LQ ay kT))$ qV (M9 N3 Md O O (by omega))$ qV (LN U3 O O pX)$ Mb O O ?_;rw[show(m:Int)+(y:Int)=((m+y:Nat):Int) by omega];refine Lk O$ Ld$ Li O$ Le O$ Mb O O$ Lk O ?_;exact(ih4 (i+1,m+y) _ ⟨by show i+1<=_;omega,by show m+y=_;rw[eL,hm],by show m+y<=i+1;omega,rfl⟩ (by show(Lo g v).length-(i+1)<(Lo g v).length-i;omega)).qb
          ·have cE:i=(Lo g v).length:=by omega
           subst cE;rw[List.take_length] at hm;subst hm;refine Ln O ?_;exact(fw _ _ ⟨rfl,rfl⟩).qb
       ·have di:v=g.length:=by omega
        subst di;refine Ln O$ Ld ?_;exact(ih2 (c2,l2) _ ⟨ti,kD,aF,ay⟩ (by show 2*l2.sum+(if c2 then 1 else 0)<2*ls.sum+1;cases c2<;>simp at mb⊢<;>omega)).qb
def QW (g:List (List Nat))(v i u:Nat):List Nat:=(List.range v).filter (λx=>decide (u∈Lo g x))++(if u∈(Lo g v).take i then [v] else [])
def Qd (g:List (List Nat))(v i:Nat):List (List Nat):=(List.range g.length).map (QW g v i)
def T0 (g:List (List Nat)):List (List Nat):=Qd g g.length 0
theorem z2w (g:List (List Nat))(v u:Nat):QW g v (Lo g v).length u=QW g (v+1) 0 u:=by
 unfold QW
 rw[List.take_length,List.range_succ,List.filter_append]
 by_cases h:u∈Lo g v<;>simp[h]
theorem P4 (g:List (List Nat))(v i:Nat):(Qd g v i).length=g.length:=by simp[Qd]
theorem R3 (g:List (List Nat))(v i:Nat){u:Nat}(hu:u<g.length):(Qd g v i)[u]? =some (QW g v i u):=by
 unfold Qd
 rw[List.getElem?_map,List.getElem?_range hu];rfl
theorem z5a (g:List (List Nat))(v i u:Nat):(QW g v i u).length<=v+1:=by
 unfold QW
 have h1:=List.length_filter_le (λx=>decide (u∈Lo g x)) (List.range v)
 rw[List.length_range] at h1
 rw[List.length_append]
 split<;>simp<;>omega
theorem z3M {g:List (List Nat)}(aw:Nu g){v i u:Nat}(hu:(Lo g v)[i]? =some u):(Qd g v i).set u (QW g v i u++[v])=Qd g v (i+1):=by
 have oy:=NR aw v u (List.mem_of_getElem? hu)
 have fA:u∉(Lo g v).take i:=λh=>by
  have di:v<g.length:=by
   rcases Nat.lt_or_ge v g.length with h| h
   ·exact h
   ·unfold Lo at hu;rw[List.getElem?_eq_none h] at hu;cases hu
  have hr:List.Pairwise (·<·) (Lo g v):=by
   unfold Lo;rw[List.getElem?_eq_getElem di];exact(aw.ok _ (List.getElem_mem di)).Uq
  have h2:=M4 hu;have h3:List.Pairwise (·<·) ((Lo g v).take (i+1)):=hr.sublist (List.take_sublist _ _);rw[h2,List.pairwise_append] at h3;have:=h3.2.2 u h u List.mem_cons_self;omega
 apply List.ext_getElem?
 intro x
 by_cases hx:u=x
 ·subst hx;rw[List.getElem?_set_self (by rw[P4];exact oy),R3 _ _ _ oy]
  congr 1
  unfold QW;rw[if_neg fA,List.append_nil,M4 hu,if_pos (by simp)]
 ·rw[List.getElem?_set_ne hx];by_cases iF:x<g.length
  ·rw[R3 _ _ _ iF,R3 _ _ _ iF]
   congr 1
   unfold QW
   congr 1
   rw[M4 hu]
   have:x∈(Lo g v).take i++[u]↔x∈(Lo g v).take i:=by
    rw[List.mem_append,List.mem_singleton];exact⟨λe=>e.resolve_right λe=>hx e.symm,.inl⟩
   simp only[this]
  ·rw[List.getElem?_eq_none (by rw[P4];omega),List.getElem?_eq_none (by rw[P4];omega)]
theorem z4Q (g:List (List Nat)){u:Nat}(hu:u<g.length):(T0 g)[u]? =some ((List.range g.length).filter λx=>decide (u∈Lo g x)):=by
 unfold T0
 rw[R3 _ _ _ hu]
 unfold QW
 rw[List.take_zero,if_neg (by simp),List.append_nil]
theorem TM (g:List (List Nat)):(T0 g).length=g.length:=P4 _ _ _
theorem z7t {g:List (List Nat)}(h:Nu g):Nu (T0 g):=by
 have hl:=TM g
 have g9:∀l∈T0 g,∃u,l=(List.range g.length).filter λx=>decide (u∈Lo g x):=λl hm=>by
  obtain⟨u,hu⟩:=List.getElem?_of_mem hm
  have oy:u<g.length:=by
   rcases Nat.lt_or_ge u g.length with h| h
   ·exact h
   ·rw[List.getElem?_eq_none (by omega)] at hu;cases hu
  rw[z4Q g oy] at hu;exact⟨u,(ML hu).symm⟩
 have hn:=h.n
 refine⟨λl hm=>?_,λl hm y hy=>?_,by omega⟩
 ·obtain⟨u,rfl⟩:=g9 l hm;exact⟨(List.pairwise_lt_range).sublist List.filter_sublist,λy hy=>by have:=List.mem_range.1 (List.mem_filter.1 hy).1;omega⟩
 ·obtain⟨u,rfl⟩:=g9 l hm;have:=List.mem_range.1 (List.mem_filter.1 hy).1;omega
structure RwA (w:World)(bg B:Nat)(L:List (List Nat)):Prop where
 ex:∃vs:List Value,Lq w bg vs 45/\vs.length=L.length/\(∀(i:Nat) (l:List Nat),L[i]? =some l->∃v:Value,vs[i]? =some v/\Sl w v 46 1 l.length (l.map LO)/\∀b,v.ownBlock=some b->B<=b/\b≠bg)/\∀(i j:Nat) (vi vj:Value) (b:Nat),i≠j->vs[i]? =some vi->vs[j]? =some vj->vi.ownBlock=some b->vj.ownBlock≠some b
section
variable {w w':World}{bg B:Nat}{L:List (List Nat)}
theorem RwA.new {n:Nat}(h:Lq w bg (List.replicate n (.slice none 0 0)) 45):RwA w bg B (List.replicate n []):=by
 refine⟨_,h,by simp,λi l hl=>?_,λi j vi vj b _ hi _ hb=>?_⟩
 ·rw[List.getElem?_replicate] at hl;split at hl
  ·rename_i hi
   cases hl;exact⟨.slice none 0 0,by rw[List.getElem?_replicate,if_pos hi],Sl.nil w _ 1,λb hb=>by cases hb⟩
  ·cases hl
 ·have:=List.mem_of_getElem? hi;rw[List.eq_of_mem_replicate this] at hb;cases hb
theorem RwA.rw (h:RwA w bg B L):UO w bg B L:=by
 obtain⟨vs,h1,h2,h3,h4⟩:=h.ex
 refine⟨vs,h1,h2,λi l hl=>?_⟩
 obtain⟨v,g1,g2,g3⟩:=h3 i l hl
 obtain⟨a,c,rfl,-⟩:=g2.rd.shape
 refine⟨a,c,g1,?_,g2.rd,g3⟩
 rcases g2.shape with⟨e1,e2⟩|⟨gg,cc,e1,e2⟩
 ·omega
 ·cases e1;exact e2
theorem RwA.put {w2:World}(h:RwA w bg B L){u:Nat}{l l':List Nat}{v v':Value}{vs:List Value}(nI:Lq w bg vs 45)(hu:L[u]? =some l)(hv:vs[u]? =some v)(hk:Kp (λb=>v.ownBlock=some b) w w')(hS:Sl w' v' 46 1 l'.length (l'.map LO))(ho:∀b,v'.ownBlock=some b->v.ownBlock=some b\/w.heap.size<=b)(ao:Kp (λb=>b=bg) w' w2)(hB:Lq w2 bg (vs.set (0+u*1) v') 45)(tK:B<=w.heap.size):RwA w2 bg B (L.set u l'):=by
 obtain⟨vs0,h1,h2,h3,h4⟩:=h.ex
 have e0:=h1.uniq nI
 subst e0
 rw[Nat.zero_add,Nat.mul_one] at hB
 obtain⟨v0,g1,g2,g3⟩:=h3 u l hu
 rw[hv] at g1
 cases g1
 have eT:=h1.lt
 have rt:u<L.length:=by
  rcases Nat.lt_or_ge u L.length with h| h
  ·exact h
  ·rw[List.getElem?_eq_none h] at hu;cases hu
 have yH:∀b,v'.ownBlock=some b->B<=b/\b≠bg:=λb hb=>by
  rcases ho b hb with e| e
  ·exact g3 b e
  ·omega
 have aV:∀(j:Nat) (vj:Value) (b:Nat),vs0[j]? =some vj->vj.ownBlock=some b->b<w.heap.size:=λj vj b hj hb=>by
  obtain⟨lj,Jf⟩:∃lj,L[j]? =some lj:=⟨_,List.getElem?_eq_getElem (by
   rw[<-h2];rcases Nat.lt_or_ge j vs0.length with h| h
   ·exact h
   ·rw[List.getElem?_eq_none h] at hj;cases hj)⟩
  obtain⟨vj',k1,k2,-⟩:=h3 j lj Jf;rw[hj] at k1;cases k1;exact k2.lt hb
 refine⟨_,hB,by simp[h2],λi li hl=>?_,λi j vi vj b gW hi hj hb=>?_⟩
 ·by_cases e:u=i
  ·subst e;rw[List.getElem?_set_self rt] at hl;cases hl;exact⟨v',List.getElem?_set_self (by rw[h2];exact rt),hS.kp ao (λb hb e=>(yH b hb).2 e),yH⟩
  ·rw[List.getElem?_set_ne e] at hl;obtain⟨vi,k1,k2,k3⟩:=h3 i li hl;exact⟨vi,by rw[List.getElem?_set_ne e];exact k1,(k2.kp hk (λb hb e2=>h4 u i v vi b e hv k1 e2 hb)).kp ao (λb hb e=>(k3 b hb).2 e),k3⟩
 ·by_cases ei:u=i
  ·subst ei;rw[List.getElem?_set_self (by rw[h2];exact rt)] at hi;cases hi;rw[List.getElem?_set_ne gW] at hj;intro c6;rcases ho b hb with e| e
   ·exact h4 u j v vj b gW hv hj e c6
   ·have:=aV j vj b hj c6;omega
  ·rw[List.getElem?_set_ne ei] at hi;by_cases ej:u=j
   ·subst ej;rw[List.getElem?_set_self (by rw[h2];exact rt)] at hj;cases hj;intro c6;rcases ho b c6 with e| e
    ·exact h4 i u vi v b gW hi hv hb e
    ·have:=aV i vi b hi hb;omega
   ·rw[List.getElem?_set_ne ej] at hj;exact h4 i j vi vj b gW hi hj hb
end
theorem z1e {g:List (List Nat)}(aw:Nu g){w:World}{gb go gc:Nat}(hg:GrR w gb go g):LP Tryz.prog 32 [.slice (some ⟨gb,go,none⟩) g.length gc] w λv w'=>∃bt,v= .slice (some ⟨bt,0,none⟩) g.length g.length/\UO w' bt w.heap.size (T0 g)/\Ext w w':=by
 have ev:maxLen=9223372036854775807:=rfl
 have hn:=aw.n
 refine Lb (e:=[(0,_)]) Tryz.func32 O Tryz.ntmps32 O O$ qN O$ Lw O$ qM O$ Le O$ Nd Qq O$ Lm O O (pmk (c:=g.length) (n:=g.length) Qq O2 O O O (by omega) (by omega) (by omega)) ?_
 rintro _ w1 ⟨bt,rfl,⟨pA,ad,ai⟩,-⟩
 have kr:RwA w1 bt w.heap.size (Qd g 0 0):=by
  have e:Qd g 0 0=List.replicate g.length []:=by
   apply List.ext_getElem<;>simp[Qd,QW]
  rw[e];exact RwA.new ai
 refine Lk O$ run_seq$ qN O$ Lk O$ Lc$ Nj (α:=Nat) (0) (λv=>[(0,.slice (some ⟨gb,go,none⟩) g.length gc),(3,.slice (some ⟨bt,0,none⟩) g.length g.length),(4,I (v:Int))]) (λv w'=>v<=g.length/\RwA w' bt w.heap.size (Qd g v 0)/\Ext w w') (λv=>g.length-v) ?hI ?hround
 case hI=>exact⟨Nat.zero_le _,kr,ad⟩
 case hround =>
  rintro v w2 ⟨hv,cH,ag⟩ ih
  try dsimp only
  refine run_seq$ qN O$ Lu O O$ Nd Qq O$ Mw O O$ Lf$ Lp O (λhq=>?_)$ λhq=>?_
  ·have di:v<g.length:=by omega
   have dS:g[v]? =some (Lo g v):=by unfold Lo;rw[List.getElem?_eq_getElem di];rfl
   have fm:(Lo g v).length<=g.length:=aw.len (List.mem_of_getElem? dS);refine py$ run_seq$ Lc$ qN O$ Lk O$ Lc$ Nj (α:=Nat) (0) (λi=>[(0,.slice (some ⟨gb,go,none⟩) g.length gc),(3,.slice (some ⟨bt,0,none⟩) g.length g.length),(4,I (v:Int)),(5,I (i:Int))]) (λi w'=>i<=(Lo g v).length/\RwA w' bt w.heap.size (Qd g v i)/\Ext w w') (λi=>(Lo g v).length-i) ?hI ?hround
   case hI=>exact⟨Nat.zero_le _,cH,ag⟩
   case hround=>
    rintro i w3 ⟨hi,kP,ah⟩ ih2;obtain⟨a,c,dv,dM⟩:=hg v _ dS;have ae:=Ext.LC w3
    try dsimp only
    refine run_seq$ qN O$ Lu O O$ Le O$ qV (M9 Qq O2 O O (by omega))$ qV (LN LI O O (LQ ah dv))$ Nd LI O$ Mw O O$ Lf$ Lp O (λeC=>?_)$ λeC=>?_
    ·obtain⟨u,hu⟩:∃u,(Lo g v)[i]? =some u:=⟨_,List.getElem?_eq_getElem (by omega)⟩;obtain⟨lb,lo,rfl,kT⟩:=dM i u hu;have oy:u<g.length:=NR aw v u (List.mem_of_getElem? hu);have FY:=R3 g v i oy;have mx:=z5a g v i u;obtain⟨vs,nI,jW,jq,Jg⟩:=id kP.ex;obtain⟨vu,FZ,Jh,zQ⟩:=jq u _ FY
     have Ji:∀{w':World},Kp (λb=>vu.ownBlock=some b) w3 w'->w'.cell? ⟨bt,0+u*1,none⟩=some vu:=λhk=>by
      rw[(hk.Lg nI (λe=>(zQ _ e).2 O)).cell,Nat.zero_add,Nat.mul_one];exact FZ
     have z3:=ah.size;refine py$ run_seq$ Lc ?_;have oz:∀{w':World},Kp (λb=>vu.ownBlock=some b) w3 w'->Ext w w':=λhk=>ah.It hk (λb e=>(zQ b e).1);refine LH [23] (λw'=>Kp (λb=>vu.ownBlock=some b) w3 w') (by kernel_rfl) O$ qL [22,23] 0 O (λ_ h=>M0 O) (ae.kp)$ qL [3,4,6,7,22,23] 1 O (λ_ h=>M0 O) (ae.kp)$ qL [3,4,6,7,22,23] 2 O (λ_ h=>M0 O) (ae.kp)$ qL [4,6,7,22,23] 3 O (λ_ h=>M9 Qq O2 O O (by omega)) (ae.kp)$ qL [6,7,22,23] 5 O (λ_ h=>M0 O) (ae.kp)$ qL [16,17,21,22,23] 8 O (λ_ h=>M0 O) (ae.kp)$ qL [11,12,14,15,16,17,21,22,23] 9 O (λ_ h=>M0 O) (ae.kp)$ qL [11,12,14,15,16,17,21,22,23] 10 O (λ_ h=>M0 O) (ae.kp)$ qL [12,14,15,16,17,21,22,23] 11 O (λ_ h=>M9 Qq O2 O O (by omega)) (ae.kp)$ qL [14,15,16,17,21,22,23] 13 O (λ_ h=>M0 O) (ae.kp)$ qL [19,20,21,22,23] 18 O (λ_ h=>M0 O) (ae.kp)$ qL [20,21,22,23] 19 O (λ_ h=>WA O U3 Mx) (ae.kp)$ qL [6,7,22,23] 4 O (λ_ h=>LN LI O O (LQ (oz h) dv)) (ae.kp) ?_;refine qL [14,15,16,17,21,22,23] 12 O (λ_ h=>LN LI O O (LQ (oz h) dv)) (ae.kp)$ qL [7,22,23] 6 O (λ_ h=>M9 LI Lz O O (by omega)) (ae.kp)$ qL [15,16,17,21,22,23] 14 O (λ_ h=>M9 LI Lz O O (by omega)) (ae.kp)$ qL [22,23] 7 O (λ_ h=>LN Mx O O (LQ (oz h) kT)) (ae.kp)$ qL [16,17,21,22,23] 15 O (λ_ h=>LN Mx O O (LQ (oz h) kT)) (ae.kp)$ qL [17,21,22,23] 16 O (λ_ h=>M9 Qq O2 O O (by omega)) (ae.kp)$ qL [21,22,23] 17 O (λ_ h=>LN LI O O (Ji h)) (ae.kp) ?_;rw[Nat.mod_eq_of_lt (show v<4294967296 by omega)];refine N4 (i:=20) (by kernel_rfl)$ Ms (i:=20) O O O (RN (cs:=[_]) (zs:=[Value.int .u32 0]) LI Lz O (by kernel_rfl) O O O (by decide)) ?_;rintro v4 w4 ⟨b4,rfl,⟨gn,ay,aF⟩,dT⟩;refine⟨ae.kp.trans ay.kp,?_⟩;have cx:=ae.trans ay;refine N4 (i:=21) (by kernel_rfl)$ Ms (i:=21) O O O (pap LI Lz O (by decide) O O (Jh.ext cx) dT.rd (λc hc=>by obtain⟨z,-,rfl⟩:=List.mem_map.1 (show c∈[v].map LO from hc);rfl) (by omega) (by omega)) ?_;rintro v5 w5 ⟨fD,ak,oW,-⟩;refine⟨cx.kp.trans ak,?_⟩;have j6:Kp (λb=>vu.ownBlock=some b) w3 w5:=cx.kp.trans ak;have z34:=cx.size;have DO:=j6.Lg nI (λe=>(zQ _ e).2 O);refine qL [23] 22 O (λ_ h=>M9 Qq O2 O O (by omega)) (cx.kp.trans ak)$ OY [23]$ qO 23$ M1 (i:=23) O O (MY O2 O O (Sw fD) DO (by rw[jW,P4];omega)) ?_;rintro w6 ⟨aR,aU⟩;refine⟨trivial,?_⟩;have kJ:=kP.put (l':=QW g v i u++[v]) nI FY FZ j6 (by rw[List.length_append,List.map_append];exact fD) (λb hb=>(oW b hb).imp id λe=>by omega) aU aR z3;rw[z3M aw hu] at kJ;refine qE$ Ld$ Li O$ Le O$ Mb O O$ Lk O ?_;exact(ih2 (i+1) _ ⟨by omega,kJ,(ah.It j6 (λb e=>(zQ b e).1)).It aU (λb e=>by omega)⟩ (by omega)).qb
    ·have cE:i=(Lo g v).length:=by omega
     subst cE;refine Ln O$ Ld$ Li O$ Le O$ Mb O O$ Lk O ?_
     have e:Qd g v (Lo g v).length=Qd g (v+1) 0:=by
      unfold Qd;exact List.map_congr_left λu _=>z2w g v u
     exact(ih (v+1) _ ⟨by omega,by rw[<-e];exact kP,ah⟩ (by omega)).qb
  ·have di:v=g.length:=by omega
   subst di;refine Ln O$ qN O$ Le O$ Lk O$ Lh Tryz.func32 O ?_;exact⟨_,rfl,bt,rfl,cH.rw,ag⟩
theorem Yh (z:Int)(hz: -9223372036854775808<=z/\z<=9223372036854775807)(w:World):LP Tryz.prog 25 [I z] w λv w'=>∃n:Nat,v=I (n:Int)/\1<=n/\n<=40/\w'=w:=by
 have r1:=Ro z 40 (by decide)
 have r2:=UL z 40 (by decide)
 refine Lb (e:=[(0,_)]) Tryz.func25 O Tryz.ntmps25 O O$ qN O$ Lw O$ qM O$ Le O$ qV (yrt O O (by decide))$ Mb O O$ qV (yrt O O (by decide)) ?_
 rw[show(z.tmod 40+40).tmod 40=nrm z 40 from rfl]
 refine Mb O O$ Lk O$ Lh Tryz.func25 O ?_
 exact⟨_,rfl,(1+nrm z 40).toNat,by rw[Int.toNat_of_nonneg (by omega)];rfl,by omega,by omega,rfl⟩
def z3k:Mq:=⟨7,3,3,3,64⟩
def z3F:Mq:=⟨0,0,2,1,64⟩
def z3c:Mq:=⟨2,1,4,2,3⟩
theorem Ze (z:Int)(hz: -9223372036854775808<=z/\z<=9223372036854775807)(w:World):LP Tryz.prog 31 [I z] w λv w'=>∃p:Mq,v=bpV p/\p.My/\p.zeta<=3/\Ext w w':=by
 have r1:=Ro z 3 (by decide)
 have r2:=UL z 3 (by decide)
 refine Lb (e:=[(0,_)]) Tryz.func31 O Tryz.ntmps31 O O$ qN O$ Lm O O (NJ (cs:=[_,_,_,_,_]) Nw O) ?_
 rintro _ w1 ⟨b2,rfl,c6,ad,ai⟩
 refine qM O$ qV (O6 (cs:=[_,_,_,_,_]) Nw O z8q O O)$ qV (O6 (cs:=[_,_,_,_,_]) Nw O z8q O O)$ qV (O6 (cs:=[_,_,_,_,_]) Nw O z8q O O)$ Lm O O (RN (cs:=[_,_,_,_,_,_,_,_,_,_,_,_,_,_,_]) (zs:=[Value.int .i64 0,Value.int .i64 0,Value.int .i64 0,Value.int .i64 0,Value.int .i64 0,Value.int .i64 0,Value.int .i64 0,Value.int .i64 0,Value.int .i64 0,Value.int .i64 0,Value.int .i64 0,Value.int .i64 0,Value.int .i64 0,Value.int .i64 0,Value.int .i64 0]) z7V Nw O (by kernel_rfl) O O O (by decide)) ?_
 rintro _ w2 ⟨b3,rfl,⟨eB,ag,am⟩,-⟩
 refine Le O$ qV (yrt O O (by decide))$ Mb O O$ qV (yrt O O (by decide)) ?_
 rw[show(z.tmod 3+3).tmod 3=nrm z 3 from rfl]
 have fJ:=ag.Lg ai
 have DP:nrm z 3=((0:Nat):Int)\/nrm z 3=((1:Nat):Int)\/nrm z 3=((2:Nat):Int):=by omega
 have lb:=ai.lt
 rcases DP with e|e| e
 ·rw[e];refine qV (M9 z7V Nw O O (by omega))$ qV (LM (news:=QV z3k) Wq O Nw O (Lq.cells (i:=0+0*5) (n:=5) am O) O)$ Ls O (M7 (news:=QV z3k) Nw O O O O fJ (by simp)) ?_;rintro w3 ⟨aq,ax⟩;refine Lf$ LL Tryz.func31 (.cell Wq O Nw O (Lq.cells (n:=5) aq (news:=[_,_,_,_,_]) O) O .nil) ?_;exact⟨_,rfl,z3k,rfl,by unfold Mq.My NT.My z3k Mq.list;decide,by decide,(ad.trans ag).It ax (λj e=>by omega)⟩
 ·rw[e];refine qV (M9 z7V Nw O O (by omega))$ qV (LM (news:=QV z3F) Wq O Nw O (Lq.cells (i:=0+1*5) (n:=5) am O) O)$ Ls O (M7 (news:=QV z3F) Nw O O O O fJ (by simp)) ?_;rintro w3 ⟨aq,ax⟩;refine Lf$ LL Tryz.func31 (.cell Wq O Nw O (Lq.cells (n:=5) aq (news:=[_,_,_,_,_]) O) O .nil) ?_;exact⟨_,rfl,z3F,rfl,by unfold Mq.My NT.My z3F Mq.list;decide,by decide,(ad.trans ag).It ax (λj e=>by omega)⟩
 ·rw[e];refine qV (M9 z7V Nw O O (by omega))$ qV (LM (news:=QV z3c) Wq O Nw O (Lq.cells (i:=0+2*5) (n:=5) am O) O)$ Ls O (M7 (news:=QV z3c) Nw O O O O fJ (by simp)) ?_;rintro w3 ⟨aq,ax⟩;refine Lf$ LL Tryz.func31 (.cell Wq O Nw O (Lq.cells (n:=5) aq (news:=[_,_,_,_,_]) O) O .nil) ?_;exact⟨_,rfl,z3c,rfl,by unfold Mq.My NT.My z3c Mq.list;decide,by decide,(ad.trans ag).It ax (λj e=>by omega)⟩
theorem RX {L:List Bool}{s n:Nat}{b:Bool}(h:s+n<=L.length)(i:Nat):(MZ L s n b)[i]? =if s<=i/\i<s+n then some b else L[i]? :=by
 unfold MZ
 have hl:(L.take s).length=s:=by rw[List.length_take];omega
 by_cases h1:i<s
 ·rw[if_neg (by omega),List.getElem?_append_left (by omega),List.getElem?_take_of_lt h1]
 ·rw[List.getElem?_append_right (by omega),hl];by_cases h2:i<s+n
  ·rw[if_pos (by omega),List.getElem?_append_left (by rw[List.length_replicate];omega),List.getElem?_replicate,if_pos (by omega)]
  ·rw[if_neg (by omega),List.getElem?_append_right (by rw[List.length_replicate];omega),List.length_replicate,List.getElem?_drop]
   congr 1
   omega
theorem z0e {L:List Bool}{a n:Nat}(h:Pre L a)(hn:a+n<=L.length):Pre (MZ L a n true) (a+n):=by
 have h2:=h.a2
 refine⟨by omega,by rw[N6 hn];exact hn,λi h1 h3=>?_,λi h1 h3=>?_⟩
 ·rw[RX hn];split
  ·rfl
  ·exact h.tk i h1 (by omega)
 ·rw[N6 hn] at h3;rw[RX hn,if_neg (by omega)];exact h.fr i (by omega) h3
theorem z4v {L:List Bool}{a n:Nat}(h:Pre L a)(hn:a+n<=L.length):MZ (MZ L a n true) a n false=L:=by
 have h1:=N6 (b:=true) hn
 have h4:=N6 (b:=false) (L:=MZ L a n true) (s:=a) (n:=n) (by omega)
 apply List.ext_getElem?
 intro i
 rw[RX (by omega),RX hn]
 by_cases hi:a<=i/\i<a+n
 ·rw[if_pos hi];exact(h.fr i hi.1 (by omega)).symm
 ·rw[if_neg hi,if_neg hi]
theorem z0q {Q:NI}{txt:Int->Bytes}{K:Nat}{X:Nat->Prop}{w:World}(hP:Sp Q txt K X w)(hX:∀b,X b->b<w.heap.size)(hK:K<=90000000000)(x1:X 0)(x2:X 1)(hG:Lq w 0 (Og .gamma) 260)(hU:Lq w 1 (Og .unary) 260){g:List (List Nat)}(aw:Nu g)(aJ:1<=g.length)(iy:g.length<=40){ga:Option Addr}{gc:Nat}(kL:GrM w (.slice ga g.length gc) g){p:Mq}(hp:p.My)(hz:p.zeta<=3){a:Nat}(ha:Pre Q.L a)(fh:a+72<=Q.L.length):
  LP Tryz.prog 30 [ptr Q.s 0,.slice ga g.length gc,bpV p] w λv w'=>∃(G:GwP) (txt':Int->Bytes),v= .tuple #[ptr G.k 0,.bool true]/\G.g=g/\G.st=a/\G.len<=72/\1<=G.len/\(w.heap.size<=G.k/\w.heap.size<=G.x/\w.heap.size<=G.rb)/\Oq G (Q.MD (MZ Q.L a G.len true)) txt' (K+200) (λj=>X j\/j=G.x\/j=G.k) w'/\(∀y:Int,y<(a:Int)\/(a:Int)+(G.len:Int)<=y->txt' y=txt y)/\Kp (λb=>¬X b) w w':=by
 have eu:=hP.n
 refine Lb (e:=[(0,_),(1,_),(2,_)]) Tryz.func30 O Tryz.ntmps30 O O$ qN O$ Lm O O (Nc O (cs:=QV p) O) ?_
 rintro _ w1 ⟨bp,rfl,KX,ad,oV⟩
 refine Lw O$ Lw O$ qM O$ Le O$ qV (LM (news:=QV p) Wq O Nw O (Lq.cells (i:=0) (n:=5) oV O) O)$ LD zfl O (z1c hp aw aJ (kL.ext ad) (ad.Lg hG) (ad.Lg hU)) ?_
 rintro _ w2 ⟨E,Jj,rfl,ag⟩
 have zk:OH p g E:=⟨hp,aw,aJ,Jj⟩
 have Jk:=z7o zk iy hz
 obtain⟨T,hT⟩:∃T,T3 p g E=T:=⟨_,rfl⟩
 rw[hT] at Jk⊢
 have aG:=ad.trans ag
 have eZ:=hP.ext' aG
 refine Le O$ Mp O O$ Mp O O$ Lw O$ Lk O$ run_seq$ qN O$ Le O$ Mu O O$ Lf$ An O$ py$ qN O$ Le O ?_
 refine LD z0i O (eZ.size) ?_
 rintro _ w2 ⟨rfl,rfl⟩
 refine Le O$ qV (RK U9 O)$ LD zfj O (YP T.length (by omega) _) ?_
 rintro _ w2 ⟨rfl,rfl⟩
 obtain⟨N,hN⟩:∃N,(T.length+523) / 512=N:=⟨_,rfl⟩
 rw[hN]
 have kf:1<=N/\N<=72/\T.length<=N*512-12:=by omega
 refine Le O$ Mp O O$ Mp O O$ Lw O$ Lk O$ LS.qb (e:=[(0,_),(6,_),(7,_),(8,_),(9,_),(10,_)]) ?_
 refine run_seq$ qN O$ Le O$ Mu O O ?_
 have gq:∀b,X b->b<w2.heap.size:=λb hb=>by have:=hX b hb;have:=aG.size;omega
 refine Lf$ An O$ py$ qN O$ Lu O O$ LD zbO O (eZ.take gq ha kf.1 (by omega)) ?_
 rintro _ w3 ⟨rfl,gu,ax⟩
 have dN:(MZ Q.L a N true).length=Q.L.length:=N6 (by omega)
 obtain⟨Q3,zR⟩:∃Q3,Q.MD (MZ Q.L a N true)=Q3:=⟨_,rfl⟩
 rw[zR] at gu
 have uW:Q3.s=Q.s:=by rw[<-zR];rfl
 have KY:Q3.L.length=Q.L.length:=by rw[<-zR];exact dN
 rw[<-uW]
 have z3:=ax.size
 have oe:∀b,X b->b<w3.heap.size:=λb hb=>by have:=gq b hb;omega
 refine Le O$ Mp O O$ Mp O O$ Lm O O (NJ (cs:=[_,_]) MX O) ?_
 rintro _ w4 ⟨be,rfl,xo,ay,eO⟩
 refine Ls O (M7 (news:=[I (a:Int),I (N:Int)]) MX O O O O eO (by simp)) ?_
 rintro w5 ⟨nP,ak⟩
 replace nP:Lq w5 be [I (a:Int),I (N:Int)] 108:=nP
 have cm:Ext w3 w5:=ay.It ak (λj e=>by omega)
 refine Lk O$ run_seq$ qN O$ Le O$ Mu O O ?_
 have gS:Sp Q3 txt K (λb=>X b\/b=be) w5:=gu.ext cm (λb e=>e.imp id λe=>by omega)
 refine Lf$ An O$ py$ qN O$ Le O$ qV (LM (news:=[I (a:Int),I (N:Int)]) S2 O MX O (Lq.cells (i:=0) (n:=2) nP O) O)$ LD zeJ O (Ys gS kf.1 (by omega)) ?_
 rintro _ w6 ⟨wb,bs,bx,bw,sum,rfl,gB,yf,⟨z1',z2',z3',z4'⟩,aK⟩
 have z5:=cm.size
 have z6:=aK.size
 have lbe:=nP.lt
 obtain⟨X6,ki⟩:∃X6:Nat->Prop,(λb=>X b\/b=be\/b=wb\/b=bs\/b=bx\/b=bw)=X6:=⟨_,rfl⟩
 have fi:∀b,X b->X6 b:=λb hb=>by rw[<-ki];exact .inl hb
 have aT:X6 wb/\X6 bs/\X6 bx/\X6 bw:=by rw[<-ki];exact⟨.inr (.inr (.inl O)),.inr (.inr (.inr (.inl O))),.inr (.inr (.inr (.inr (.inl O)))),.inr (.inr (.inr (.inr (.inr O))))⟩
 have DQ:X6 be:=by rw[<-ki];exact .inr (.inl O)
 have pV:Sp Q3 txt K X6 w6:=gS.ext aK (λb e=>by
  rw[<-ki] at e;rcases e with e|e| e
  ·exact .inl (.inl e)
  ·exact .inl (.inr e)
  ·exact .inr (by omega))
 have l1:=yf.wr.lt
 have l2:=yf.sb.lt
 have l3:=yf.xb.lt
 have l4:=yf.pb.lt
 have pY:∀b,X6 b->b<w6.heap.size:=λb e=>by
  rw[<-ki] at e;rcases e with e| e
  ·have:=oe b e;omega
  ·omega
 have DR:be≠wb:=by omega
 refine Le O$ Mp O O$ Mp O O$ Lw O$ Lk O$ run_seq$ qN O$ Le O$ Mu O O$ Lu O O$ Le O$ LD zfB O (z0x pV pY (by omega) yf gB aT (by omega) kf.1 kf.2.2) ?_
 rintro _ w7 ⟨rfl,sum7,qU,txt7,rest,y9,i6,gY,DS,DT,aC,ry⟩
 have z7:=aC.size
 refine Mu O O$ M8 O O$ Lu O O$ LD zfP O (z0c y9 (λb e=>by have:=pY b e;omega) (by omega) i6 qU aT (by omega) hN.symm (by rw[show T.length%512=T.length-512*(T.length / 512) by omega];exact gY) (λb hb e=>by have:=pY b e;have:=ry b hb;omega) DS) ?_
 rintro _ w8 ⟨rfl,txt8,ol,DU,DV,zS,bB⟩
 have z8:=bB.size
 have oH:Kp (λb=>¬X6 b\/b=wb) w6 w8:=aC.trans bB
 have DW:=oH.Lg (aK.Lg nP) (λe=>e.elim (λe=>e DQ) DR)
 refine Mu O O$ M8 O O$ Lf$ LS.qb (e:=[(0,_),(6,_),(7,_),(9,_),(11,_),(59,_)]) ?_
 refine An O$ py$ qN O$ Le O$ qV (LM (news:=[I (a:Int),I (N:Int)]) S2 O MX O (Lq.cells (i:=0) (n:=2) DW O) O)$ LD zeP O (z1J ol (λb e=>by have:=pY b e;omega) (by omega) kf.1 (by omega) kf.2.2 qU DV) ?_
 rintro _ w9 ⟨rb,rfl,yg,ER,ug,aP⟩
 have z9:=aP.size
 have lrb:=yg.lt
 have hL:Laid txt8 a T:=Laid.of λk hk=>⟨ug.X4 (by omega) (by omega),DU k hk⟩
 subst hT
 have hO:StO Q3 txt8 (K+(T3 p g E).length / 512+2) a N (T3 p g E):=⟨by omega,by omega,hL,by omega⟩
 have rD:Kp (λb=>¬X b) w w6:=(aG.kp.trans ax).trans (cm.trans aK).kp
 have mw:Kp (λb=>¬X b) w w8:=rD.It oH λb e=>by
  rcases e with e| e
  ·exact .inr λe2=>e (fi b e2)
  ·exact .inl (by have:=aG.size;omega)
 have nQ:Kp (λb=>¬X b) w w9:=mw.trans (aP.Lv λb e e2=>e (fi b e2))
 have z2:=aG.size
 have ta:¬X rb:=λe=>by have:=hX rb e;omega
 have hI:(z44 hO rb sum7).inv X w9:=⟨ug.less (λb e=>e.imp (fi b) id),yg,ta⟩
 refine Le O$ Mp O O$ Mp O O$ Lw O$ Lk O$ run_seq$ qN O$ Le O$ Mu O O$ Lf$ An O$ py$ qN O$ Le O ?_
 refine LD zfz O (z1m zk hO hI (λb e=>by have:=hX b e;omega) x1 x2 (nQ.Lg hG (λe=>e x1)) (nQ.Lg hU (λe=>e x2))) ?_
 rintro _ w10 ⟨k,x,rfl,ud,iF,Jl,ar⟩
 refine Le O$ Mp O O$ Mp O O$ Lw O$ Lw O$ qM O$ Lu O O$ Nb O O$ Ns$ Lu O O$ qV (ZV Zl O O)$ MU O O$ Lw O$ Lk O ?_
 refine LS.qb (e:=[(6,_),(7,_)]) ?_
 refine Lh Tryz.func30 O (⟨_,rfl,⟨p,g,E,a,N,rb,sum7,k,x⟩,txt8,rfl,rfl,rfl,kf.2.1,kf.1,⟨by show w.heap.size<=k;omega,by show w.heap.size<=x;omega,by show w.heap.size<=rb;omega⟩,?_,λy hy=>?_,nQ.trans ar⟩)
 ·rw[zR];exact Oq.more (G:=⟨p,g,E,a,N,rb,sum7,k,x⟩) ⟨hO,Jl⟩ (by omega) (by omega)
 ·show txt8 y=txt y;have hy:y<(a:Int)\/(a:Int)+(N:Int)<=y:=hy;rw[zS y hy,DT y (by omega)]
structure Wd where
 d:Nat
 Q:NI
 txt:Int->Bytes
 K:Nat
 G:GwP
 T:GwP
 a:Nat
def Wd.v (W:Wd):List Value:=[ptr W.d 0,ptr W.Q.s 0,ptr W.G.k 0,ptr W.T.k 0,I ((200-W.a:Nat):Int)]
structure WdM (W:Wd)(g:List (List Nat))(XX:Nat->Prop)(w:World):Prop where
 hg:Oq W.G W.Q W.txt W.K (λb=>XX b/\b≠W.G.rb) w
 ht:Oq W.T W.Q W.txt W.K (λb=>XX b/\b≠W.T.rb) w
 gg:W.G.g=g
 tg:W.T.g=T0 g
 pre:Pre W.Q.L W.a
 a:W.a<=146
 L:W.Q.L.length=200
 K:W.K<=400
 gs:W.G.st+W.G.len<=W.T.st
 ts:W.T.st+W.T.len<=W.a
theorem z7e {w:World}{g:List (List Nat)}(aw:Nu g)(aJ:1<=g.length)(iy:g.length<=40){ga:Option Addr}{gc:Nat}(kL:GrM w (.slice ga g.length gc) g)(hG:Lq w 0 (Og .gamma) 260)(hU:Lq w 1 (Og .unary) 260)(fr fo:Int)(kw: -9223372036854775808<=fr/\fr<=9223372036854775807)(yh: -9223372036854775808<=fo/\fo<=9223372036854775807):
  LP Tryz.prog 7 [.slice ga g.length gc,I fr,I fo] w λv w'=>∃(W:Wd) (XX:Nat->Prop),v= .tuple #[.agg W.v.toArray,.bool true]/\WdM W g XX w'/\Ext w w'/\(∀b,b<w.heap.size->XX b/\b≠W.G.rb/\b≠W.T.rb)/\w.heap.size<=W.G.k/\w.heap.size<=W.G.x:=by
 have r1:=Ro fr 12 (by decide)
 have r2:=UL fr 12 (by decide)
 have l1:=hG.lt
 have l2:=hU.lt
 refine Lb (e:=[(0,_),(1,_),(2,_)]) Tryz.func7 O Tryz.ntmps7 O O$ qN O$ Lm O O (NJ (cs:=[_,_,_,_,_]) Zd O) ?_
 rintro _ w1 ⟨bW,rfl,KZ,ad,G0⟩
 have z1:=ad.size
 have lW:=G0.lt
 refine Lw O$ qM O$ qV (O6 (cs:=[_,_]) z7B O zf5 O O)$ LD zfq O (z8f 200 1 _ (by unfold Vm;decide)) ?_
 rintro _ w2 ⟨d,Fd,rfl,hD,ag,Jm⟩
 refine Le O$ Mp O O$ Mp O O$ Lw O$ Lw O$ qM O$ LD zfM O (z4D 200 (by decide) _) ?_
 rintro _ w3 ⟨m,gi,rfl,hE,hm,su,ah⟩
 have z2:=ag.size
 have z3:=ah.size
 have Jn:=hD.ext ah
 refine Le O$ Mp O O$ Mp O O$ Lw O$ Lw O$ qM O$ Lu O O$ qV (yrt O O (by decide))$ Mb O O$ qV (yrt O O (by decide)) ?_
 rw[show(fr.tmod 12+12).tmod 12=nrm fr 12 from rfl]
 obtain⟨nf,Jo,DX,Jp⟩:∃nf:Nat,1+nrm fr 12=(nf:Int)/\1<=nf/\nf<=12:=⟨(1+nrm fr 12).toNat,by omega,by omega,by omega⟩
 refine Mb O O ?_
 rw[Jo]
 have gP:(List.replicate 200 false).length=200:=List.length_replicate
 have Jq:¬Fd m/\¬Fd gi:=⟨λe=>by have:=hD.lt _ e;omega,λe=>by have:=hD.lt _ e;omega⟩
 refine Le O$ LD zfO O (z4W (L:=List.replicate 200 false) (by rw[gP];exact Jn) hE Jq nf DX (by omega)) ?_
 rintro _ w4 ⟨P,rfl,hM,hI,Jr,Js,G4,Jt,ay⟩
 have z4:=ay.size
 have cR:Ext w w4:=((ad.trans ag).trans ah).trans ay
 have DY:=((ag.trans ah).trans ay).Lg G0
 obtain⟨X,hX⟩:∃X:Nat->Prop,(λb=>b<w.heap.size\/b=bW)=X:=⟨_,rfl⟩
 have DZ:∀b,X b->b<w1.heap.size:=λb e=>by rw[<-hX] at e;omega
 have nR:∀b,b<w.heap.size->X b:=λb e=>by rw[<-hX];exact .inl e
 have zT:X bW:=by rw[<-hX];exact .inr O
 have jG:Sp P (λ_=>zeros 512) 0 X w4:=⟨P,hM,hI,⟨rfl,rfl,rfl,rfl,rfl,rfl,rfl,rfl,rfl⟩,λb hb e=>by
  have:=DZ b e;rcases Jt b hb with e|e|e| e
  ·have:=Jm b e;omega
  ·omega
  ·omega
  ·omega⟩
 have fI:Pre P.L 2:=by
  rw[G4];exact⟨Nat.le_refl _,by rw[gP];omega,λi h1 h2=>by omega,λi h1 h2=>by rw[gP] at h2;rw[List.getElem?_replicate,if_pos h2]⟩
 have L0:P.L.length=200:=by rw[G4,gP]
 refine Le O$ Mp O O$ Mp O O$ Lw O$ Lk O$ LS.qb (e:=[(0,_),(2,_),(6,_),(7,_),(8,_),(9,_),(10,_),(11,_),(12,_),(13,_)]) ?_
 refine run_seq$ qN O$ Le O$ Mu O O$ M5$ Lu O O$ Mu O O$ M5$ M8 O O$ Lu O O$ Mu O O$ M5$ M8 O O$ Lu O O ?_
 refine qV (Ml SJ O O)$ M8 O O$ Lf$ An O$ py$ qN O$ Lu O O$ Le O$ LD zcY O (Ze fo yh _) ?_
 rintro _ w5 ⟨p1,rfl,tP,m5,aX⟩
 have z5:=aX.size
 have bK:=cR.trans aX
 have Ju:∀b,X b->b<w5.heap.size:=λb e=>by have:=DZ b e;omega
 refine LD zdi O (z0q (jG.ext' aX) Ju (by omega) (nR 0 l1) (nR 1 l2) (bK.Lg hG) (bK.Lg hU) aw aJ iy (kL.ext bK) tP m5 fI (by omega)) ?_
 rintro _ w6 ⟨G,txt6,rfl,Jv,L2,L3,Jw,⟨n1,n2,n3⟩,dw,G5,aU⟩
 have ie:Ext w w6:=bK.It aU (λb e=>by
  rcases Nat.lt_or_ge b w.heap.size with h| h
  ·exact absurd (nR b h) e
  ·exact h)
 have z6:=aU.size
 have E0:=aU.Lg (aX.Lg DY) (λe=>e zT)
 have ye:(MZ P.L 2 G.len true).length=P.L.length:=N6 (by omega)
 have nS:Pre (MZ P.L 2 G.len true) (2+G.len):=z0e fI (by omega)
 obtain⟨Q6,E1⟩:∃Q6,P.MD (MZ P.L 2 G.len true)=Q6:=⟨_,rfl⟩
 have E2:Q6.L=MZ P.L 2 G.len true:=by rw[<-E1];rfl
 have tp:Q6.s=P.s/\Q6.d=P.d/\Q6.m=P.m:=by rw[<-E1];exact⟨rfl,rfl,rfl⟩
 rw[E1] at dw
 rw[<-E2] at ye nS
 obtain⟨gb,go,gc',iH,uj⟩:=kL.r aJ
 cases iH
 refine Le O$ Mp O O$ Mp O O$ Lw O$ Lk O$ LS.qb (e:=[(0,_),(2,_),(6,_),(7,_),(8,_),(10,_),(12,_),(14,_),(15,_)]) ?_
 refine qN O$ Lu O O$ LD zfA O (z1e aw (uj.ext ie)) ?_
 rintro _ w7 ⟨bt,rfl,Jy,cg⟩
 have jw:=ie.trans cg
 have z7:=cg.size
 have tq:=dw.ext cg
 have mx:=TM g
 refine Le O$ qV (z6D O O) ?_
 obtain⟨fo2,yi⟩:∃z,IntKind.i64.wrap (fo+1)=z:=⟨_,rfl⟩
 have yj: -9223372036854775808<=fo2/\fo2<=9223372036854775807:=by
  rw[<-yi,IntKind.wrap_i64];omega
 rw[yi]
 refine LD zcY O (Ze fo2 yj _) ?_
 rintro _ w8 ⟨p2,rfl,oc,m8,dy⟩
 have z8:=dy.size
 have bO:=tq.ext dy
 have nT:=jw.trans dy
 obtain⟨X2,gq⟩:∃X2:Nat->Prop,(λb=>(X b\/b=G.x\/b=G.k)\/b=G.rb)=X2:=⟨_,rfl⟩
 have i9:∀b,X b->X2 b:=λb e=>by rw[<-gq];exact .inl (.inl e)
 have ol:Sp Q6 txt6 (0+200) X2 w8:=by rw[<-gq];exact bO.sp
 have E3:∀b,X2 b->b<w8.heap.size:=λb e=>bO.lt1 b (by rw[<-gq] at e;exact e)
 have E4:GrM w8 (.slice (some ⟨bt,0,none⟩) (T0 g).length (T0 g).length) (T0 g):=(Jy.ext dy).gr
 have o7:=z0q ol E3 (by omega) (i9 _ (nR 0 l1)) (i9 _ (nR 1 l2)) (nT.Lg hG) (nT.Lg hU) (z7t aw) (by omega) (by omega) E4 oc m8 nS (by omega)
 rw[tp.1,mx] at o7
 refine LD zdi O (o7) ?_
 rintro _ w9 ⟨T,txt9,rfl,Jz,L4,L5,JA,⟨t1,t2,t3⟩,io,zU,aP⟩
 have z9:=aP.size
 have fV:Ext w w9:=nT.It aP (λb e=>by
  rcases Nat.lt_or_ge b w.heap.size with h| h
  ·exact absurd (i9 b (nR b h)) e
  ·exact h)
 have E5:=aP.Lg ((cg.trans dy).Lg E0) (λe=>e (i9 _ zT))
 have G6:(MZ Q6.L (2+G.len) T.len true).length=Q6.L.length:=N6 (by omega)
 have nU:Pre (MZ Q6.L (2+G.len) T.len true) (2+G.len+T.len):=z0e nS (by omega)
 obtain⟨Q9,E6⟩:∃Q9,Q6.MD (MZ Q6.L (2+G.len) T.len true)=Q9:=⟨_,rfl⟩
 have E7:Q9.L=MZ Q6.L (2+G.len) T.len true:=by rw[<-E6];rfl
 have tr:Q9.s=Q6.s/\Q9.d=Q6.d/\Q9.m=Q6.m:=by rw[<-E6];exact⟨rfl,rfl,rfl⟩
 rw[E6] at io
 rw[<-E7] at G6 nU
 have yk:=io.sp
 have tt:=io.lt1
 have JB:Oq G Q9 txt9 (0+200+200) (λb=>(X b\/b=G.x\/b=G.k)\/b=T.x\/b=T.k\/b=T.rb) w9:=bO.zdV aP (λb e=>by rw[<-gq] at e;exact e) (λj e=> .inl e) (λj e=>e.imp id λe=>by
   have h1:=tt T.x (.inl (.inr (.inl O)));have h2:=tt T.k (.inl (.inr (.inr O)));have h3:=tt T.rb (.inr O)
   omega) (yk.less λb e=>by
   rw[<-gq];rcases e with(e|e|e|e)| e
   ·exact .inl (.inl (.inl e))
   ·exact .inl (.inr (.inl e))
   ·exact .inl (.inr (.inr e))
   ·exact .inr e
   ·exact .inl (.inl (.inr e))) tr.1 G6 (by omega) (λy h1 h2=>zU y (.inl (by omega)))
 have fh:=yk.room nU (by omega)
 rw[tr.2.2,tp.2.2,Jr] at fh
 refine Le O$ Mp O O$ Mp O O$ Lw O$ Lw O$ qM O$ Lu O O$ Lu O O$ Le O$ LD zdI O (fh) ?_
 rintro _ w10 ⟨rfl,bC⟩
 have yl:=bC.Lg E5
 rw[show Q9.L.length-(2+G.len+T.len)=200-(2+G.len+T.len) by omega]
 refine qV (O6 (cs:=[_,_,_,_,_]) Zd O zeC O O)$ Lu O O$ Le O$ MU O O$ Ls O (M7 (news:=[_,_,_,_,_]) Zd O O O O yl (by simp)) ?_
 rintro w11 ⟨ym,bA⟩
 refine Lk O$ LS.qb (e:=[(6,_),(7,_)]) ?_
 refine LL Tryz.func7 (.cell U31 O Zd O (Lq.cells (n:=5) ym (news:=[_,_,_,_,_]) O) O (.tmp O .nil)) ?_
 obtain⟨XX,fi⟩:∃XX:Nat->Prop,(λb=>X b\/b=G.x\/b=G.k\/b=G.rb\/b=T.x\/b=T.k\/b=T.rb)=XX:=⟨_,rfl⟩
 have G7:=bO.rbX
 have G8:=io.rbX
 have yn:=bO.xk
 have G9:=io.xk
 have zG:=bO.lt1 _ (.inr O)
 have zGk:=bO.lt1 _ (.inl yn.1)
 have zGx:=bO.lt1 _ (.inl yn.2.1)
 have lQ:∀b,X b->b<w1.heap.size:=DZ
 have E8:Oq G Q9 txt9 400 (λb=>XX b/\b≠G.rb) w11:=by
  refine Oq.less (Y:=λb=>(X b\/b=G.x\/b=G.k)\/b=T.x\/b=T.k\/b=T.rb) ((JB.ext bC).own bA λj e=>?_) (λb e=>?_) ?_
  ·subst e;exact⟨.inl (.inl zT),by omega,by omega,by omega,by omega⟩
  ·rw[<-fi] at e;rcases e with⟨e|e|e|e|e,h⟩
   ·exact .inl (.inl e)
   ·exact .inl (.inr (.inl e))
   ·exact .inl (.inr (.inr e))
   ·exact absurd e h
   ·exact .inr e
  ·rw[<-fi];exact⟨⟨.inr (.inr (.inl O)),λe=>G7 (e▸yn.1)⟩,⟨.inr (.inl O),λe=>G7 (e▸yn.2.1)⟩,⟨.inl (nR 0 l1),by omega⟩,⟨.inl (nR 1 l2),by omega⟩⟩
 have E9:Oq T Q9 txt9 400 (λb=>XX b/\b≠T.rb) w11:=by
  refine Oq.less (Y:=λj=>X2 j\/j=T.x\/j=T.k) ((io.ext bC).own bA λj e=>?_) (λb e=>?_) ?_
  ·subst e;exact⟨.inl (i9 _ zT),by omega,by omega,by omega,by omega⟩
  ·rw[<-fi] at e;rw[<-gq];rcases e with⟨e|e|e|e|e|e|e,h⟩
   ·exact .inl (.inl (.inl e))
   ·exact .inl (.inl (.inr (.inl e)))
   ·exact .inl (.inl (.inr (.inr e)))
   ·exact .inl (.inr e)
   ·exact .inr (.inl e)
   ·exact .inr (.inr e)
   ·exact absurd e h
  ·rw[<-fi];exact⟨⟨.inr (.inr (.inr (.inr (.inr (.inl O))))),λe=>G8 (e▸G9.1)⟩,⟨.inr (.inr (.inr (.inr (.inl O)))),λe=>G8 (e▸G9.2.1)⟩,⟨.inl (nR 0 l1),by omega⟩,⟨.inl (nR 1 l2),by omega⟩⟩
 refine⟨_,rfl,⟨d,Q9,txt9,400,G,T,2+G.len+T.len⟩,XX,?_,⟨E8,E9,Jv,Jz,nU,?_,?_,?_,?_,?_⟩,?_,λb hb=>⟨by rw[<-fi];exact .inl (nR b hb),λe=>?_,λe=>?_⟩,?_,?_⟩
 ·unfold Wd.v;rw[tr.1,tp.1]
  rfl
 ·show 2+G.len+T.len<=146;omega
 ·show Q9.L.length=200;omega
 ·exact Nat.le_refl _
 ·show G.st+G.len<=T.st;omega
 ·show T.st+T.len<=2+G.len+T.len;omega
 ·exact(fV.trans bC).It bA λb e=>by omega
 ·have e:b=G.rb:=e;omega
 ·have e:b=T.rb:=e;omega
 ·show w.heap.size<=G.k;omega
 ·show w.heap.size<=G.x;omega
theorem z3b {w:World}{g:List (List Nat)}(aw:Nu g)(aJ:1<=g.length)(iy:g.length<=40){ga:Option Addr}{gc:Nat}(kL:GrM w (.slice ga g.length gc) g)(hG:Lq w 0 (Og .gamma) 260)(hU:Lq w 1 (Og .unary) 260)(fr fo:Int)(kw: -9223372036854775808<=fr/\fr<=9223372036854775807)(yh: -9223372036854775808<=fo/\fo<=9223372036854775807):
  LP Tryz.prog 7 [.slice ga g.length gc,I fr,I fo] w λv w'=>∃(W:Wd) (XX:Nat->Prop),v= .tuple #[.agg W.v.toArray,.bool true]/\WdM W g XX w'/\Ext w w'/\∀b,b<w.heap.size->XX b/\b≠W.G.rb/\b≠W.T.rb:=by
 refine(z7e aw aJ iy kL hG hU fr fo kw yh).mono ?_
 rintro v w' ⟨W,XX,h1,h2,h3,h4,-⟩
 exact⟨W,XX,h1,h2,h3,h4⟩
structure RvK (σ:Type) where
 T:TypeId
 cs:σ->Nat->Nat->List Value
 xs:σ->List Nat
 tm:σ->Nat
structure OZ {σ:Type}(R:RvK σ)(G:GwP)(Q:NI)(txt:Int->Bytes)(K:Nat)(X:Nat->Prop)(rr vb sv:Nat)(s:σ)(w:World):Prop where
 g:Oq G Q txt K X w
 run:Lq w rr (R.cs s G.k vb) R.T
 vec:Ts Q txt vb 4 sv (R.xs s) w
 xr:X rr/\X vb
 ne:rr≠vb/\rr≠G.k/\rr≠G.x/\rr≠0/\rr≠1/\vb≠G.k/\vb≠G.x/\vb≠0/\vb≠1
 Rf:G.st+G.len<=sv
 len:(R.xs s).length=G.g.length
 n:G.g.length<=40
section
variable {σ:Type}{R:RvK σ}{J:σ->Prop}{w0 w w' w3 w4 w5:World}{g:List (List Nat)}{G G1 G2 G3:GwP}{Q Q1 Q2 Q3 Q':NI}{txt txt1 txt2 txt3 txt':Int->Bytes}{K K1 K2 K3 K':Nat}{X X1 X2 X3 Y S':Nat->Prop}{rr vb sv r1 v1 a1 r2 v2 a2 a B:Nat}{s s1 s2:σ}
theorem OZ.step (h:OZ R G Q txt K X rr vb sv s w)(hk:Kp S' w w')(hS:∀j,S' j->X j/\j≠G.k/\j≠G.x/\j≠0/\j≠1/\j≠rr/\j≠vb)(bY:∀j,X j->Y j)(hY:∀j,Y j->X j\/(w.heap.size<=j/\j<w'.heap.size)):OZ R G Q txt K Y rr vb sv s w':=
 ⟨h.g.step hk (λj e=>⟨(hS j e).1,(hS j e).2.1,(hS j e).2.2.1,(hS j e).2.2.2.1,(hS j e).2.2.2.2.1⟩) hY bY,hk.Lg h.run (λe=>(hS _ e).2.2.2.2.2.1 O),h.vec.kp hk (λe=>(hS _ e).2.2.2.2.2.2 O),⟨bY _ h.xr.1,bY _ h.xr.2⟩,h.ne,h.Rf,h.len,h.n⟩
end
section
variable {σ:Type}{R:RvK σ}{J:σ->Prop}{w0 w w' w3 w4 w5:World}{g:List (List Nat)}{G G1 G2 G3:GwP}{Q Q1 Q2 Q3 Q':NI}{txt txt1 txt2 txt3 txt':Int->Bytes}{K K1 K2 K3 K':Nat}{X X1 X2 X3 Y S':Nat->Prop}{r1 v1 a1 r2 v2 a2 a B:Nat}{s s0 s1 s2:σ}
end
section
variable {σ:Type}{R:RvK σ}{w w':World}{G:GwP}{Q Q':NI}{txt txt':Int->Bytes}{K K':Nat}{X Y S':Nat->Prop}{rr vb sv:Nat}{s s':σ}
theorem VcW.kpX {vb width st:Nat}{ys:List Nat}(h:VcW Q txt K X vb width st ys w w'):Kp (λb=>¬X b) w w':=by
 obtain⟨txt',-,-,-,hk⟩:=h
 exact hk
theorem OZ.ext (h:OZ R G Q txt K X rr vb sv s w)(hx:Ext w w'):OZ R G Q txt K X rr vb sv s w':=⟨h.g.ext hx,hx.Lg h.run,h.vec.ext hx,h.xr,h.ne,h.Rf,h.len,h.n⟩
theorem OZ.grow (h:OZ R G Q txt K X rr vb sv s w)(hx:Ext w w')(hY:∀j,Y j->X j\/(w.heap.size<=j/\j<w'.heap.size))(bY:∀j,X j->Y j):OZ R G Q txt K Y rr vb sv s w':=⟨h.g.grow hx hY bY,hx.Lg h.run,h.vec.ext hx,⟨bY _ h.xr.1,bY _ h.xr.2⟩,h.ne,h.Rf,h.len,h.n⟩
theorem OZ.less (h:OZ R G Q txt K Y rr vb sv s w)(bY:∀j,X j->Y j)(hx:X G.k/\X G.x/\X 0/\X 1)(hr:X rr/\X vb):OZ R G Q txt K X rr vb sv s w:=⟨h.g.less bY hx,h.run,h.vec,hr,h.ne,h.Rf,h.len,h.n⟩
theorem OZ.more (h:OZ R G Q txt K X rr vb sv s w)(hK:K<=K')(DI:K'<1000000000000):OZ R G Q txt K' X rr vb sv s w:=⟨h.g.more hK DI,h.run,h.vec,h.xr,h.ne,h.Rf,h.len,h.n⟩
theorem OZ.own (h:OZ R G Q txt K X rr vb sv s w)(hk:Kp S' w w')(hS:∀j,S' j->X j/\j≠G.k/\j≠G.x/\j≠0/\j≠1/\j≠rr/\j≠vb):OZ R G Q txt K X rr vb sv s w':=
 ⟨h.g.own hk (λj e=>⟨(hS j e).1,(hS j e).2.1,(hS j e).2.2.1,(hS j e).2.2.2.1,(hS j e).2.2.2.2.1⟩),hk.Lg h.run (λe=>(hS _ e).2.2.2.2.2.1 O),h.vec.kp hk (λe=>(hS _ e).2.2.2.2.2.2 O),h.xr,h.ne,h.Rf,h.len,h.n⟩
theorem OZ.read (h:OZ R G Q txt K X rr vb sv s w)(hk:Kp (λb=>¬(X b\/b=G.rb)) w w')(hP:Sp Q txt K (λb=>X b\/b=G.rb) w'):OZ R G Q txt K X rr vb sv s w':=
 ⟨h.g.Xk hk (λb e=> .inl e) hP O O h.g.ZG (λ_ _ _=>rfl),hk.Lg h.run (λe=>e (.inl h.xr.1)),h.vec.kp hk (λe=>e (.inl h.xr.2)),h.xr,h.ne,h.Rf,h.len,h.n⟩
theorem OZ.wrote (h:OZ R G Q txt K X rr vb sv s w)(hK:K'<1000000000000)(hc:∀a b,R.cs s' a b=R.cs s a b)(hl:(R.xs s').length=(R.xs s).length)(hW:VcW Q txt K' (λb=>X b\/b=G.rb) vb 4 sv (R.xs s') w w'):∃txt',OZ R G Q txt' K' X rr vb sv s' w'/\(∀y:Int,y<(sv:Int)\/(sv:Int)+1<=y->txt' y=txt y)/\Kp (λb=>¬(X b\/b=G.rb)) w w':=by
 obtain⟨txt',hP,hv,ht,hk⟩:=hW
 have hd:=h.Rf
 have jW:RJ (R.xs s').length 128=1:=by
  rw[hl,h.len];have:=h.n;unfold RJ;omega
 rw[show 512 / 4=128 from rfl,jW] at ht
 exact⟨txt',⟨h.g.Xk hk (λb e=> .inl e) hP O O hK (λy h1 h2=>ht y (.inl (by omega))),by rw[hc];exact hk.Lg h.run (λe=>e (.inl h.xr.1)),hv,h.xr,h.ne,h.Rf,by rw[hl];exact h.len,h.n⟩,ht,hk⟩
theorem OZ.set (h:OZ R G Q txt K X rr vb sv s w)(hk:Kp (λb=>b=rr) w w')(hB:Lq w' rr (R.cs s' G.k vb) R.T)(xJ:R.xs s'=R.xs s):OZ R G Q txt K X rr vb sv s' w':=
 ⟨h.g.own hk (λj e=>by rw[e];exact⟨h.xr.1,h.ne.2.1,h.ne.2.2.1,h.ne.2.2.2.1,h.ne.2.2.2.2.1⟩),hB,by rw[xJ];exact h.vec.kp hk (λe=>h.ne.1 e.symm),h.xr,h.ne,h.Rf,by rw[xJ];exact h.len,h.n⟩
theorem OZ.list (h:OZ R G Q txt K X rr vb sv s w)(hg:Oq G Q txt K Y w')(hk:Kp (λj=>¬X j) w w')(bY:∀j,X j->Y j):OZ R G Q txt K Y rr vb sv s w':=
 ⟨hg,hk.Lg h.run (λe=>e h.xr.1),h.vec.kp hk (λe=>e h.xr.2),⟨bY _ h.xr.1,bY _ h.xr.2⟩,h.ne,h.Rf,h.len,h.n⟩
end
abbrev RW:RvK PL:=⟨99,λs k v=>[I (s.t:Int),I (s.level:Int),.bool s.done,ptr k 0,ptr v 0,.bool false],PL.xs,PL.t⟩
theorem zbc {P:Program}{e:Env}{d:Option Nat}{ty t t':TypeId}{pos:String}{aft:Array Edge}{g:Option (Nat×Bool)}{x y:Operand}{v:Nat}{w:World}(hv:v<4294967296)(hx:look e x=some (Ly v))(hy:look e y=some (.int .u64 2147483648)):Y P e ⟨d,.binOp .andNot t x y t',ty,pos,aft,g⟩ (Ly (v%2147483648)) w w:=fun ρ hρ=>by
 have h1:v<2^IntKind.u64.bits:=by simp only[IntKind.bits];omega
 have h3:v&&&18446744071562067967=v%2147483648:=by
  have h4:=Qa (s:=31) (a:=v / 2147483648) (b:=v%2147483648) (c:=8589934590) (d:=2147483647) (Nat.mod_lt _ (by decide)) (by decide);have h5:=Nat.and_two_pow_sub_one_eq_mod (v%2147483648) 31;rw[show(2:Nat)^31-1=2147483647 from rfl,show(2:Nat)^31=2147483648 from rfl,Nat.mod_mod] at h5
  have h6:v / 2147483648&&&8589934590=0:=by
   have:v / 2147483648=0\/v / 2147483648=1:=by omega
   rcases this with e|e<;>rw[e]<;>decide
  rw[h5,h6,show(2:Nat)^31=2147483648 from rfl,show v%2147483648+2147483648*(v / 2147483648)=v by omega,show 2147483647+2147483648*8589934590=18446744071562067967 from rfl] at h4;rw[h4];omega
 have h6:(BitVec.ofInt IntKind.u64.bits (v:Int)&&&~~~(BitVec.ofInt IntKind.u64.bits 2147483648)).toNat=v%2147483648:=by
  rw[BitVec.toNat_and,MA h1,show(~~~(BitVec.ofInt IntKind.u64.bits 2147483648)).toNat=18446744071562067967 by decide,h3]
 have Ea:look e x=some (.int .u64 (v:Int)):=hx
 simp only[execOp,eqGuard_andNot,binOp_andNot,intBits_andNot,hρ _ _ Ea,hρ _ _ hy,pure_bind,Sem.run_pure,bits,h6]
 rw[Vv (k:= .u64) O (by simp only[IntKind.bits];omega)]
section
variable {G:GwP}{w w':World}{Q Q':NI}{txt txt':Int->Bytes}{K K':Nat}{X Y S':Nat->Prop}{rr vb sv:Nat}{s s':PL}
theorem OZ.core (h:OZ RW G Q txt K X rr vb sv s w):Lq w rr [I (s.t:Int),I (s.level:Int),.bool s.done,ptr G.k 0,ptr vb 0,.bool false] 99:=h.run
theorem Vr (h:OZ RW G Q txt K X rr vb sv s w):LP Tryz.prog 38 [ptr rr 0] w λv w'=>v=I 0/\w'=w:=by
 have hB:=h.core
 refine Lb (e:=[(0,_)]) Tryz.func38 O Tryz.ntmps38 O O$ qN O$ Lk O$ run_seq$ Lc$ qN O$ Le O$ qV (Ml VP O O)$ Lk O$ An O$ qN O$ Le O$ LU O$ Lt z5P O ?_
 refine qV (Lj U4 O O hB O)$ Lk O$ An O$ py$ Ld$ qN O$ Lk O$ Lh Tryz.func38 O ?_
 exact⟨_,rfl,rfl,rfl⟩
theorem ZC (h:OZ RW G Q txt K X rr vb sv s w):LP Tryz.prog 18 [ptr rr 0] w λv w'=>v=I (s.t:Int)/\w'=w:=by
 have hB:=h.core
 refine Lb (e:=[(0,_)]) Tryz.func18 O Tryz.ntmps18 O O$ qN O$ Lk O$ run_seq$ qN O$ Le O$ qV (Ml VP O O)$ Lf$ An O$ py$ qN O$ Le O$ LU O$ Lt PF O ?_
 refine Lt z1z O$ qV (Lj U3 O O hB O)$ Lk O$ Lh Tryz.func18 O ?_
 exact⟨_,rfl,rfl,rfl⟩
theorem z1B {width:Nat}{xs:List Nat}(hv:Ts Q txt vb width sv xs w){i:Int}(hi:i<0\/(xs.length:Int)<=i):LP Tryz.prog 40 [ptr vb 0,I i] w λv w'=>v= .tuple #[Ly 0,I 1]/\w'=w:=by
 have hB:=hv.cells
 refine Lb (e:=[(0,_),(1,_)]) Tryz.func40 O Tryz.ntmps40 O O$ qN O$ Lw O$ Lk O$ run_seq$ qN O$ Le O$ LD z7w O (PD hv) ?_
 rintro _ w ⟨rfl,rfl⟩
 refine Lw O$ qM O$ Le O$ Mu O O ?_
 by_cases h0:i<0
 ·refine Lf$ An O$ py$ run_seq$ qN O$ Le O$ Mw O O$ Ns$ Le O$ qS$ qS$ qS$ qS$ qS ?_;refine qS$ qS$ MU O O$ Lf$ Lr O$ qN O$ Lw O$ Lk O$ Lh Tryz.func40 O ?_;exact⟨_,rfl,rfl,rfl⟩
 ·have h1:(xs.length:Int)<=i:=hi.resolve_left h0;refine Lf$ An O$ py$ run_seq$ qN O$ Le O$ Mw O O$ M5$ Lu O O$ Le O$ LU O$ Lt NO O$ Lt VK O$ qV (Lj U3 O O hB O) ?_;refine Pa O O$ Ns$ M8 O O$ Lf$ Lr O$ qN O$ Lw O$ Lk O$ Lh Tryz.func40 O ?_;exact⟨_,rfl,rfl,rfl⟩
def ZT (s:PL)(i:Int):Value:=if s.done=false then .tuple #[Ly 0,I 16] else if i<0\/(s.xs.length:Int)<=i then .tuple #[Ly 0,I 1] else .tuple #[Ly ((s.xs[i.toNat]?).getD 0%2147483648),I 0]
theorem Va (h:OZ RW G Q txt K X rr vb sv s w)(i:Int):LP Tryz.prog 10 [ptr rr 0,I i] w λv w'=>v=ZT s i/\OZ RW G Q txt K X rr vb sv s w'/\Kp (λb=>¬(X b\/b=G.rb)) w w':=by
 have hB:=h.core
 refine Lb (e:=[(0,_),(1,_)]) Tryz.func10 O Tryz.ntmps10 O O$ qN O$ Lw O$ Lk O$ run_seq$ qN O$ Le O$ LD zcB O (Vr h) ?_
 rintro _ w ⟨rfl,rfl⟩
 refine Lw O$ qM O$ Le O$ Mu O O$ Lf$ An O$ py$ run_seq$ qN O$ Le O$ LU O$ Lt PF O$ Lt Xc O ?_
 by_cases hd:s.done=false
 ·rw[hd] at hB;refine qV (Lj U4 O O hB O)$ qV ((by first|exact Mh O|exact NL O)) ?_;refine Lf$ Lr O$ qN O$ Lw O$ Lk O$ Lh Tryz.func10 O ?_;unfold ZT;rw[if_pos hd];exact⟨_,rfl,rfl,h,Kp.refl _ _⟩
 ·have JC:s.done=true:=by simpa using hd
  rw[JC] at hB;refine qV (Lj U4 O O hB O)$ qV ((by first|exact Mh O|exact NL O)) ?_;refine Lf$ An O$ py$ qN O$ Le O$ LU O$ Lt RV O$ qV (Lj U90 O O hB O)$ Le O ?_;by_cases hi:i<0\/(s.xs.length:Int)<=i
  ·refine LD z7E O (z1B h.vec hi) ?_;rintro _ w ⟨rfl,rfl⟩;refine Le O$ Mp O O$ Mp O O$ Lw O$ Lk O$ LS.qb (e:=[(4,_),(5,_),(7,_),(8,_)]) ?_;refine qN O$ Le O$ qV (zbc (v:=0) (by decide) O O)$ Le O$ Lw O$ Lk O$ Lh Tryz.func10 O ?_;unfold ZT;rw[if_neg hd,if_pos hi];exact⟨_,rfl,rfl,h,Kp.refl _ _⟩
  ·obtain⟨n,rfl⟩:∃n:Nat,i=(n:Int):=⟨i.toNat,by omega⟩;obtain⟨x,hx⟩:∃x,s.xs[n]? =some x:=⟨_,List.getElem?_eq_getElem (by omega)⟩;have ay:=(h.vec.z8a (xs:=s.xs) hx).1;refine LD z7E O (UK h.g.sp h.g.lt1 h.g.ZG h.vec (.inl h.xr.2) (i:=n) hx) ?_;rintro _ w1 ⟨rfl,jo,aN⟩;have h1:=h.read aN jo;refine Le O$ Mp O O$ Mp O O$ Lw O$ Lk O$ LS.qb (e:=[(4,_),(5,_),(7,_),(8,_)]) ?_;refine qN O$ Le O$ qV (zbc (v:=x) ay O O)$ Le O$ Lw O$ Lk O$ Lh Tryz.func10 O ?_;unfold ZT;rw[if_neg hd,if_neg hi,show((n:Int)).toNat=n by omega,hx];exact⟨_,rfl,rfl,h1,aN⟩
def PL.put (s:PL)(xs:List Nat):PL:={s with xs:=xs}
theorem z3U (xs:List Nat)(u:Nat):(lessC xs u).length=xs.length:=by
 unfold lessC
 split
 ·split
  ·rfl
  ·exact List.length_set
 ·rfl
theorem z0W (h:OZ RW G Q txt K X rr vb sv s w)(hK:K+1<1000000000000){u:Nat}(hu:u<G.g.length):LP Tryz.prog 76 [ptr rr 0,I (u:Int)] w λv w'=>v=I 0/\∃txt',OZ RW G Q txt' (K+1) X rr vb sv (s.put (lessC s.xs u)) w'/\(∀y:Int,y<(sv:Int)\/(sv:Int)+1<=y->txt' y=txt y)/\Kp (λb=>¬(X b\/b=G.rb)) w w':=by
 have hB:=h.core
 have aD:s.xs.length=G.g.length:=h.len
 obtain⟨x,hx⟩:∃x,s.xs[u]? =some x:=⟨_,List.getElem?_eq_getElem (by omega)⟩
 have ay:=(h.vec.z8a (xs:=s.xs) hx).1
 refine Lb (e:=[(0,_),(1,_)]) Tryz.func76 O Tryz.ntmps76 O O$ qN O$ Lw O$ qM O$ Le O$ LU O$ Lt RV O$ qV (Lj U90 O O hB O)$ Le O$ LD z7E O (UK h.g.sp h.g.lt1 h.g.ZG h.vec (.inl h.xr.2) (i:=u) hx) ?_
 rintro _ w1 ⟨rfl,jo,aN⟩
 have h1:=h.read aN jo
 have ai:=h1.core
 by_cases hc:pl<=x\/x=0
 ·have hl:lessC s.xs u=s.xs:=by
   unfold lessC;rw[hx];exact if_pos hc
  rw[hl];refine Le O$ Mp O O$ Mp O O$ Lw O$ Lk O$ run_seq$ qN O$ Le O$ Mu O O$ Lu O O ?_;rcases hc with hc|hc
  ·have L6:2147483648<=x:=hc;refine Pa O O$ Ns$ M8 O O$ Le O$ qS$ qS$ MU O O$ Lf$ Lr O$ qN O$ Le O$ Lk O$ LS.qb (e:=[(0,_),(1,_),(4,_),(5,_)]) ?_;refine Lh Tryz.func76 O ?_;exact⟨_,rfl,rfl,txt,h1.more (Nat.le_succ _) hK,λ_ _=>rfl,aN⟩
  ·subst hc;refine Pa O O$ M5$ M8 O O$ Lu O O$ Nb O O$ Ns$ M8 O O$ Lf$ Lr O$ qN O$ Le O$ Lk O$ LS.qb (e:=[(0,_),(1,_),(4,_),(5,_)]) ?_;refine Lh Tryz.func76 O ?_;exact⟨_,rfl,rfl,txt,h1.more (Nat.le_succ _) hK,λ_ _=>rfl,aN⟩
 ·have hl:lessC s.xs u=s.xs.set u (x-1):=by
   unfold lessC;rw[hx];exact if_neg hc
  have dv:x<2147483648/\x≠0:=by have e:pl=2147483648:=rfl;omega
  rw[hl];refine Le O$ Mp O O$ Mp O O$ Lw O$ Lk O$ run_seq$ qN O$ Le O$ Mu O O$ M5$ Lu O O$ Pa O O$ M5$ M8 O O ?_;refine Lu O O$ Nb O O$ M5$ M8 O O$ Lf$ An O$ py$ qN O$ Le O$ LU O$ Lt RV O$ qV (Lj U90 O O ai O)$ Lu O O$ qV (RO (k:= .u64) (m:=x) (n:=1) O O O (by show x<2^64;omega) (by omega)) ?_;refine LD zar O (UM h1.g.sp h1.g.lt1 h1.g.ZG h1.vec (.inl h.xr.2) (i:=u) (x:=x-1) (by show u<s.xs.length;omega) (by omega)) ?_;rintro _ w2 ⟨rfl,hW⟩;obtain⟨txt2,h2,ni,ao⟩:=h1.wrote (s':=s.put (s.xs.set u (x-1))) hK (λ_ _=>rfl) (List.length_set) hW;refine Lk O$ LS.qb (e:=[(4,_)]) ?_;refine Lh Tryz.func76 O ?_;exact⟨_,rfl,rfl,txt2,h2,ni,aN.trans ao⟩
theorem z4C (h:Oq G Q txt K X w){v:Nat}(hv:v<G.g.length):LP Tryz.prog 35 [ptr G.k 0,I (v:Int)] w λr w'=>r= .tuple #[I ((Lo G.g v).length:Int),I 0]/\Oq G Q txt K X w'/\Kp (λj=>¬X j) w w':=by
 obtain⟨o,h⟩:=h
 refine Lb (e:=[(0,_),(1,_)]) Tryz.func35 O Tryz.ntmps35 O O$ qN O$ Lw O$ Lk O$ run_seq$ qN O$ Lu O O$ Lm O O (RN (cs:=[_]) (zs:=[Value.int .i64 0]) N3 Md O (by kernel_rfl) O O O (by decide)) ?_
 rintro _ w1 ⟨vb1,rfl,⟨ew,ad,ai⟩,iE⟩
 have h1:=h.ext ad
 refine LD zdW O (Xh h1 hv iE.rd) ?_
 rintro _ w1 ⟨rfl,rfl⟩
 refine Lw O$ qM O$ Le O$ Mu O O$ Lf$ An O$ py$ qN O$ Lu O O$ LD zdP O (Wl h1 hv) ?_
 rintro _ w2 ⟨b,a,s,rest,rfl,cH,m9,c6,h2,ao⟩
 refine Le O$ qV (Nq (v:= .agg #[I ((Lo G.g v).length:Int),I (LR G.g G.E v:Int)]) O O)$ qV (Nq (v:=ptr b 0) O O)$ qV (Nq (v:=I ((a+(LG (OX G.p G.g G.E v)).length:Nat):Int)) O O)$ qV (Nq (v:=I 0) O O)$ Lm O O (NJ (cs:=[_,_]) NS O) ?_
 rintro _ w3 ⟨b9,rfl,mz,ah,aq⟩
 refine Ls O (M7 (news:=[I ((Lo G.g v).length:Int),I (LR G.g G.E v:Int)]) NS O O O O aq (by simp)) ?_
 rintro w4 ⟨aF,av⟩
 replace aF:Lq w4 b9 [I ((Lo G.g v).length:Int),I (LR G.g G.E v:Int)] 157:=aF
 have cX:Ext w2 w4:=ah.It av (λj e=>by omega)
 have h4:=(h2.ext cX).less (X:=X) (λj hj=> .inl hj) h.xk h.xx h.x1 h.x2
 refine Lw O$ Lw O$ Lw O$ qM O$ Lt Oz O$ qV (Lj U3 O O aF O)$ Le O$ Lw O$ Lk O$ LS.qb (e:=[(4,_),(5,_)]) ?_
 refine Lh Tryz.func35 O ?_
 exact⟨_,rfl,rfl,⟨o,h4⟩,(ad.kp.trans ao).trans cX.kp⟩
end
section
variable {G:GwP}{w w':World}{Q Q':NI}{txt txt':Int->Bytes}{K K':Nat}{X Y S':Nat->Prop}{rr vb sv:Nat}{s s':PL}
theorem WG:∀(l:List Nat) (xs:List Nat),(l.foldl lessC xs).length=xs.length
 |[],xs=>rfl
 |u::l,xs=>by rw[List.foldl_cons,WG l,z3U]
structure PeI (G:GwP)(Q:NI)(txt:Int->Bytes)(K:Nat)(X Y:Nat->Prop)(rr vb sv:Nat)(s:PL)(br b3:Nat)(w:World)(ys:List Nat)(w':World):Prop where
 ex:∃txt',OZ RW G Q txt' K Y rr vb sv (s.put ys) w'/\∀y:Int,y<(sv:Int)\/(sv:Int)+1<=y->txt' y=txt y
 br:Lq w' br [ptr rr 0] 34
 b3:Lq w' b3 [I 0] 35
 k:Kp (λb=>¬X b) w w'
theorem PeI.own {br b3:Nat}{ys:List Nat}{w0:World}(h:PeI G Q txt K X Y rr vb sv s br b3 w0 ys w)(hk:Kp S' w w')(hS:∀j,S' j->Y j/\j≠G.k/\j≠G.x/\j≠0/\j≠1/\j≠rr/\j≠vb/\j≠br/\j≠b3/\w0.heap.size<=j):PeI G Q txt K X Y rr vb sv s br b3 w0 ys w':=by
 obtain⟨⟨txt',h1,h2⟩,h3,h5,h6⟩:=h
 refine⟨⟨txt',h1.own hk (λj e=>?_),h2⟩,hk.Lg h3 (λe=>?_),hk.Lg h5 (λe=>?_),h6.It hk λj e=> .inl ?_⟩
 ·obtain⟨a1,a2,a3,a4,a5,a6,a7,-⟩:=hS j e;exact⟨a1,a2,a3,a4,a5,a6,a7⟩
 ·exact(hS _ e).2.2.2.2.2.2.2.1 O
 ·exact(hS _ e).2.2.2.2.2.2.2.2.1 O
 ·exact(hS _ e).2.2.2.2.2.2.2.2.2
theorem z1S {br v:Nat}(h:OZ RW G Q txt K X rr vb sv s w)(hK:K<=900000000000)(vh:Lq w br [ptr rr 0] 34)(JD:X br)(Eb:s.level<=1000000)(hv:v<G.g.length):LP Tryz.prog 74 [I (v:Int),ptr br 0] w λr w'=>r=I 0/\∃txt',OZ RW G Q txt' (K+64) X rr vb sv (s.put (NZ G.g s.level s.xs v)) w'/\(∀y:Int,y<(sv:Int)\/(sv:Int)+1<=y->txt' y=txt y)/\Kp (λb=>¬X b) w w':=by
 have pZ:=h.n
 have q9:=h.g.ok.gr
 have aD:s.xs.length=G.g.length:=h.len
 have aV:=h.g.lt1
 have fm:(Lo G.g v).length<=G.g.length:=by
  unfold Lo;rw[List.getElem?_eq_getElem hv];exact q9.len (List.getElem_mem hv)
 refine Lb (e:=[(0,_),(1,_)]) Tryz.func74 O Tryz.ntmps74 O O$ qN O$ Lm O O (NJ (cs:=[_]) z54 O) ?_
 rintro _ w1 ⟨b3,rfl,eB,ad,aq⟩
 have z1:=ad.size
 have l3:=aq.lt
 have lbr:=vh.lt
 obtain⟨X0,tv⟩:∃X0:Nat->Prop,(λj=>X j\/j=b3)=X0:=⟨_,rfl⟩
 have fi:∀j,X j->X0 j:=λj hj=>by rw[<-tv];exact .inl hj
 have aT:X0 br/\X0 b3:=by rw[<-tv];exact⟨.inl JD,.inr O⟩
 have h1:OZ RW G Q txt K X0 rr vb sv s w1:=h.grow ad (λj hj=>by rw[<-tv] at hj;exact hj.imp id λe=>by omega) fi
 have JE:=aV rr (.inl h.xr.1)
 have EB:=aV vb (.inl h.xr.2)
 have yn:=aV _ (.inl h.g.xk.1)
 have L7:=aV _ (.inl h.g.xk.2.1)
 have Ga:=aV _ (.inl h.g.xk.2.2.1)
 have L8:=aV _ (.inl h.g.xk.2.2.2)
 have gM:=ad.Lg vh
 have kj:=h1.core
 have aJ:=Ext.LC w1
 refine Lf$ run_seq$ run_seq$ N7 (λw'=>Kp (λj=>¬(X0 j\/j=G.rb)) w1 w') O$ qT 0 O (λ_ hS=>(by first|exact Lj VP O O (hS.Lg gM (λe=>e (.inl aT.1))) O|exact Lj VP O O (hS.Lg kj (λe=>e (.inl h1.xr.1))) O)) (aJ.kp) ?_
 refine Ll 1 O (Mo O) (aJ.kp)$ Ll 2 O (LV RV O) (aJ.kp)$ qT 3 O (λ_ hS=>(by first|exact Lj U90 O O (hS.Lg gM (λe=>e (.inl aT.1))) O|exact Lj U90 O O (hS.Lg kj (λe=>e (.inl h1.xr.1))) O)) (aJ.kp) ?_
 refine LA 4 O O (aJ.kp)$ qT 5 O (λ_ hS=>(by first|exact Lj VP O O (hS.Lg gM (λe=>e (.inl aT.1))) O|exact Lj VP O O (hS.Lg kj (λe=>e (.inl h1.xr.1))) O)) (aJ.kp) ?_
 refine Ll 6 O (Mo O) (aJ.kp)$ Ll 7 O (LV PF O) (aJ.kp)$ Ll 8 O (LV YI O) (aJ.kp)$ qT 9 O (λ_ hS=>(by first|exact Lj U3 O O (hS.Lg gM (λe=>e (.inl aT.1))) O|exact Lj U3 O O (hS.Lg kj (λe=>e (.inl h1.xr.1))) O)) (aJ.kp) ?_
 refine Ll 10 O (Qu O O (by omega)) (aJ.kp)$ Ll 11 O ((by first|exact Mc O U3 MP (by omega)|exact Ny O U3 MP)) (aJ.kp) ?_
 rw[show(2147483648:Int)+(s.level:Int)=((2147483648+s.level:Nat):Int) by omega]
 refine OA 12 O zar O (UM ((h1.ext aJ).g.sp) (h1.ext aJ).g.lt1 (h1.ext aJ).g.ZG (h1.ext aJ).vec (.inl h1.xr.2) (i:=v) (x:=2147483648+s.level) (by show v<s.xs.length;omega) (by omega)) ?_
 rintro _ w2 ⟨rfl,hW⟩
 refine⟨aJ.kp.trans hW.kpX,?_⟩
 obtain⟨txt2,h2,ni,ao⟩:=(h1.ext aJ).wrote (s':=s.put (s.xs.set v (pl+s.level))) (K':=K+1) (by omega) (λ_ _=>rfl) (List.length_set) hW
 have aS:=aJ.kp.trans ao
 have tw:=aS.Lg gM (λe=>e (.inl aT.1))
 have cU:=aS.Lg aq (λe=>e (.inl aT.2))
 have yo:=h2.core
 have dC:Kp (λb=>¬X b) w w2:=ad.kp.trans (aS.Lv λb e e2=>e (.inl (fi b e2)))
 obtain⟨xs2,tz⟩:∃xs2,s.xs.set v (pl+s.level)=xs2:=⟨_,rfl⟩
 rw[tz] at h2
 have JF:xs2.length=G.g.length:=by rw[<-tz,List.length_set];exact aD
 have z2:=aS.size
 refine Ll 13 O (Ni O) (aJ.kp.trans hW.kpX)$ qE$ qN O$ Le O$ Mu O O$ Lf$ An O$ py$ run_seq$ qN O$ qV ((by first|exact Lj VP O O tw O|exact Lj VP O O yo O)) ?_
 refine LU O$ Lt z6f O$ qV ((by first|exact Lj Zl O O tw O|exact Lj Zl O O yo O)) ?_
 refine Le O$ LD zfQ O (z1d G.k v _) ?_
 rintro _ w6 ⟨bk,bi,rfl,tW,DE,gp,uh,aK⟩
 have z6:=aK.size
 refine Lf$ LS.qb (e:=[(1,_),(3,_),(29,_)]) ?_
 refine Lc$ Px (ps:=[30,31]) (p:=[]) (q:=[_,_]) O zdR ?_
 rintro l wl f9 dN cF hD Rc dL eV
 have zl:=f9.size
 have qW:=aK.trans f9
 obtain⟨X1,kO⟩:∃X1:Nat->Prop,(λj=>X0 j\/j=w6.heap.size\/j=l)=X1:=⟨_,rfl⟩
 have qa:∀j,X0 j->X1 j:=λj hj=>by rw[<-kO];exact .inl hj
 have kN:X1 l/\X1 w6.heap.size:=by rw[<-kO];exact⟨.inr (.inr O),.inr (.inl O)⟩
 have Gb:OZ RW G Q txt2 (K+1) X1 rr vb sv (s.put xs2) wl:=h2.grow qW (λj hj=>by rw[<-kO] at hj;exact hj.imp id λe=>by omega) qa
 have tA:∀j,j=l\/j=w6.heap.size->j≠G.k/\j≠G.x/\j≠0/\j≠1/\j≠rr/\j≠vb/\j≠br/\j≠b3/\w.heap.size<=j:=λj hj=>by omega
 refine LP.mono (z1X (by omega) hv Gb.g (f9.Lg tW) (f9.Lg DE) (λj=>j=l) (λj hj=>hj▸kN.1)
  (λY i w'=>Rc .ready none w'/\PeI G Q txt (K+1+i) X Y rr vb sv s br b3 w (((Lo G.g v).take i).foldl lessC xs2) w'/\w'.heap[w6.heap.size]? =some (.deferred (some [])))
  (λ_=>False) ?_ ?_) ?_
 ·intro Y w7 bY kR tq aC;have ke:Kp (λj=>¬X1 j) w2 w7:=qW.kp.trans aC;exact⟨aC.rc dL eV (λe=>e kN.1),⟨⟨txt2,Gb.list tq aC bY,ni⟩,ke.Lg tw (λe=>e (qa _ aT.1)),ke.Lg cU (λe=>e (qa _ aT.2)),dC.trans (ke.Lv λb e e2=>e (qa _ (fi b e2)))⟩,aC.heap hD (λe=>e kN.2)⟩
 ·rintro Y i u w7 bY kR hs ⟨Gc,jh,JG⟩;have iC:u<G.g.length:=NR q9 v u (List.mem_of_getElem? hs)
  have cE:i<(Lo G.g v).length:=by
   rcases Nat.lt_or_ge i (Lo G.g v).length with h| h
   ·exact h
   ·rw[List.getElem?_eq_none h] at hs;cases hs
  have dW:((Lo G.g v).take (i+1)).foldl lessC xs2=lessC (((Lo G.g v).take i).foldl lessC xs2) u:=by
   rw[M4 hs,List.foldl_append];rfl
  rw[dW];obtain⟨q,hq⟩:∃q,((Lo G.g v).take i).foldl lessC xs2=q:=⟨_,rfl⟩;rw[hq] at jh⊢;have yp:Y br/\Y b3:=⟨bY _ (qa _ aT.1),bY _ (qa _ aT.2)⟩;have zV:Y l/\Y w6.heap.size:=⟨bY _ kN.1,bY _ kN.2⟩;have Ec:∀j,X j->Y j:=λj hj=>bY _ (qa _ (fi j hj));refine QO dL Gc O O$ qN O$ Lk O$ Li O$ Lk O$ run_beginRound O dL Gc ?_;rintro w8 CK bB;obtain⟨⟨txt8,h8,zS⟩,yr,mv,mw⟩:=jh.own bB (λj e=>⟨e▸zV.1,tA j (.inl e)⟩);have JH:=bB.heap JG (by omega);refine Lc$ run_seq$ qN O$ Le O$ Mu O O$ Lf$ An O$ py$ qN O$ qV (Lj VP O O yr O)$ Le O$ qV (M3 O Mx U3 (by omega))$ LD zfp O (z0W h8 (by omega) iC) ?_;rintro _ w9 ⟨rfl,txt9,h9,zU,aP⟩;have Ed:=aP.Lg yr (λe=>e (.inl yp.1));have nr:=aP.Lg mv (λe=>e (.inl yp.2));have JI:=aP.heap JH (λe=>e (.inl zV.2));have JJ:=aP.rc dL CK (λe=>e (.inl zV.1));have nQ:Kp (λb=>¬X b) w w9:=mw.trans (aP.Lv λb e e2=>e (.inl (Ec b e2)));have Ee:Kp (λj=>¬Y j\/j=l) w7 w9:=(bB.Lv λj e=> .inr e).trans (aP.Lv λj e=> .inl λe2=>e (.inl e2));refine Lw O$ qM O$ Le O$ Mu O O$ Lf$ An O$ py$ Ld$ Rk dL JJ ?_;intro w12 Ef aS;exact .inl ⟨rfl,⟨Ef,PeI.own ⟨⟨txt9,h9,λy hy=>by rw[zU y hy];exact zS y hy⟩,Ed,nr,nQ⟩ aS (λj e=>⟨e▸zV.1,tA j (.inl e)⟩),aS.heap JI (by omega)⟩,Ee.trans (aS.Lv λj e=> .inr e)⟩
 ·rintro v' wz ⟨rfl,⟨Y,bY,kR,JK,JL,JM⟩|hF⟩
  ·refine⟨_,_,JK,by simp,λwy ip=>?_⟩;obtain⟨⟨txty,hy,zL⟩,JN,Eg,Eh⟩:=JL.own ip (λj e=>⟨e▸bY _ kN.1,tA j (.inl e)⟩);have xB:=ip.heap JM (by omega);have zy:=ip.size;rw[List.take_length] at hy;refine Ld$ qN O$ Ls O (MY z54 O O O Eg (by simp)) ?_;rintro wx ⟨Ei,gJ⟩;have JO:=gJ.heap xB (by omega);have fw:Kp (λk=>k=w6.heap.size) wx (Pb [.mk w6.heap.size] wx):=MM wx w6.heap.size (.deferred none);have pL:=fw.Lg Ei (by omega);refine Lf$ Sk (by simp) (Ud JO) Tryz.func74 (.cell1 U35 O O ((pL).cell _) .nil) ?_;have Ej:∀j,X j->Y j:=λj hj=>bY _ (qa _ (fi j hj));have Ea:=hy.own gJ (λj e=>by rw[e];exact⟨bY _ (qa _ aT.2),by omega,by omega,by omega,by omega,by omega,by omega⟩);have nx:=Ea.own fw (λj e=>by rw[e];exact⟨bY _ kN.2,by omega,by omega,by omega,by omega,by omega,by omega⟩);have uN:NZ G.g s.level s.xs v=(Lo G.g v).foldl lessC xs2:=by unfold NZ;rw[tz]
   rw[uN];refine⟨_,rfl,rfl,txty,(nx.less Ej h.g.xk h.xr).more (by omega) (by omega),zL,?_⟩;exact(Eh.It gJ λb e=> .inl (by omega)).It fw λb e=> .inl (by omega)
  ·exact hF.elim
theorem Y1 (g:List (List Nat))(L:Nat)(xs:List Nat)(v:Nat):(NZ g L xs v).length=xs.length:=by
 unfold NZ
 rw[WG,List.length_set]
theorem z6n (g:List (List Nat))(L:Nat)(p:List Nat×Bool×Bool)(v:Nat):(T5 g L p v).1.length=p.1.length:=by
 unfold T5
 split
 ·split
  ·rfl
  ·split
   ·rfl
   ·exact Y1 ..
 ·rfl
structure zf9 (G:GwP)(Q:NI)(txt:Int->Bytes)(K:Nat)(X Y:Nat->Prop)(rr vb sv:Nat)(s:PL)(br:Nat)(w:World)(ys:List Nat)(w':World):Prop where
 ex:∃txt',OZ RW G Q txt' K Y rr vb sv (s.put ys) w'/\∀y:Int,y<(sv:Int)\/(sv:Int)+1<=y->txt' y=txt y
 br:Lq w' br [ptr rr 0] 34
 k:Kp (λb=>¬X b) w w'
theorem z08 (h:OZ RW G Q txt K X rr vb sv s w)(hK:K<=800000000000)(Eb:s.level<=100000)(ht:s.t<=100000):LP Tryz.prog 39 [ptr rr 0] w λr w'=>r=I 0/\∃txt',OZ RW G Q txt' (K+3200) X rr vb sv (s.step G.g) w'/\(∀y:Int,y<(sv:Int)\/(sv:Int)+1<=y->txt' y=txt y)/\Kp (λb=>¬X b\/b=rr) w w':=by
 have pZ:=h.n
 have aD:s.xs.length=G.g.length:=h.len
 have aV:=h.g.lt1
 refine Lb (e:=[(0,_)]) Tryz.func39 O Tryz.ntmps39 O O$ qN O$ Lm O O (Nc O (cs:=[ptr rr 0]) O) ?_
 rintro _ w1 ⟨br,rfl,Bz,ad,gM⟩
 have z1:=ad.size
 have lbr:=gM.lt
 obtain⟨X0,tv⟩:∃X0:Nat->Prop,(λj=>X j\/j=br)=X0:=⟨_,rfl⟩
 have fi:∀j,X j->X0 j:=λj hj=>by rw[<-tv];exact .inl hj
 have aT:X0 br:=by rw[<-tv];exact .inr O
 have h1:OZ RW G Q txt K X0 rr vb sv s w1:=h.grow ad (λj hj=>by rw[<-tv] at hj;exact hj.imp id λe=>by omega) fi
 have JE:=aV rr (.inl h.xr.1)
 have kj:=h1.core
 refine Lw O$ qM O$ Lw O$ Lw O$ qM O$ qV (Z9 (first:=[]) (caps:=[.tmp 1]) O O)$ Lk O$ run_seq$ qN O$ qV ((by first|exact Lj VP O O gM O|exact Lj VP O O kj O)) ?_
 refine LU O$ Lt z6f O$ qV ((by first|exact Lj Zl O O gM O|exact Lj Zl O O kj O)) ?_
 refine LD za1 O (YO h1.g) ?_
 rintro _ w1 ⟨rfl,rfl⟩
 refine Le O$ Lf$ Lc$ Nj (α:=Nat×(List Nat×Bool×Bool)) ((0,(s.xs,false,false))) (λy=>[(1,ptr br 0),(3,.bool y.2.2.1),(4,.bool y.2.2.2),(5,.func (.func 74) #[] #[ptr br 0]),(15,I (G.g.length:Int)),(16,I (y.1:Int))]) (λy w'=>y.1<=G.g.length/\y.2=(List.range y.1).foldl (T5 G.g s.level) (s.xs,false,false)/\y.2.1.length=G.g.length/\zf9 G Q txt (K+64*y.1) X X0 rr vb sv s br w y.2.1 w') (λy=>G.g.length-y.1) ?hI ?hround
 case hI=>exact⟨Nat.zero_le _,rfl,aD,⟨⟨txt,h1,λy _=>rfl⟩,gM,ad.kp⟩⟩
 case hround=>
  rintro⟨v,p⟩ w4 ⟨hv,hp,eQ,jU⟩ ih;dsimp only at hv hp eQ jU ih⊢;obtain⟨⟨txt4,h4,qc⟩,lZ,av⟩:=id jU;have nV:Lq w4 rr [I (s.t:Int),I (s.level:Int),.bool s.done,ptr G.k 0,ptr vb 0,.bool false] 99:=h4.core
  try dsimp only
  refine qN O$ Mw O O$ Lf$ run_seq$ Lp O (λhq=>?_)$ λhq=>?_
  ·have di:v<G.g.length:=by omega
   obtain⟨x,hx⟩:∃x,p.1[v]? =some x:=⟨_,List.getElem?_eq_getElem (by omega)⟩;have JP:=(h4.vec.z8a (xs:=p.1) hx).1;have iK:(List.range (v+1)).foldl (T5 G.g s.level) (s.xs,false,false)=T5 G.g s.level p v:=by rw[List.range_succ,List.foldl_append,<-hp];rfl
   have jW:=z6n G.g s.level p v
   have kk:T5 G.g s.level p v=if pl<=x then p else if s.level<x then(p.1,p.2.1,true) else(NZ G.g s.level p.1 v,true,p.2.2):=by
    unfold T5;rw[hx]
   refine py$ run_seq$ Lc$ qN O$ Le O$ Lw O$ qM O$ qV ((by first|exact Lj VP O O lZ O|exact Lj VP O O nV O)) ?_;refine LU O$ Lt RV O$ qV ((by first|exact Lj U90 O O lZ O|exact Lj U90 O O nV O)) ?_;refine Le O$ LD z7E O (UK h4.g.sp h4.g.lt1 h4.g.ZG h4.vec (.inl h4.xr.2) (i:=v) hx) ?_;rintro _ w5 ⟨rfl,gS,ak⟩;have h5:=h4.read ak gS;have gm:=ak.Lg lZ (λe=>e (.inl aT));have j7:Lq w5 rr [I (s.t:Int),I (s.level:Int),.bool s.done,ptr G.k 0,ptr vb 0,.bool false] 99:=h5.core;have ci:Kp (λb=>¬X b) w w5:=av.trans (ak.Lv λb e e2=>e (.inl (fi b e2)));refine Le O$ Mp O O$ Mp O O$ Lw O$ Lk O$ Lc$ qN O$ Le O$ Mu O O$ Lk O$ An O$ qN O$ Le O ?_;by_cases tP:2147483648<=x
   ·rw[if_pos tP] at kk;refine Pa O O$ Ns$ Lk O$ Lr O$ py$ Ld$ Ld$ Li O$ Mb O O$ Le O$ Lf ?_;exact(ih (v+1,p) w5 ⟨by omega,by rw[iK,kk],eQ,⟨⟨txt4,h5.more (by omega) (by omega),qc⟩,gm,ci⟩⟩ (by omega)).qb
   ·rw[if_neg tP] at kk;refine Pa O O$ M5$ Lk O$ An O$ qN O$ Le O$ qV ((by first|exact Lj VP O O gm O|exact Lj VP O O j7 O)) ?_;refine LU O$ Lt PF O$ Lt YI O$ qV ((by first|exact Lj U3 O O gm O|exact Lj U3 O O j7 O)) ?_;refine qV ((by first|exact Mc O U3 MP (by omega)|exact Ny O U3 MP)) ?_;by_cases oc:s.level<x
    ·rw[if_pos oc] at kk;refine MH O O$ Ns$ Lk O$ Lr O$ Li O$ Lk O$ Ld$ Ld$ Li O$ Mb O O$ Le O$ Lf ?_;exact(ih (v+1,(p.1,p.2.1,true)) w5 ⟨by omega,by rw[iK,kk],eQ,⟨⟨txt4,h5.more (by omega) (by omega),qc⟩,gm,ci⟩⟩ (by omega)).qb
    ·rw[if_neg oc] at kk;refine MH O O$ M5$ Lk O$ An O$ qN O$ Lw O$ qM O$ Lu O O$ MK O O (NW zeX O O) (z1S h5 (by omega) gm aT (by show s.level<=1000000;omega) di) ?_;rintro _ w6 ⟨rfl,txt6,h6,G5,aU⟩;refine Lw O$ qM O$ Le O$ Mu O O$ Lf$ An O$ py$ Ld$ Ld$ Li O$ Mb O O$ Le O$ Lf ((ih (v+1,(NZ G.g s.level p.1 v,true,p.2.2)) w6 ⟨by omega,by rw[iK,kk],by show(NZ G.g s.level p.1 v).length=_;rw[Y1];exact eQ,⟨⟨txt6,?_,λy hy=>by rw[G5 y hy];exact qc y hy⟩,aU.Lg gm (λe=>e aT),ci.trans (aU.Lv λb e e2=>e (fi b e2))⟩⟩ (by omega)).qb);exact h6.more (by omega) (by omega)
  ·have di:v=G.g.length:=by omega
   subst di;have JQ:p=Rh G.g s.level s.xs:=hp;refine Ln O$ qN O$ qV ((by first|exact Lj VP O O lZ O|exact Lj VP O O nV O)) ?_;refine LU O$ Lt PF O$ Lt z1z O$ qV ((by first|exact Lj U3 O O lZ O|exact Lj U3 O O nV O)) ?_;refine Mb O O$ LU O$ Lt PF O$ Lt z1z O ?_;rw[show(s.t:Int)+1=((s.t+1:Nat):Int) by omega];refine Ls O (MY Md O O O nV (by simp)) ?_;rintro w5 ⟨aI,ak⟩;have h5:=h4.set (s':=⟨s.t+1,s.level,s.done,p.1⟩) ak (show Lq w5 rr (RW.cs (⟨s.t+1,s.level,s.done,p.1⟩:PL) G.k vb) RW.T from aI) O;have gm:=ak.Lg lZ (by omega);have ci:Kp (λb=>¬X b\/b=rr) w w5:=(av.Lv λb e=> .inl e).trans (ak.Lv λb e=> .inr e);have j7:Lq w5 rr [I ((s.t+1:Nat):Int),I (s.level:Int),.bool s.done,ptr G.k 0,ptr vb 0,.bool false] 99:=h5.core
   have fY:∀(L:Nat) (w6:World),L=(if p.2.1 then s.level else s.level+1)->OZ RW G Q txt4 (K+64*G.g.length) X0 rr vb sv ⟨s.t+1,L,s.done,p.1⟩ w6->∀w7,Lq w7 rr [I ((s.t+1:Nat):Int),I (L:Int),.bool (!p.2.2),ptr G.k 0,ptr vb 0,.bool false] 99->Kp (λb=>b=rr) w6 w7->OZ RW G Q txt4 (K+3200) X rr vb sv (s.step G.g) w7:=λL w6 hL h6 w7 bJ aC=>by
    have h7:=h6.set (s':=⟨s.t+1,L,!p.2.2,p.1⟩) aC (show Lq w7 rr (RW.cs (⟨s.t+1,L,!p.2.2,p.1⟩:PL) G.k vb) RW.T from bJ) O
    have e:s.step G.g=⟨s.t+1,L,!p.2.2,p.1⟩:=by
     unfold PL.step;rw[<-JQ,hL]
    rw[e];exact(h7.less fi h.g.xk h.xr).more (by omega) (by omega)
   refine Lf$ run_seq$ qN O$ Le O ?_
   cases hs:p.2.1 with
   | true =>
     rw[hs] at fY;refine qV ((by first|exact Mh O|exact NL O)) ?_;rw[show(!true)=false from rfl];refine Lf$ An O$ py$ qN O$ qV ((by first|exact Lj VP O O gm O|exact Lj VP O O j7 O)) ?_;refine Le O$ qV ((by first|exact Mh O|exact NL O)) ?_;refine LU O$ Lt PF O$ Lt Xc O$ Ls O (MY Rz O O O j7 (by simp)) ?_;rintro w7 ⟨bJ,aC⟩;refine qM O$ Lk O$ LS.qb (e:=[(2,_)]) ?_;refine Lh Tryz.func39 O ?_
     exact⟨_,rfl,rfl,txt4,fY s.level _ O h5 _ bJ aC,qc,ci.trans (aC.Lv λb e=> .inr e)⟩
   | false =>
     rw[hs] at fY;refine qV ((by first|exact Mh O|exact NL O)) ?_;rw[show(!false)=true from rfl];refine Lf$ Lr O$ Li O$ qV ((by first|exact Lj VP O O gm O|exact Lj VP O O j7 O)) ?_;refine LU O$ Lt PF O$ Lt YI O$ qV ((by first|exact Lj U3 O O gm O|exact Lj U3 O O j7 O)) ?_;refine Mb O O$ LU O$ Lt PF O$ Lt YI O ?_;rw[show(s.level:Int)+1=((s.level+1:Nat):Int) by omega];refine Ls O (MY Md O O O j7 (by simp)) ?_;rintro w6 ⟨aR,aU⟩;have h6:=h5.set (s':=⟨s.t+1,s.level+1,s.done,p.1⟩) aU (show Lq w6 rr (RW.cs (⟨s.t+1,s.level+1,s.done,p.1⟩:PL) G.k vb) RW.T from aR) O;have Ek:=aU.Lg gm (by omega);have yt:Lq w6 rr [I ((s.t+1:Nat):Int),I ((s.level+1:Nat):Int),.bool s.done,ptr G.k 0,ptr vb 0,.bool false] 99:=h6.core;refine Lf$ LS.qb (e:=[(1,_),(4,_)]) ?_;refine qN O$ qV ((by first|exact Lj VP O O Ek O|exact Lj VP O O yt O)) ?_;refine Le O$ qV ((by first|exact Mh O|exact NL O)) ?_;refine LU O$ Lt PF O$ Lt Xc O$ Ls O (MY Rz O O O yt (by simp)) ?_;rintro w7 ⟨bJ,aC⟩;refine qM O$ Lk O$ Lh Tryz.func39 O ?_;exact⟨_,rfl,rfl,txt4,fY (s.level+1) _ O h6 _ bJ aC,qc,(ci.trans (aU.Lv λb e=> .inr e)).trans (aC.Lv λb e=> .inr e)⟩
end
section
variable {G:GwP}{w w':World}{Q Q':NI}{txt txt':Int->Bytes}{K K':Nat}{X Y S':Nat->Prop}{rr vb sv:Nat}{s s':PL}
theorem Wt (h:OZ RW G Q txt K X rr vb sv s w)(hK:K<=800000000000)(Eb:s.level<=100000)(ht:s.t<=100000)(hd:s.done=false):LP Tryz.prog 9 [ptr rr 0] w λv w'=>v= .tuple #[.bool (s.step G.g).done,I 0]/\∃txt',OZ RW G Q txt' (K+3200) X rr vb sv (s.step G.g) w'/\(∀y:Int,y<(sv:Int)\/(sv:Int)+1<=y->txt' y=txt y)/\Kp (λb=>¬X b\/b=rr) w w':=by
 have hB:=h.core
 rw[hd] at hB
 refine Lb (e:=[(0,_)]) Tryz.func9 O Tryz.ntmps9 O O$ qN O$ Lw O$ Lk O$ run_seq$ qN O$ Le O$ LD zcB O (Vr h) ?_
 rintro _ w ⟨rfl,rfl⟩
 refine Lw O$ qM O$ Le O$ Mu O O$ Lf$ An O$ py$ run_seq$ qN O$ Le O$ LU O$ Lt PF O$ Lt Xc O$ qV (Lj U4 O O hB O) ?_
 refine Lf$ An O$ py$ run_seq$ qN O$ Le O$ LD zeV O (z08 h hK Eb ht) ?_
 rintro _ w1 ⟨rfl,txt1,h1,pw,aN⟩
 have ai:=h1.core
 refine Lw O$ qM O$ Le O$ Mu O O$ Lf$ An O$ py$ qN O$ Le O$ LU O$ Lt PF O$ Lt Xc O$ qV (Lj U4 O O ai O)$ Lw O ?_
 refine Lk O$ Lh Tryz.func9 O ?_
 exact⟨_,rfl,rfl,txt1,h1,pw,aN⟩
end
section
variable {G:GwP}{w w':World}{Q Q':NI}{txt txt':Int->Bytes}{K K':Nat}{X Y S':Nat->Prop}{rr vb sv:Nat}{s s':PL}
def zf8 (s:PL)(k:Nat):List Value:=[I (s.t:Int),I (s.level:Int),.bool s.done,ptr k 0,.pointer none,.bool true]
theorem z09 (h:OZ RW G Q txt K X rr vb sv s w)(cW:2<=sv)(hc:Q.L[sv]? =some true):LP Tryz.prog 12 [ptr rr 0] w λv w'=>v=I 0/\∃txt',Oq G (Q.MD (MZ Q.L sv 1 false)) txt' K X w'/\Lq w' rr (zf8 s G.k) 99/\(∀y:Int,y<(sv:Int)\/(sv:Int)+1<=y->txt' y=txt y)/\Kp (λb=>¬X b\/b=rr\/b=vb) w w':=by
 have hB:=h.core
 have hd:=h.Rf
 have ct:=h.vec.fit
 have pZ:=h.n
 have hl:s.xs.length=G.g.length:=h.len
 have jW:RJ (RW.xs s).length 128=1:=by
  show RJ s.xs.length 128=1;rw[hl];unfold RJ;omega
 obtain⟨n1,n2,n3,n4,n5,n6,n7,n8,n9⟩:=h.ne
 have dt:=z0K h.g.sp h.g.lt1 h.vec (.inl h.xr.2) cW (λi e1 e2=>by rw[show 512 / 4=128 from rfl,jW] at e2;rw[show i=sv by omega];exact hc)
 rw[show 512 / 4=128 from rfl,jW] at dt ct
 refine Lb (e:=[(0,_)]) Tryz.func12 O Tryz.ntmps12 O O$ qN O$ Lk O$ run_seq$ Lc$ qN O$ Le O$ qV (Ml VP O O)$ Lk O$ An O$ qN O$ Le O$ LU O$ Lt RV O ?_
 refine qV (Lj U90 O O hB O)$ qV (Ml U90 O O)$ Lk O$ An O$ py$ Ld$ run_seq$ qN O$ Le O$ LU O$ Lt RV O$ qV (Lj U90 O O hB O)$ LD zeG O (dt) ?_
 rintro _ w1 ⟨rfl,txt1,jo,pw,aN⟩
 have ai:=aN.Lg hB (λe=>e.elim (λe=>e (.inl h.xr.1)) n1)
 refine Lw O$ qM O$ Le O$ Mu O O$ Lf$ An O$ py$ qN O$ Lu O O$ LU O$ Lt RV O$ Ls O (MY zaV O O O ai (by simp)) ?_
 rintro w2 ⟨am,ao⟩
 replace am:Lq w2 rr [I (s.t:Int),I (s.level:Int),.bool s.done,ptr G.k 0,.pointer none,.bool false] 99:=am
 refine LU O$ Lt z5P O$ Ls O (MY Rz O O O am (by simp)) ?_
 rintro w3 ⟨aq,ax⟩
 refine Lf$ LS.qb (e:=[(2,_)]) ?_
 refine qN O$ Lk O$ Lh Tryz.func12 O ?_
 have aJ:Oq G (Q.MD (MZ Q.L sv 1 false)) txt1 K X w1:=h.g.Xk aN (λb e=>e.elim .inl (λe=> .inr (by rw[e];exact⟨h.xr.2,n6,n7,n8,n9⟩))) jo O (N6 ct) h.g.ZG (λy h1 h2=>pw y (.inl (by omega)))
 refine⟨_,rfl,rfl,txt1,(aJ.own ao (λj e=>by rw[e];exact⟨h.xr.1,n2,n3,n4,n5⟩)).own ax (λj e=>by rw[e];exact⟨h.xr.1,n2,n3,n4,n5⟩),aq,pw,?_⟩
 exact((aN.Lv λb e=>e.elim (λe=> .inl λe2=>e (.inl e2)) (λe=> .inr (.inr e))).trans (ao.Lv λb e=> .inr (.inl e))).trans (ax.Lv λb e=> .inr (.inl e))
theorem XS (h:Oq G Q txt K X w)(hK:K<=700000000000)(pZ:G.g.length<=40){a:Nat}(hp:Pre Q.L a)(ct:a+1<=Q.L.length)(JR:G.st+G.len<=a):LP Tryz.prog 8 [ptr Q.s 0,ptr G.k 0] w λv w'=>∃rr vb txt',v= .tuple #[ptr rr 0,I 0]/\w.heap.size<=rr/\w.heap.size<=vb/\OZ RW G (Q.MD (MZ Q.L a 1 true)) txt' (K+50) (λb=>X b\/b=rr\/b=vb) rr vb a (PL.new G.g) w'/\(∀y:Int,y<(a:Int)\/(a:Int)+1<=y->txt' y=txt y)/\Kp (λb=>¬X b) w w':=by
 have q9:=h.ok.gr
 have tB:RJ G.g.length 128=1:=by
  unfold RJ;omega
 have dN:(MZ Q.L a 1 true).length=Q.L.length:=N6 ct
 have Gd:=z3N h.sp h.lt1 (by omega) hp G.g.length 4 (by omega) (by omega) (by rw[show 512 / 4=128 from rfl,tB];exact ct)
 rw[show 512 / 4=128 from rfl,tB] at Gd
 refine Lb (e:=[(0,_),(1,_)]) Tryz.func8 O Tryz.ntmps8 O O$ qN O$ Lw O$ Lk O$ run_seq$ qN O$ Le O$ qV (Ml SJ O O)$ Lu O O$ qV (Ml Zl O O)$ M8 O O$ Lf$ An O$ py ?_
 refine qN O$ Lu O O$ LD za1 O (YO h) ?_
 rintro _ w ⟨rfl,rfl⟩
 refine LD zeW O (Gd) ?_
 rintro _ w1 ⟨vb,txt1,rfl,ew,jo,fj,pw,aN⟩
 have z1:=aN.size
 have lv:=fj.lt
 have bY:∀j,X j->(X j\/j=vb):=λj hj=> .inl hj
 have aJ:Oq G (Q.MD (MZ Q.L a 1 true)) txt1 (K+1) (λb=>X b\/b=vb) w1:=h.zdV aN (λb e=>e) bY (λj hj=>hj.imp id λe=>by omega) (jo.less λb e=>by rcases e with(e|e)|e;exact .inl (.inl e);exact .inr e;exact .inl (.inr e)) O dN (by omega) (λy h1 h2=>pw y (.inl (by omega)))
 have gR:(List.replicate G.g.length 0).length=G.g.length:=List.length_replicate
 refine Le O$ Mp O O$ Mp O O$ Lw O$ Lk O$ run_seq$ qN O$ Le O$ Mu O O$ Lf$ An O$ py$ run_seq$ qN O ?_
 refine Le O$ LD za1 O (YO aJ) ?_
 rintro _ w1 ⟨rfl,rfl⟩
 refine Le O$ Lf$ Lc$ Nj (α:=Nat×List Nat) ((0,List.replicate G.g.length 0)) (λy=>[(1,ptr G.k 0),(6,ptr vb 0),(28,I (G.g.length:Int)),(29,I (y.1:Int))]) (λy w'=>y.1<=G.g.length/\y.2.length=G.g.length/\(∀j,j<y.1->y.2[j]? =some (Lo G.g j).length)/\(∃txt',Oq G (Q.MD (MZ Q.L a 1 true)) txt' (K+1+y.1) (λb=>X b\/b=vb) w'/\Ts (Q.MD (MZ Q.L a 1 true)) txt' vb 4 a y.2 w'/\∀y:Int,y<(a:Int)\/(a:Int)+1<=y->txt' y=txt y)/\Kp (λb=>¬X b) w w'/\w1.heap.size<=w'.heap.size) (λy=>G.g.length-y.1) ?hI ?hround
 case hI=>exact⟨Nat.zero_le _,gR,λj hj=>absurd hj (Nat.not_lt_zero _),⟨txt1,aJ,fj,pw⟩,aN.Lv λb e e2=>e (.inl e2),Nat.le_refl _⟩
 case hround=>
  rintro⟨i,ys⟩ w2 ⟨hi,qf,yN,⟨txt2,aa,jf,ni⟩,ao,m8⟩ ih;dsimp only at hi qf yN aa jf ih⊢
  try dsimp only
  refine qN O$ Mw O O$ Lf$ run_seq$ Lp O (λhq=>?_)$ λhq=>?_
  ·have aT:i<G.g.length:=by omega
   have fm:(Lo G.g i).length<=G.g.length:=by
    unfold Lo;rw[List.getElem?_eq_getElem aT];exact q9.len (List.getElem_mem aT)
   refine py$ run_seq$ Lc$ qN O$ Le O$ Lw O$ qM O$ Lu O O$ LD zfG O (z4C aa aT) ?_;rintro _ w3 ⟨rfl,ae,ax⟩;have tN:=jf.kp ax (λe=>e (.inr O));have gx:=UM ae.sp ae.lt1 ae.ZG tN (.inl (.inr O)) (i:=i) (x:=(Lo G.g i).length) (by rw[qf];exact aT) (by omega);refine Le O$ Mp O O$ Mp O O$ Lw O$ Lk O$ run_seq$ qN O$ Le O$ Nb O O$ Lf$ Lr O$ Li O$ Lu O O$ Le O ?_;refine qV ((by first|exact Mc O U3 MP (by omega)|exact Ny O U3 MP)) ?_;refine LD zar O (gx) ?_;rintro _ w4 ⟨rfl,txt4,jG,qg,qc,av⟩;rw[List.length_set,qf,show 512 / 4=128 from rfl,tB] at qc;have af:Oq G (Q.MD (MZ Q.L a 1 true)) txt4 (K+1+i+1) (λb=>X b\/b=vb) w4:=ae.Xk av (λb e=> .inl e) jG O O (by omega) (λy h1 h2=>qc y (.inl (by omega)));refine Lw O$ qM O$ Le O$ Mu O O$ Lf$ An O$ py$ Ld$ Li O$ Mb O O$ Le O$ Lf ?_;have z3:=ax.size;have z4:=av.size;refine(ih (i+1,ys.set i (Lo G.g i).length) _ ⟨by omega,by show(ys.set i _).length=_;rw[List.length_set];exact qf,λj hj=>?_,⟨txt4,af,qg,λy hy=>by rw[qc y hy];exact ni y hy⟩,(ao.trans (ax.Lv λb e e2=>e (.inl e2))).trans (av.Lv λb e e2=>e (.inl (.inl e2))),by omega⟩ (by omega)).qb;show(ys.set i _)[j]? =_;by_cases e:i=j
   ·subst e;rw[List.getElem?_set_self (by omega)]
   ·rw[List.getElem?_set_ne e];have hj:j<i+1:=hj;exact yN j (by omega)
  ·have aT:i=G.g.length:=by omega
   subst aT
   have JS:ys=G.g.map List.length:=by
    apply List.ext_getElem?;intro j;by_cases hj:j<G.g.length
    ·rw[yN j hj,List.getElem?_map,List.getElem?_eq_getElem hj];unfold Lo;rw[List.getElem?_eq_getElem hj];rfl
    ·rw[List.getElem?_eq_none (by omega),List.getElem?_eq_none (by rw[List.length_map];omega)]
   subst JS;have lt2:=aa.lt;have lv2:=lt2 vb (.inr O);refine Ln O$ qN O$ Lu O O$ qV (O6 (cs:=[_,_,_,_,_,_]) zes O zfr O O)$ Lm O O (Nc O (cs:=[I 0,I 0,.bool false,ptr G.k 0,ptr vb 0,.bool false]) O) ?_;rintro _ w4 ⟨rr,rfl,ly,ay,aF⟩;refine Lw O$ Lk O$ Lh Tryz.func8 O ?_;have lr:=aF.lt;have af:=aa.grow ay (Y:=λb=>X b\/b=rr\/b=vb) (λj hj=>by rcases hj with e|e|e;exact .inl (.inl e);exact .inr (by omega);exact .inl (.inr e)) (λj hj=>hj.elim .inl λe=> .inr (.inr e));have aV:=h.lt;have b1:=aV _ h.xk.1;have b2:=aV _ h.xk.2.1;have b3:=aV _ h.xk.2.2.1;have b4:=aV _ h.xk.2.2.2;refine⟨_,rfl,rr,vb,txt2,rfl,by omega,ew,⟨af.more (by omega) (by omega),aF,jf.ext ay,⟨.inr (.inl O),.inr (.inr O)⟩,⟨by omega,by omega,by omega,by omega,by omega,by omega,by omega,by omega,by omega⟩,JR,qf,pZ⟩,ni,ao.trans ay.kp⟩
end
def QT (s:PL)(v:Nat):Nat:=(s.xs[v]?).getD 0%2147483648
theorem z8r {s:PL}{v:Nat}(hd:s.done=true)(hv:v<s.xs.length):ZT s (v:Int)= .tuple #[Ly (QT s v),I 0]:=by
 unfold ZT QT
 rw[if_neg (by rw[hd];decide),if_neg (by omega),show((v:Int)).toNat=v by omega]
section
variable {w0 w w' w3:World}{g:List (List Nat)}{r1 r2:Nat}{s1 s2:PL}
end
abbrev g5:List (List Nat):=[[1,2],[0,2],[0,1,3],[2],[]]
theorem zd9:Nu g5:=⟨λl hl=>by
 simp only[List.mem_cons,List.not_mem_nil,or_false] at hl
 rcases hl with rfl|rfl|rfl|rfl|rfl<;>exact⟨by decide,by decide⟩,by decide,by decide⟩
def crN (g:List (List Nat)):Nat->PL
 |0=> .new g
 |i+1=>(crN g i).step g
theorem z5K:∀i,i<5->(crN g5 i).done=false/\(crN g5 i).level<=100000/\(crN g5 i).t<=100000:=by decide
theorem zeg:ZT (crN g5 5) 0= .tuple #[Ly 2,I 0]:=by kernel_rfl
theorem zbh:ZT (crN g5 5) 3= .tuple #[Ly 1,I 0]:=by kernel_rfl
theorem zdG:(crN g5 5).t=5/\(crN g5 5).done=true:=by decide
theorem ZQ {w:World}(hG:Lq w 0 (Og .gamma) 260)(hU:Lq w 1 (Og .unary) 260):LP Tryz.prog 15 [] w λv w'=>v= .bool true/\Ext w w':=by
 refine Lb (e:=[]) Tryz.func15 O Tryz.ntmps15 O O$ qN O$ Lw O$ qM O$ Lm O O (RN (cs:=[_,_]) (zs:=[Value.int .u32 0,Value.int .u32 0]) LI Lz O (by kernel_rfl) O O O (by decide)) ?_
 rintro _ w1 ⟨b1,rfl,⟨bR,ad,ai⟩,iE⟩
 refine Lm O O (RN (cs:=[_,_]) (zs:=[Value.int .u32 0,Value.int .u32 0]) LI Lz O (by kernel_rfl) O O O (by decide)) ?_
 rintro _ w2 ⟨b2,rfl,⟨c6,ag,am⟩,cG⟩
 refine Lm O O (RN (cs:=[_,_,_]) (zs:=[Value.int .u32 0,Value.int .u32 0,Value.int .u32 0]) LI Lz O (by kernel_rfl) O O O (by decide)) ?_
 rintro _ w3 ⟨b3,rfl,⟨eB,ah,aq⟩,cC⟩
 refine Lm O O (RN (cs:=[_]) (zs:=[Value.int .u32 0]) LI Lz O (by kernel_rfl) O O O (by decide)) ?_
 rintro _ w4 ⟨b4,rfl,⟨gn,ay,aF⟩,dT⟩
 refine Lm O O (RN (cs:=[_,_,_,_,_]) (zs:=[Value.slice none 0 0,Value.slice none 0 0,Value.slice none 0 0,Value.slice none 0 0,Value.slice none 0 0]) Qq O2 O (by kernel_rfl) O O O (by decide)) ?_
 rintro _ w4' ⟨b4',rfl,⟨JT,nW,er⟩,El⟩
 have kL:GrM w4' (.slice (some ⟨b4',0,none⟩) 5 5) g5:=by
  refine⟨⟨_,El.rd,λi l hl=>?_⟩⟩
  match i,hl with
  | 0, hl =>
    cases hl
    exact⟨_,_,rfl,Nat.le_refl _,(((iE.rd.ext ag).ext ah).ext ay).ext nW⟩
  | 1, hl =>
    cases hl
    exact⟨_,_,rfl,Nat.le_refl _,((cG.rd.ext ah).ext ay).ext nW⟩
  | 2, hl =>
    cases hl
    exact⟨_,_,rfl,Nat.le_refl _,(cC.rd.ext ay).ext nW⟩
  | 3, hl =>
    cases hl
    exact⟨_,_,rfl,Nat.le_refl _,dT.rd.ext nW⟩
  | 4, hl =>
    cases hl
    exact⟨none,0,rfl,Nat.le_refl _,⟨rfl,.inl ⟨(none,0),rfl,rfl⟩⟩⟩
  |i+5,hl=>cases hl
 have cR:=(((ad.trans ag).trans ah).trans ay).trans nW
 have z4:=cR.size
 refine LD cf7 O (z3b (g:=g5) zd9 (by decide) (by decide) kL (cR.Lg hG) (cR.Lg hU) 2 0 (by decide) (by decide)) ?_
 rintro _ w5 ⟨W,XX,rfl,hW,aX,fi⟩
 have bK:=cR.trans aX
 have z5:=bK.size
 refine Le O$ Mp O O$ Mp O O$ Lm O O (NJ (cs:=[_,_,_,_,_]) Zd O) ?_
 rintro _ w6 ⟨b6,rfl,m7,aK,aR⟩
 have z6:=aK.size
 refine Ls O (M7 (news:=W.v) Zd O O O O aR (by simp)) ?_
 rintro w7 ⟨bJ,aC⟩
 have fF:Lq w7 b6 [ptr W.d 0,ptr W.Q.s 0,ptr W.G.k 0,ptr W.T.k 0,I ((200-W.a:Nat):Int)] 31:=bJ
 have l7:=bJ.lt
 have z7:=aC.size
 have ke:=aK.kp.trans aC
 have gK:=hW.hg.lt
 have iz:=hW.hg.xk
 have i1:=gK _ iz.1
 have i2:=gK _ iz.2.1
 have i3:=gK _ iz.2.2.1
 have i4:=gK _ iz.2.2.2
 have tq:Oq W.G W.Q W.txt W.K (λb=>(XX b/\b≠W.G.rb)\/b=b6) w7:=(hW.hg.grow aK (Y:=λb=>(XX b/\b≠W.G.rb)\/b=b6) (λj e=>e.imp id λe=>by have:=aR.lt;omega) (λj e=> .inl e)).own aC λj e=>by subst e;exact⟨.inr O,by omega,by omega,by omega,by omega⟩
 have tC:∀b,b<w.heap.size->(XX b/\b≠W.G.rb)\/b=b6:=λb hb=> .inl ⟨(fi b (by omega)).1,(fi b (by omega)).2.1⟩
 have aj:=hW.gg
 have dS:W.G.g.length=5:=by rw[aj];rfl
 have ha:=hW.a
 have hL:=hW.L
 have JU:=hW.K
 have JV:=hW.gs
 have tF:=hW.ts
 refine Lw O$ qM O$ Lt z1Q O$ qV (Lj SJ O O fF O)$ Lt z5N O$ qV (Lj Zl O O fF O)$ LD cf8 O (XS tq (by omega) (by omega) hW.pre (by omega) (by omega)) ?_
 rintro _ w8 ⟨rr,vb,txt8,rfl,ly,ew,h8,zS,bB⟩
 rw[aj] at h8
 have Em:=bK.trans aK
 have nT:Ext w w8:=(Em.It aC λb e=>by omega).It bB λb e=>by
  rcases Nat.lt_or_ge b w.heap.size with h| h
  ·exact absurd (tC b h) e
  ·exact h
 obtain⟨Y,hY⟩:∃Y:Nat->Prop,(λb=>((XX b/\b≠W.G.rb)\/b=b6)\/b=rr\/b=vb)=Y:=⟨_,rfl⟩
 rw[hY] at h8
 have uk:∀b,b<w.heap.size->Y b/\b≠rr:=λb hb=>⟨by rw[<-hY];exact .inl (tC b hb),by omega⟩
 obtain⟨Q,hQ⟩:∃Q,W.Q.MD (MZ W.Q.L W.a 1 true)=Q:=⟨_,rfl⟩
 rw[hQ] at h8
 refine Le O$ Mp O O$ Mp O O$ Lw O$ Lk O$ run_seq$ qN O$ Le O$ qV ((by first|exact Mh O|exact NL O)) ?_
 rw[show(!true)=false from rfl]
 refine Lu O O$ Mu O O$ M8 O O$ Lf$ LS.qb (e:=[(0,_),(3,_),(36,_)]) ?_
 refine An O$ py$ run_seq$ qN O$ Lk O$ Lc$ Nj (α:=Nat) (0) (λi=>[(3,ptr rr 0),(5,I (i:Int))]) (λi w'=>i<=4/\(∃txt K,OZ RW W.G Q txt K Y rr vb W.a (crN g5 i) w'/\K<=1000+3300*i)/\Ext w w') (λi=>4-i) ?hI ?hround
 case hI=>exact⟨Nat.zero_le _,⟨_,_,h8,by omega⟩,nT⟩
 case hround=>
  rintro i w9 ⟨hi,⟨txt9,K9,h9,L9⟩,eI⟩ ih;obtain⟨r1,r2,r3⟩:=z5K i (by omega);have s9:=Wt h9 (by omega) r2 r3 r1;rw[aj] at s9
  change LP _ _ _ _ (λv w'=>v= .tuple #[.bool (crN g5 (i+1)).done,I 0]/\∃txt',OZ RW W.G Q txt' (K9+3200) Y rr vb W.a (crN g5 (i+1)) w'/\_) at s9
  try dsimp only
  refine run_seq$ qN O$ Le O$ Mw O O$ Lf$ Lp O (λhq=>?_)$ λhq=>?_
  ·have lh:i<4:=by omega
   rw[(z5K (i+1) (by omega)).1] at s9;refine py$ run_seq$ Lc$ qN O$ Le O$ LD cf9 O (s9) ?_;rintro _ w10 ⟨rfl,txt10,dj,En,ar⟩;refine Le O$ Mp O O$ Mp O O$ Lw O$ Lw O$ qM O$ Lu O O$ Le O$ Mu O O$ M8 O O$ Lf$ An O$ py$ Ld ?_;refine Li O$ Le O$ Mb O O$ Lk O ((ih (i+1) _ ⟨by omega,⟨_,_,dj,by omega⟩,eI.It ar λb e=>?_⟩ (by omega)).qb);rcases Nat.lt_or_ge b w.heap.size with h| h
   ·exact e.elim (λe=>absurd (uk b h).1 e) (λe=>absurd e (uk b h).2)
   ·exact h
  ·have lh:i=4:=by omega
   subst lh;rw[show(crN g5 (4+1)).done=true from zdG.2] at s9;refine Ln O$ qN O$ Le O$ LD cf9 O (s9) ?_;rintro _ w10 ⟨rfl,txt10,dj,En,ar⟩
   have bC:Ext w w10:=eI.It ar λb e=>by
    rcases Nat.lt_or_ge b w.heap.size with h| h
    ·exact e.elim (λe=>absurd (uk b h).1 e) (λe=>absurd e (uk b h).2)
    ·exact h
   have oC:=Va dj 0;rw[show crN g5 (4+1)=crN g5 5 from rfl,zeg] at oC;refine Le O$ Mp O O$ Mp O O$ Lw O$ Lw O$ qM O$ Le O$ LD zaB O (oC) ?_;rintro _ w11 ⟨rfl,ko,bA⟩
   have aQ:Ext w w11:=bC.It bA λb e=>by
    rcases Nat.lt_or_ge b w.heap.size with h| h
    ·exact absurd (.inl (uk b h).1) e
    ·exact h
   have tN:=Va ko 3;rw[zbh] at tN;refine Le O$ Mp O O$ Mp O O$ Lw O$ Lw O$ qM O$ Le O$ LD zaB O (tN) ?_;rintro _ w12 ⟨rfl,sd,aS⟩
   have aA:Ext w w12:=aQ.It aS λb e=>by
    rcases Nat.lt_or_ge b w.heap.size with h| h
    ·exact absurd (.inl (uk b h).1) e
    ·exact h
   have eL:=ZC sd;rw[zdG.1] at eL;refine Le O$ Mp O O$ Mp O O$ Lw O$ Lk O$ LS.qb (e:=[(3,_),(8,_),(9,_),(10,_),(11,_),(12,_),(13,_)]) ?_;refine qN O$ Lu O O$ Le O$ Nb O O$ MU O O$ Lu O O$ Nb O O$ MU O O$ Lu O O$ Nb O O$ MU O O$ Lu O O$ Nb O O$ Ns ?_;refine MU O O$ Lu O O$ Nb O O$ Ns$ MU O O$ Lu O O$ LD zeL O (eL) ?_;rintro _ w12 ⟨rfl,rfl⟩;refine Nb O O$ Ns$ MU O O$ Lk O$ LS.qb (e:=[(0,_)]) ?_;refine Lh Tryz.func15 O ?_;exact⟨_,rfl,rfl,aA⟩
end Go.Proofs.YtfgjaafcgghnoaaGreatDoor
