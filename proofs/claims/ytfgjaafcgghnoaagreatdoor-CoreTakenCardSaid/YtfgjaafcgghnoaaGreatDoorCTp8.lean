/- Merged by program. -/
import Derived.Test.YtfgjaafcgghnoaaGreatDoorCTp7
set_option linter.all false
set_option maxRecDepth 1000000
set_option maxHeartbeats 16000000
namespace Go.Proofs.YtfgjaafcgghnoaaGreatDoor
open Go Go.RowKit
section
variable {w w':World}{Q:Ol}{txt:Int->Bytes}{K:Nat}{X:Nat->Prop}{vb width st each n:Nat}{xs:List Nat}
theorem Wv (hP:Sp Q txt K X w)(hX:∀b,X b->b<w.heap.size)(hK:K<=900000000000)(hv:Sn Q txt vb width st xs w)(dh:X vb){f:Nat}(oR:CF Tryz.prog f)(caps:List Value)(LY:Nat->Bytes)(aA:∀b,(LY b).length<=512)
  (hf:∀(b:Nat) (w1:World),b<R8 xs.length (512 / width)->Kp (λb=>¬X b) w w1->Mw Tryz.prog f ([I (b:Int)]++caps) w1 λv w2=>v=S (LY b)/\Ext w1 w2):
  Mw Tryz.prog 80 [ptr vb 0,.func (.func f) #[] caps.toArray] w λv w'=>v=I 0/\∃txt',Sp Q txt' (K+R8 xs.length (512 / width)) X w'/\Kp (λb=>¬X b) w w'/\(∀b,b<R8 xs.length (512 / width)->txt' ((st+b:Nat):Int)=LY b++zeros (512-(LY b).length))/\(∀y:Int,y<(st:Int)\/(st:Int)+(R8 xs.length (512 / width):Int)<=y->txt' y=txt y):=by
 have eH:maxLen=9223372036854775807:=rfl
 have dT:=hP.n
 have hB:=hv.cells
 have bP:=hv.fit
 have i5:=hv.n
 obtain⟨e1,e2,e3,e4,e5⟩:=hv.e
 have wL:=US xs.length width (512 / width) ⟨by omega,e2⟩ i5 w
 obtain⟨N,hN⟩:∃N,R8 xs.length (512 / width)=N:=⟨_,rfl⟩
 rw[hN] at hB bP wL hf⊢
 refine It (e:=[(0,_),(1,_)]) Tryz.func80 O Tryz.ntmps80 O O$ qN O$ M4 O$ run_seq$ qN O$ LW O$ MC O$ Ma NM O$ qV (Mv z4X O UQ O (M7.cells (n:=3) hB (news:=[_,_,_]) O) O)$ Mn zdx O (wL) ?_
 rintro _ w1 ⟨rfl,ad⟩
 refine LW O$ LX$ LU$ Oh (α:=Nat) (0) (λk=>[(0,ptr vb 0),(1,.func (.func f) #[] caps.toArray),(12,I (N:Int)),(13,I (k:Int))]) (λk w'=>k<=N/\Kp (λb=>¬X b) w w'/\∃txt',Sp Q txt' (K+k) X w'/\(∀b,b<k->txt' ((st+b:Nat):Int)=LY b++zeros (512-(LY b).length))/\(∀y:Int,y<(st:Int)\/(st:Int)+(k:Int)<=y->txt' y=txt y)) (λk=>N-k) ?hI ?hround
 case hI=>exact⟨Nat.zero_le _,ad.kp,txt,hP.ext' ad,λb hb=>by omega,λy _=>rfl⟩
 case hround=>
  rintro k w2 ⟨hk,ao,txt2,eh,Gt,nu⟩ ih;have am:=ao.LY hB (λe=>e dh)
  try dsimp only
  refine qN O$ Ni O O$ LX$ run_seq$ M8 O (λh0=>?_)$ λh0=>?_
  ·have E2:k<N:=by omega
   refine py$ run_seq$ LU$ qN O$ LW O$ Me O$ qM O$ Md O O$ Ny O O (OK oR O O) (hf k w2 E2 ao) ?_;rintro _ w3 ⟨rfl,ai⟩;have ar:=ai.LY am;have fx:=eh.ext' ai;have ae:=Ext.Mm w3;have hl:=aA k;have cC:=ao.trans ai.kp;obtain⟨t,ht⟩:∃t,LY k=t:=⟨_,rfl⟩;rw[ht] at hl⊢;have hz:(zeros (512-t.length)).length=512-t.length:=by simp[zeros]
   have cG:=fx.size;have y8:∀w4,Ext w3 w4->Mw Tryz.prog 56 [ptr Q.s 0] w4 λv w'=>v=I 512/\w'=w4:=λw4 hx=>(fx.ext' hx).size;refine M4 O$ run_seq$ NV (λw'=>Kp (λb=>¬X b) w3 w') O$ Mj 0 O O (ae.kp)$ M3 1 O (N4 O) (ae.kp)$ M3 2 O (My Sc O) (ae.kp)$ qT 3 O (λ_ h=>M1 To O O (h.LY ar (λe=>e dh)) O) (ae.kp)$ Mj 4 O O (ae.kp)$ M3 5 O (N4 O) (ae.kp)$ M3 6 O (My Uu O) (ae.kp)$ M3 7 O (My NK O) (ae.kp)$ qT 8 O (λ_ h=>M1 U3 O O (h.LY ar (λe=>e dh)) O) (ae.kp)$ Mj 9 O O (ae.kp)$ M3 10 O (R4 O O (by omega)) (ae.kp) ?_;refine Mj 11 O O (ae.kp)$ Mj 12 O O (ae.kp)$ M3 13 O (N4 O) (ae.kp)$ M3 14 O (My Sc O) (ae.kp)$ qT 15 O (λ_ h=>M1 To O O (h.LY ar (λe=>e dh)) O) (ae.kp)$ Mj 17 O O (ae.kp)$ M3 18 O (Rr U9 O) (ae.kp)$ Pm 16 O z0Y O (y8 _ ae) ?_;rintro _ w4 ⟨rfl,rfl⟩;refine⟨ae.kp,?_⟩;refine M3 19 O (TO O O (by omega)) (ae.kp) ?_;rw[show(512:Int)-(t.length:Int)=((512-t.length:Nat):Int) by omega];refine qO 20$ ON (i:=20) O O O (pmk (c:=512-t.length) (n:=512-t.length) Nc TS O O O (by omega) (by omega) (by omega)) ?_;rintro _ w4 ⟨b4,rfl,⟨f9,ay,aH⟩,-⟩;refine⟨ae.kp.trans ay.kp,?_⟩;have cx:=ae.trans ay;refine qO 21$ zdN (i:=21) O O O (z2u (l:=zeros (512-t.length)) Nc U5 U9 O aH (Wk _) hz) (cx.kp)$ M3 22 O (Sz O O (by rw[hz];omega)) (cx.kp) ?_;have oH:(t++zeros (512-t.length)).length=512:=by rw[List.length_append,hz];omega
   rw[show(st:Int)+(k:Int)=((st+k:Nat):Int) by omega];refine Pm 23 O zbt O ((fx.ext' cx).write (λb hb=>by have:=hX b hb;have:=cC.size;have:=cx.size;omega) (by omega) (no:=((st+k:Nat):Int)) (by omega) (by omega) _ oH) ?_;rintro _ w5 ⟨rfl,gA,ak⟩;refine⟨cx.kp.trans ak,?_⟩;have jf:Kp (λb=>¬X b) w3 w5:=cx.kp.trans ak;refine M3 24 O (NX O) (cx.kp.trans ak)$ qE$ qN O$ LW O$ N9 O O$ LX$ An O$ py$ LV$ M0 O$ MT O O$ LW O$ LX ((ih (k+1) w5 ⟨by omega,cC.trans jf,_,gA,λb hb=>?_,λy hy=>?_⟩ (by omega)).qb)
   ·by_cases e:b=k
    ·subst e;rw[OI,ht];rfl
    ·rw[Od _ _ (by omega)];exact Gt b (by omega)
   ·rw[Od _ _ (by omega)];exact nu y (by omega)
  ·have E2:k=N:=by omega
   subst E2;refine M6 O$ qN O$ M4 O$ LZ Tryz.func80 O ?_;exact⟨_,rfl,rfl,txt2,eh,ao,Gt,nu⟩
theorem z0d (l:Bytes):∀n,((List.replicate n l).flatten).length=n*l.length
 |0=>by simp
 |n+1=>by rw[List.replicate_succ,List.flatten_cons,List.length_append,z0d l n,Nat.add_mul];omega
theorem z0U {bf:Nat}{s:Bytes}(b:Nat)(hB:M7 w bf [S s] 9):Mw Tryz.prog 102 ([I (b:Int)]++[ptr bf 0]) w λv w2=>v=S s/\Ext w w2:=by
 show Mw _ _ [I (b:Int),ptr bf 0] _ _
 refine It (e:=[(0,_),(1,_)]) Tryz.func102 O Tryz.ntmps102 O O$ qN O$ Me O$ qM O$ qV (M1 U9 O O hB O)$ M4 O$ LZ Tryz.func102 O ?_
 exact⟨_,rfl,rfl,Ext.refl _⟩
theorem z2y (hP:Sp Q txt K X w)(hX:∀b,X b->b<w.heap.size)(hK:K<=900000000000)(hv:Sn Q txt vb width st xs w)(dh:X vb){x:Nat}(hx:x<2^(8*width)):
  Mw Tryz.prog 64 [ptr vb 0,Mh x] w λv w'=>v=I 0/\VcW Q txt (K+R8 xs.length (512 / width)) X vb width st (List.replicate xs.length x) w w':=by
 have hB:=hv.cells
 have i5:=hv.n
 obtain⟨e1,e2,e3,e4,e5⟩:=hv.e
 have mb:x<18446744073709551616:=by
  have:=Nat.pow_le_pow_right (show 0<2 by decide) (show 8*width<=64 by omega);omega
 have fj:=Mu width x
 have lK:(List.replicate (512 / width) (Q4 width x)).flatten.length=512:=by
  rw[z0d,fj];exact e3
 refine It (e:=[(0,_),(1,_)]) Tryz.func64 O Tryz.ntmps64 O O$ qN O$ M4 O$ run_seq$ qN O$ LW O$ Mn z2m O (OS hv) ?_
 rintro _ w ⟨rfl,rfl⟩
 refine Me O$ qM O$ LW O$ N9 O O$ LX$ An O$ py$ run_seq$ qN O$ LW O$ MC O$ Ma NM O$ qV (Mv z4X O UQ O (M7.cells (n:=3) hB (news:=[_,_,_]) O) O)$ LW O ?_
 refine Mn zeT O (Xa xs.length width (512 / width) x hv.wd hx w) ?_
 rintro _ w1 ⟨rfl,ad⟩
 have aj:=ad.LY hB
 have aw:=Ext.Mm w1
 refine qV ((by first|exact MX O|exact Oy O)) ?_
 refine LX$ An O$ py$ run_seq$ MM (λe' w'=>∃bf,e'=[(0,ptr vb 0),(6,ptr bf 0)]/\M7 w' bf [S (List.replicate (512 / width) (Q4 width x)).flatten] 9/\Ext w1 w'/\w1.heap.size<=bf) ?cA$ λcA=>?cS
 case cA=>
  rintro e' w2 ⟨bf,rfl,da,af,E3⟩;have aG:=ad.trans af;have mh:=ad.size;have eh:Sp Q txt K (λb=>X b\/b=bf) w2:=hP.ext aG (λb e=>e.imp id λe=>by omega);have lbf:=da.lt;have hw:=Wv eh (λb hb=>by rcases hb with e|e;(have:=hX b e;have:=aG.size;omega);omega) hK (hv.ext aG) (.inl dh) zep [ptr bf 0] (λ_=>(List.replicate (512 / width) (Q4 width x)).flatten) (λ_=>by rw[lK];omega) (λb w3 _ au=>z0U b (au.LY da (λe=>e (.inr O))));refine qN O$ LW O$ qV (Zm (first:=[]) (caps:=[.tmp 6]) O O)$ Mn zev O (hw) ?_;rintro _ w3 ⟨rfl,txt3,fx,au,pC,E4⟩;refine M4 O$ LZ Tryz.func64 O ?_;have df:Kp (λb=>¬X b) w1 w3:=af.kp.trans (au.Mc λb e e2=>e (.inl e2));have gz:(List.replicate xs.length x).length=xs.length:=List.length_replicate;refine⟨_,rfl,rfl,txt3,fx.less (λb e=> .inl e),⟨?_,hv.wd,VcT.fill hx (by omega) (λi hi=>?_),by rw[gz];exact i5,by rw[gz];exact hv.fit⟩,λy hy=>E4 y (by rw[gz] at hy;exact hy),ad.kp.trans df⟩
  ·rw[gz];exact(ad.kp.trans df).LY hB (λe=>e dh)
  ·have q9:=Vt (each:=512 / width) (by omega) hi;exact⟨_,pC _ q9⟩
 case cS=>
  have ah:=aw;have bc:=ah.size;refine Mo [13] (λw'=>Ext w1 w') (by kernel_rfl) O$ qL [1,2,3,5,11,13] 0 O (λ_ h=>MH O) ah$ qL [2,3,5,11,13] 1 O (λ_ h=>N4 O) ah$ qL [3,5,11,13] 2 O (λ_ h=>My NM O) ah$ qL [5,11,13] 3 O (λ_ h=>Mv z4X O UQ O (M7.cells (n:=3) (h.LY aj) (news:=[_,_,_]) O) O) ah$ qL [5,11,13] 4 O (λ_ h=>MH O) ah$ qL [7,8,9,10,11,13] 6 O (λ_ h=>MH O) ah$ qL [8,9,10,11,13] 7 O (λ_ h=>N4 O) ah$ qL [9,10,11,13] 8 O (λ_ h=>My NM O) ah$ qL [10,11,13] 9 O (λ_ h=>My Sg O) ah$ qL [11,13] 10 O (λ_ h=>M1 U3 O O (h.LY aj) O) ah$ T5 (i:=5) (j:=12) (by kernel_rfl) ?_ ?_
  ·refine Og (i:=5) O O O (yc zbs O) (Ub _ _ _ x e5 mb _) ?_;rintro _ w5 ⟨rfl,aW⟩;refine⟨ah.trans aW,?_⟩;have ah:=ah.trans aW
   try have bB:=aW.LY bB
   have bc:=Nat.le_trans bc aW.size;refine T5 (i:=11) (j:=12) (by kernel_rfl) ?_ ?_
   ·refine Og (i:=11) O O O (yc z7G O) (VU (Q4 width x) (512 / width) (by omega) (by omega) _) ?_;rintro _ w11 ⟨rfl,aQ⟩;refine⟨ah.trans aQ,?_⟩;have ah:=ah.trans aQ
    try have bB:=aQ.LY bB
    have bc:=Nat.le_trans bc aQ.size;refine NL (i:=12) (by kernel_rfl)$ N8 (i:=12) O O O (Oo (cs:=[_]) Z0 O) ?_;rintro _ w12 ⟨bf,rfl,E3,aF,bB⟩;refine⟨ah.trans aF,?_⟩;have ah:=ah.trans aF;have nR:w1.heap.size<=bf:=by omega
    have bc:=Nat.le_trans bc aF.size;refine PH [13]$ qO 13$ MI (i:=13) O O (NT Z0 O O O bB (by simp)) ?_;rintro w13 ⟨eD,df⟩;refine⟨trivial,?_⟩;refine qE$ Mz.qb (e:=[(0,_),(4,_),(6,_)]) ?_;exact(cA _ _ ⟨bf,rfl,eD,ah.LS df (λj e=>by omega),nR⟩).qb
   ·refine N8 (i:=12) O O O (Oo (cs:=[_]) Z0 O) ?_;rintro _ w12 ⟨bf,rfl,E3,aF,bB⟩;refine⟨ah.trans aF,?_⟩;have ah:=ah.trans aF;have nR:w1.heap.size<=bf:=by omega
    have bc:=Nat.le_trans bc aF.size;refine NL (i:=11) (by kernel_rfl)$ Og (i:=11) O O O (yc z7G O) (VU (Q4 width x) (512 / width) (by omega) (by omega) _) ?_;rintro _ w11 ⟨rfl,aQ⟩;refine⟨ah.trans aQ,?_⟩;have ah:=ah.trans aQ
    try have bB:=aQ.LY bB
    have bc:=Nat.le_trans bc aQ.size;refine PH [13]$ qO 13$ MI (i:=13) O O (NT Z0 O O O bB (by simp)) ?_;rintro w13 ⟨eD,df⟩;refine⟨trivial,?_⟩;refine qE$ Mz.qb (e:=[(0,_),(4,_),(6,_)]) ?_;exact(cA _ _ ⟨bf,rfl,eD,ah.LS df (λj e=>by omega),nR⟩).qb
  ·refine N8 (i:=12) O O O (Oo (cs:=[_]) Z0 O) ?_;rintro _ w12 ⟨bf,rfl,E3,aF,bB⟩;refine⟨ah.trans aF,?_⟩;have ah:=ah.trans aF;have nR:w1.heap.size<=bf:=by omega
   have bc:=Nat.le_trans bc aF.size;refine NL (i:=5) (by kernel_rfl)$ Og (i:=5) O O O (yc zbs O) (Ub _ _ _ x e5 mb _) ?_;rintro _ w5 ⟨rfl,aW⟩;refine⟨ah.trans aW,?_⟩;have ah:=ah.trans aW
   try have bB:=aW.LY bB
   have bc:=Nat.le_trans bc aW.size;refine NL (i:=11) (by kernel_rfl)$ Og (i:=11) O O O (yc z7G O) (VU (Q4 width x) (512 / width) (by omega) (by omega) _) ?_;rintro _ w11 ⟨rfl,aQ⟩;refine⟨ah.trans aQ,?_⟩;have ah:=ah.trans aQ
   try have bB:=aQ.LY bB
   have bc:=Nat.le_trans bc aQ.size;refine PH [13]$ qO 13$ MI (i:=13) O O (NT Z0 O O O bB (by simp)) ?_;rintro w13 ⟨eD,df⟩;refine⟨trivial,?_⟩;refine qE$ Mz.qb (e:=[(0,_),(4,_),(6,_)]) ?_;exact(cA _ _ ⟨bf,rfl,eD,ah.LS df (λj e=>by omega),nR⟩).qb
end
theorem zbN (s:Bytes){a c:Nat}(h:a<=c):(s.drop (min a s.length)).take (min c s.length-min a s.length)=(s.drop a).take (c-a):=by
 by_cases ha:a<=s.length
 ·rw[Nat.min_eq_left ha];by_cases hc:c<=s.length
  ·rw[Nat.min_eq_left hc]
  ·rw[Nat.min_eq_right (by omega),List.take_of_length_le (by rw[List.length_drop];omega),List.take_of_length_le (by rw[List.length_drop];omega)]
 ·rw[Nat.min_eq_right (show s.length<=a by omega),Nat.min_eq_right (show s.length<=c by omega),Nat.sub_self,List.take_zero,List.drop_of_length_le (show s.length<=a by omega),List.take_nil]
section
variable {w w':World}{Q:Ol}{txt:Int->Bytes}{K:Nat}{X:Nat->Prop}{vb width st each n:Nat}{xs:List Nat}
theorem z1v {bt ba:Nat}{s:Bytes}(b:Nat)(hb:b<=1000000)(hs:s.length<=100000000)(hT:M7 w bt [S s] 9)(hA:M7 w ba [I 512] 3):Mw Tryz.prog 81 ([I (b:Int)]++[ptr bt 0,ptr ba 0]) w λv w2=>v=S ((s.drop (b*512)).take 512)/\Ext w w2:=by
 show Mw _ _ [I (b:Int),ptr bt 0,ptr ba 0] _ _
 have h:=zbN s (a:=b*512) (c:=(b+1)*512) (by omega)
 rw[show(b+1)*512-b*512=512 by omega] at h
 refine It (e:=[(0,_),(1,_),(2,_)]) Tryz.func81 O Tryz.ntmps81 O O$ qN O$ Me O$ qM O$ qV ((by first|exact M1 U9 O O hT O|exact M1 U9 O O hA O)) ?_
 refine LW O$ qV ((by first|exact M1 U3 O O hT O|exact M1 U3 O O hA O)) ?_
 refine qV (SB O O (by omega))$ qV ((by first|exact M1 U9 O O hT O|exact M1 U9 O O hA O)) ?_
 refine qV (Rr U9 O)$ qV (ymi O O)$ LW O$ MT O O$ qV ((by first|exact M1 U3 O O hT O|exact M1 U3 O O hA O)) ?_
 refine qV (SB O O (by omega))$ qV ((by first|exact M1 U9 O O hT O|exact M1 U9 O O hA O)) ?_
 refine qV (Rr U9 O)$ qV (ymi O O) ?_
 rw[show min ((b:Int)*512) (s.length:Int)=((min (b*512) s.length:Nat):Int) by omega,show min (((b:Int)+1)*512) (s.length:Int)=((min ((b+1)*512) s.length:Nat):Int) by omega]
 refine qV (zbm (m:=min (b*512) s.length) (n:=min ((b+1)*512) s.length) U9 O O O (by omega)) ?_
 rw[h]
 refine M4 O$ LZ Tryz.func81 O ?_
 exact⟨_,rfl,rfl,Ext.refl _⟩
theorem z1V (hP:Sp Q txt K X w)(hX:∀b,X b->b<w.heap.size)(hK:K<=900000000000)(hv:Sn Q txt vb width st xs w)(dh:X vb){s:Bytes}(hs:s.length=xs.length*width):
  Mw Tryz.prog 46 [ptr vb 0,S s] w λv w'=>v=I 0/\VcW Q txt (K+R8 xs.length (512 / width)) X vb width st (Qu width xs.length s) w w':=by
 have dT:=hP.n
 have hB:=hv.cells
 have i5:=hv.n
 have bP:=hv.fit
 obtain⟨e1,e2,e3,e4,e5⟩:=hv.e
 have Gu:s.length<=33554432:=by
  have:xs.length*width<=4194304*8:=Nat.mul_le_mul i5 e5;omega
 have yA:(xs.length:Int)*(width:Int)=((s.length:Nat):Int):=by rw[hs,Int.natCast_mul]
 have gD:((512 / width:Nat):Int)*(width:Int)=512:=by rw[<-Int.natCast_mul,e3];rfl
 refine It (e:=[(0,_),(1,_)]) Tryz.func46 O Tryz.ntmps46 O O$ qN O$ M5 O O (O2 O (cs:=[S s]) O) ?_
 rintro _ w1 ⟨bt,rfl,oH,ad,Ab⟩
 have aj:=ad.LY hB
 have aw:=Ext.Mm w1
 refine M4 O$ run_seq$ qN O$ LW O$ Mn z2m O (OS (hv.ext ad)) ?_
 rintro _ w1 ⟨rfl,rfl⟩
 refine Me O$ qM O$ LW O$ N9 O O$ LX$ An O$ py$ run_seq$ run_seq$ NV (λw'=>Ext w1 w') O$ qT 0 O (λ_ h=>(by first|exact M1 U9 O O (h.LY aj) O|exact M1 U9 O O (h.LY Ab) O)) aw ?_
 refine M3 1 O (Rr U9 O) aw$ Mj 2 O O (aw)$ M3 3 O (N4 O) aw$ M3 4 O (My NM O) aw$ M3 5 O (My Tw O) aw$ qT 6 O (λ_ h=>(by first|exact M1 U3 O O (h.LY aj) O|exact M1 U3 O O (h.LY Ab) O)) aw ?_
 refine Mj 7 O O (aw)$ M3 8 O (N4 O) aw$ M3 9 O (My NM O) aw$ M3 10 O (My Qp O) aw$ qT 11 O (λ_ h=>(by first|exact M1 U3 O O (h.LY aj) O|exact M1 U3 O O (h.LY Ab) O)) aw ?_
 refine M3 12 O (SB O O (by rw[yA];omega)) aw ?_
 rw[yA]
 refine M3 13 O (yne O O) aw$ QT$ qE$ An O$ py$ run_seq ?_
 obtain⟨w2,ln⟩:∃w2,w1.drew=w2:=⟨_,rfl⟩
 rw[ln] at aw⊢
 have am:=aw.LY aj
 have aa:=Ext.Mm w2
 refine Mo [12] (λw'=>Ext w2 w') (by kernel_rfl) O$ qL [1,2,3,4,10,12] 0 O (λ_ h=>MH O) aa$ qL [2,3,4,10,12] 1 O (λ_ h=>N4 O) aa$ qL [3,4,10,12] 2 O (λ_ h=>My NM O) aa$ qL [4,10,12] 3 O (λ_ h=>My Sg O) aa$ qL [10,12] 4 O (λ_ h=>M1 U3 O O (h.LY am) O) aa$ qL [6,7,8,9,10,12] 5 O (λ_ h=>MH O) aa$ qL [7,8,9,10,12] 6 O (λ_ h=>N4 O) aa$ qL [8,9,10,12] 7 O (λ_ h=>My NM O) aa$ qL [9,10,12] 8 O (λ_ h=>My Qp O) aa$ qL [10,12] 9 O (λ_ h=>M1 U3 O O (h.LY am) O) aa$ qL [12] 10 O (λ_ h=>SB O O (by rw[gD];omega)) aa ?_
 rw[gD]
 refine NL (i:=11) (by kernel_rfl)$ N8 (i:=11) O O O (Oo (cs:=[_]) MV O) ?_
 rintro _ w3 ⟨ba,rfl,LA,ai,JD⟩
 refine⟨aa.trans ai,?_⟩
 have dC:=aa.trans ai
 refine PH [12]$ qO 12$ MI (i:=12) O O (NT MV O O O JD (by simp)) ?_
 rintro w4 ⟨yB,av⟩
 refine⟨trivial,?_⟩
 have cQ:Ext w2 w4:=dC.LS av (λj e=>by have:=aa.size;omega)
 have bJ:=aw.trans cQ
 have cn:=ad.trans bJ
 have z1:=ad.size
 have z2:=aw.size
 have z3:=aa.size
 have yC:=bJ.LY Ab
 have iX:Sp Q txt K (λb=>X b\/b=bt\/b=ba) w4:=hP.ext cn (λb e=>e.imp id λe=>by omega)
 have lbt:=yC.lt
 have lba:=yB.lt
 have hw:=Wv iX (λb hb=>by rcases hb with e|e|e;(have:=hX b e;have:=cn.size;omega);omega;omega) hK (hv.ext cn) (.inl dh) zfH [ptr bt 0,ptr ba 0] (λb=>(s.drop (b*512)).take 512) (λ_=>by rw[List.length_take];omega) (λb w3 hb au=>z1v b (by omega) (by omega) (au.LY yC (λe=>e (.inr (.inl O)))) (au.LY yB (λe=>e (.inr (.inr O)))))
 refine qE$ Mz.qb (e:=[(0,_),(3,_),(4,_),(6,_)]) ?_
 refine qN O$ LW O$ qV (Zm (first:=[]) (caps:=[.tmp 3,.tmp 6]) O O)$ Mn zev O (hw) ?_
 rintro _ w5 ⟨rfl,txt5,gA,ak,zE,JE⟩
 refine M4 O$ LZ Tryz.func46 O ?_
 have bT:Kp (λb=>¬X b) w w5:=cn.kp.trans (ak.Mc λb e e2=>e (.inl e2))
 have gz:=UF width xs.length s
 refine⟨_,rfl,rfl,txt5,gA.less (λb e=> .inl e),⟨?_,hv.wd,VcT.load hs (by omega) (λi hi=>?_),by rw[gz];exact i5,by rw[gz];exact hv.fit⟩,λy hy=>JE y (by rw[gz] at hy;exact hy),bT⟩
 ·rw[gz];exact bT.LY hB (λe=>e dh)
 ·have q9:=Vt (each:=512 / width) (by omega) hi;rw[e3];exact⟨_,zE _ q9⟩
theorem z1U (hP:Sp Q txt K X w)(hX:∀b,X b->b<w.heap.size)(hK:K<1000000000000)(hv:Sn Q txt vb width st xs w)(dh:X vb):
  Mw Tryz.prog 42 [ptr vb 0] w λv w'=>v= .tuple #[S (T0 width xs),I 0]/\Sp Q txt K X w'/\Kp (λb=>¬X b) w w':=by
 have dT:=hP.n
 have hB:=hv.cells
 have i5:=hv.n
 have bP:=hv.fit
 obtain⟨e1,e2,e3,e4,e5⟩:=hv.e
 have lvb:=hX vb dh
 have tK:=λ(b:Nat)=>hv.t.block (b:=b)
 have oM:=λ(l:List Nat)=>Qz width l
 have hN:∀b,b*(512 / width)<xs.length->b<R8 xs.length (512 / width):=λb hb=>by
  have:=Vt (each:=512 / width) (n:=xs.length) (by omega) hb;rw[Nat.mul_div_cancel _ (by omega)] at this;exact this
 generalize 512 / width=each at*
 refine It (e:=[(0,_)]) Tryz.func42 O Tryz.ntmps42 O O$ qN O$ Me O$ M4 O$ run_seq$ qN O$ LW O$ Mn z2m O (OS hv) ?_
 rintro _ w ⟨rfl,rfl⟩
 refine Me O$ qM O$ LW O$ N9 O O$ LX$ An O$ py$ qN O$ M5 O O (Oo (cs:=[_,_]) za2 O) ?_
 rintro _ w1 ⟨bb,rfl,ui,ad,uB⟩
 have tI:=BdM.new uB
 have aj:=ad.LY hB
 have z1:=ad.size
 refine LX$ run_seq$ qN O$ LW O$ MC O$ Ma NM O$ Ma Tw O$ qV (M1 U3 O O aj O)$ Me O$ M4 O$ LU ?_
 rw[show(xs.length:Int)=((xs.length-0*each:Nat):Int) by rw[Nat.zero_mul];rfl]
 refine Oh (α:=Nat×Value) ((0,Value.slice none 0 0)) (λy=>[(0,ptr vb 0),(5,ptr bb 0),(6,I ((xs.length-y.1*each:Nat):Int)),(7,I (y.1:Int))]) (λy w'=>y.1<=xs.length/\BdM w' bb (T0 width (xs.take (y.1*each))) y.2/\(y.1=0->y.2= .slice none 0 0)/\(0<y.1->0<xs.length)/\(∀g,y.2.ownBlock=some g->w.heap.size<=g)/\Sp Q txt K (λb=>X b\/b=bb\/y.2.ownBlock=some b) w'/\Kp (λb=>¬X b) w w') (λy=>xs.length-y.1*each) ?hI ?hround
 case hI=>
  refine⟨Nat.zero_le _,?_,λ_=>rfl,λe=>absurd e (by decide),λg hg=>(by cases hg),hP.ext ad (λb e=>e.imp id λe=>e.elim (λe=>by omega) (λe=>by cases e)),ad.kp⟩;show BdM w1 bb (T0 width (xs.take (0*each))) (.slice none 0 0);rw[Nat.zero_mul,List.take_zero];exact tI
 case hround=>
  rintro⟨b,v⟩ w2 ⟨eZ,ku,rj,ll,gn,eh,ao⟩ ih;dsimp only at eZ ku rj ll gn eh ih⊢;have am:=ao.LY hB (λe=>e dh);have hg:=Ext.Mm w2;have z2:=ao.size;have lbb:bb<w2.heap.size:=by obtain⟨⟨p,hp,hb⟩,-,-⟩:=ku;exact hb.lt
  have ly:∀b,(X b\/b=bb\/v.ownBlock=some b)->b<w2.heap.size:=λb hb=>by
   rcases hb with e|e| e
   ·have:=hX b e;omega
   ·omega
   ·exact ku.2.1.lt e
  have Id:=oM (xs.take (b*each))
  try dsimp only
  refine run_seq$ qN O$ LW O$ Ng O O$ LX$ M8 O (λh0=>?_)$ λh0=>?_
  ·have E5:b*each<xs.length:=by omega
   have LB:=hN b E5;obtain⟨m,hm⟩:∃m,min (xs.length-b*each) each=m:=⟨_,rfl⟩;have dj:=eh.VM (x:=((st+b:Nat):Int)) (by omega) (by omega);have zY:m*width<=each*width:=Nat.mul_le_mul_right _ (by omega);have jj:=tK b (by rw[dj];omega) m (by omega) (by omega);have dX:=(eh.ext' hg).read (λb hb=>by have:=ly b hb;have:=hg.size;omega) hK (no:=((st+b:Nat):Int)) (by omega) (by omega);obtain⟨t,ht⟩:∃t,txt ((st+b:Nat):Int)=t:=⟨_,rfl⟩;rw[ht] at dj jj dX;refine py$ run_seq$ LU$ run_seq$ NV (λw'=>Kp (λj=>¬(X j\/j=bb\/v.ownBlock=some j)) w2 w') O$ Mj 0 O O (hg.kp)$ M3 1 O (N4 O) (hg.kp)$ M3 2 O (My Sc O) (hg.kp)$ qT 3 O (λ_ hS=>M1 To O O (hS.LY am (λe=>e (.inl dh))) O) (hg.kp)$ Mj 4 O O (hg.kp)$ M3 5 O (N4 O) (hg.kp)$ M3 6 O (My Uu O) (hg.kp)$ M3 7 O (My NK O) (hg.kp)$ qT 8 O (λ_ hS=>M1 U3 O O (hS.LY am (λe=>e (.inl dh))) O) (hg.kp) ?_;refine Mj 9 O O (hg.kp)$ M3 10 O (R4 O O (by omega)) (hg.kp) ?_;rw[show(st:Int)+(b:Int)=((st+b:Nat):Int) by omega];refine Pm 11 O z6U O (dX) ?_;rintro _ w3 ⟨rfl,fx,au⟩;refine⟨hg.kp.trans au,?_⟩;have cR:=hg.kp.trans au;have tJ:=ku.kp cR (λe=>e (.inr (.inl O))) (λg hg e=>e (.inr (.inr hg)));have ar:=cR.LY am (λe=>e (.inl dh));refine Mj 12 O O (hg.kp.trans au)$ M3 13 O (O6 O O) (hg.kp.trans au)$ M3 14 O (O6 O O) (hg.kp.trans au)$ M3 15 O (NX O) (hg.kp.trans au)$ M3 16 O (NX O) (hg.kp.trans au)$ qE$ run_seq$ qN O$ LW O$ N9 O O$ LX$ An O$ py$ qN O ?_;refine Md O O$ MC O$ Ma NM O$ Ma Sg O$ qV (M1 U3 O O ar O)$ qV (ymi O O) ?_;rw[show min ((xs.length-b*each:Nat):Int) (each:Int)=(m:Int) by omega];refine Me O$ qM O$ Md O O$ LW O$ MC O$ Ma NM O$ Ma Qp O$ qV (M1 U3 O O ar O)$ qV (SB O O (by rw[<-Int.natCast_mul];omega)) ?_;rw[<-Int.natCast_mul];refine qV (XN (m:=m*width) U9 O O (by omega)) ?_;rw[jj];have gH:=oM ((xs.drop (b*each)).take m);have E6:((xs.drop (b*each)).take m).length=m:=by rw[List.length_take,List.length_drop];omega
   have E7:(xs.take (b*each)).length*width<=4194304*8:=Nat.mul_le_mul (by rw[List.length_take];omega) e5;rw[E6] at gH;refine Mn zc0 O (z0j tJ (T0 width ((xs.drop (b*each)).take m)) (by omega)) ?_;rintro _ w4 ⟨v4,ql,av,mI⟩;have z3:=cR.size;refine LX$ M0 O$ Md O O$ Oa O O$ M4 O$ LV$ M0 O$ LW O$ MT O O$ M4 O ?_;rw[show((xs.length-b*each:Nat):Int)-(m:Int)=((xs.length-(b+1)*each:Nat):Int) by rw[Nat.add_mul];omega];refine(ih (b+1,v4) _ ⟨?_,?_,λe=>by dsimp only at e;omega,λ_=>by omega,λg hg=>(mI g hg).elim (gn g) (λe=>by omega),?_,?_⟩ ?_).qb
   ·show b+1<=xs.length;have:b*1<=b*each:=Nat.mul_le_mul_left _ (by omega);omega
   ·show BdM w4 bb (T0 width (xs.take ((b+1)*each))) v4
    have e:xs.take ((b+1)*each)=xs.take (b*each)++(xs.drop (b*each)).take m:=by
     rw[Nat.add_mul,Nat.one_mul,List.take_add]
     congr 1
     by_cases hc:xs.length-b*each<=each
     ·rw[List.take_of_length_le (by rw[List.length_drop];omega),List.take_of_length_le (by rw[List.length_drop];omega)]
     ·rw[show m=each by omega]
    rw[e];unfold T0 at ql⊢;rw[List.flatMap_append];exact ql
   ·exact fx.step av (λj e=> .inr e) (λj e=>by
     rcases e with e|e| e
     ·exact .inl (.inl e)
     ·exact .inl (.inr (.inl e))
     ·exact(mI j e).imp (λe=> .inr (.inr e)) id)
   ·refine(ao.trans (cR.Mc λb e e2=>e (.inl e2))).LS av λb e=> .inl ?_;rcases e with e| e
    ·omega
    ·exact gn b e
   ·dsimp only;rw[Nat.add_mul];omega
  ·have gO:xs.take (b*each)=xs:=List.take_of_length_le (by omega);rw[gO] at ku;have JF:=oM xs;have E7:xs.length*width<=4194304*8:=Nat.mul_le_mul i5 e5
   have mE:T0 width xs=[]->v= .slice none 0 0:=λe=>rj (by
    have e1:=congrArg List.length e;rw[JF,List.length_nil] at e1;have e2:xs.length=0:=(Nat.mul_eq_zero.1 e1).resolve_right (by omega)
    omega)
   refine M6 O$ qN O$ Mn zcg O (YW ku mE (by omega)) ?_;rintro _ w3 ⟨rfl,au⟩;refine Me O$ M4 O$ LZ Tryz.func42 O ?_;exact⟨_,rfl,rfl,eh.step au (λb e=> .inr (.inr e)) (λb e=> .inl (.inl e)),ao.LS au (λb e=> .inl (gn b e))⟩
end
section
variable {w w':World}{Q:Ol}{txt:Int->Bytes}{K:Nat}{X:Nat->Prop}{vb width st each n:Nat}{xs:List Nat}
theorem z1w (hP:Sp Q txt K X w)(hX:∀b,X b->b<w.heap.size)(hv:Sn Q txt vb width st xs w)(dh:X vb)(cY:2<=st)(hc:∀i,st<=i->i<st+R8 xs.length (512 / width)->Q.L[i]? =some true):
  Mw Tryz.prog 37 [ptr vb 0] w λv w'=>v=I 0/\∃txt',Sp (Q.Nr (NU Q.L st (R8 xs.length (512 / width)) false)) txt' K X w'/\(∀y:Int,y<(st:Int)\/(st:Int)+(R8 xs.length (512 / width):Int)<=y->txt' y=txt y)/\Kp (λb=>¬X b\/b=vb) w w':=by
 have hB:=hv.cells
 have bP:=hv.fit
 have jb:1<=R8 xs.length (512 / width):=Nat.le_max_left _ _
 have hg:=Ext.Mm w
 have JG:=(hP.ext' hg).zfO (λb hb=>by have:=hX b hb;have:=hg.size;omega) jb cY bP hc
 generalize R8 xs.length (512 / width)=N at*
 refine It (e:=[(0,_)]) Tryz.func37 O Tryz.ntmps37 O O$ qN O$ M4 O$ run_seq$ qN O$ LW O$ Mn z2m O (OS hv) ?_
 rintro _ w ⟨rfl,rfl⟩
 refine Me O$ qM O$ LW O$ N9 O O$ LX$ An O$ py$ run_seq$ run_seq$ NV (λw'=>Kp (λb=>¬X b) w w') O$ Mj 0 O O (hg.kp)$ M3 1 O (N4 O) (hg.kp)$ M3 2 O (My Sc O) (hg.kp)$ qT 3 O (λ_ h=>M1 To O O (h.LY hB (λe=>e dh)) O) (hg.kp) ?_
 refine Mj 4 O O (hg.kp)$ M3 5 O (N4 O) (hg.kp)$ M3 6 O (My Uu O) (hg.kp)$ qT 7 O (λ_ hS=>Mv SO O NO O (M7.cells (n:=2) (hS.LY hB (λe=>e dh)) (news:=[_,_]) O) O) (hg.kp)$ Pm 8 O zfu O (JG) ?_
 rintro _ w1 ⟨rfl,txt1,iN,mK,aK⟩
 refine⟨hg.kp.trans aK,?_⟩
 have iw:=hg.kp.trans aK
 have aj:=iw.LY hB (λe=>e dh)
 refine M3 9 O (NX O) (hg.kp.trans aK)$ qE$ qN O$ LW O$ N9 O O$ LX$ An O$ py$ qN O$ LW O$ MC O$ Ma z4e O$ Mb O (NT Sx O O O aj (by simp)) ?_
 rintro w2 ⟨am,ao⟩
 refine qM O$ M4 O$ LZ Tryz.func37 O ?_
 exact⟨_,rfl,rfl,txt1,iN.own ao (λb e=>by rw[e];exact dh),mK,(iw.Mc λb e=> .inl e).trans (ao.Mc λb e=> .inr e)⟩
theorem VcT.any {txt:Int->Bytes}{st width each n:Nat}(he:1<=each)(hw:each*width<=512)(h:∀i,i<n->(txt ((st+i / each:Nat):Int)).length=512):∃xs:List Nat,xs.length=n/\VcT txt st width each xs:=by
 refine⟨(List.range n).map λi=>valB (Ml (((txt ((st+i / each:Nat):Int)).drop (i%each*width)).take width)),by simp,λi x hx=>?_⟩
 rw[List.getElem?_map] at hx
 by_cases hi:i<n
 ·rw[List.getElem?_range hi] at hx;cases hx;have hl:=h i hi;have hm:(i%each+1)*width<=each*width:=Nat.mul_le_mul_right _ (Nat.mod_lt _ he);rw[Nat.add_mul,Nat.one_mul] at hm
  have aA:(((txt ((st+i / each:Nat):Int)).drop (i%each*width)).take width).length=width:=by
   rw[List.length_take,List.length_drop,hl];omega
  refine⟨?_,?_⟩
  ·have hb:=z4n (((txt ((st+i / each:Nat):Int)).drop (i%each*width)).take width);rw[aA] at hb;exact hb.symm
  ·have h1:=NA (Ml (((txt ((st+i / each:Nat):Int)).drop (i%each*width)).take width));rw[bitsT_length,aA] at h1;exact h1
 ·rw[List.getElem?_eq_none (by simpa using hi)] at hx;cases hx
theorem z5k (hP:Sp Q txt K X w)(hX:∀b,X b->b<w.heap.size)(hK:K<=800000000000){a:Nat}(hp:Pre Q.L a)(n width:Nat)(hn:n<=4194304)(oG:width=1\/width=2\/width=4\/width=8)(bP:a+R8 n (512 / width)<=Q.L.length):
  Mw Tryz.prog 33 [ptr Q.s 0,I (n:Int),I (width:Int)] w λv w'=>∃vb txt',v= .tuple #[ptr vb 0,I 0]/\w.heap.size<=vb/\Sp (Q.Nr (NU Q.L a (R8 n (512 / width)) true)) txt' (K+R8 n (512 / width)) (λb=>X b\/b=vb) w'/\Sn (Q.Nr (NU Q.L a (R8 n (512 / width)) true)) txt' vb width a (List.replicate n 0) w'/\(∀y:Int,y<(a:Int)\/(a:Int)+(R8 n (512 / width):Int)<=y->txt' y=txt y)/\Kp (λb=>¬X b) w w':=by
 have jb:1<=R8 n (512 / width):=Nat.le_max_left _ _
 have dT:=hP.n
 obtain⟨e1,e2,e3,e4,e5⟩:64<=512 / width/\512 / width<=512/\512 / width*width=512/\1<=width/\width<=8:=by
  rcases oG with e|e|e|e<;>subst e<;>decide
 have fd:(NU Q.L a (R8 n (512 / width)) true).length=Q.L.length:=NP bP
 refine It (e:=[(0,_),(1,_),(2,_)]) Tryz.func33 O Tryz.ntmps33 O O$ qN O$ Me O$ M4 O$ run_seq$ LU$ qN O$ LW O$ qV (N7 To O O)$ M4 O$ An O$ run_seq$ MM (λe' w'=>w'=w/\e'=[(0,ptr Q.s 0),(1,I (n:Int)),(2,I (width:Int)),(15,.bool false)]) ?ax$ λax=>?dx
 case ax=>
  rintro e' w' ⟨rfl,rfl⟩;refine An O$ py$ LV$ qN O$ Md O O$ LW O$ Mn z0Y O (hP.size) ?_;rintro _ w' ⟨rfl,rfl⟩;refine LW O$ qV (Te O O (by omega)) ?_;rw[show(512:Int) / (width:Int)=((512 / width:Nat):Int) from rfl];refine qV (OO (cs:=[_,_,_]) UQ O zd5 O O)$ LW O$ qV (OO (cs:=[_,_,_,_,_,_,_]) zd7 O zdB O O)$ M5 O O (O2 O (cs:=[I (n:Int),I (width:Int),I ((512 / width:Nat):Int),I 0,I 0,ptr Q.s 0,.bool false]) O) ?_;rintro _ w1 ⟨vb,rfl,dh,ad,aj⟩;refine Me O$ qM O$ Md O O$ MC O$ Ma NM O$ qV (Mv z4X O UQ O (M7.cells (n:=3) aj (news:=[_,_,_]) O) O)$ Mn zdx O (US n width (512 / width) ⟨by omega,e2⟩ hn _) ?_;rintro _ w2 ⟨rfl,af⟩;have aG:=ad.trans af;have am:=af.LY aj;have z1:=ad.size;have z2:=af.size;have l1:=aj.lt;have eh:Sp Q txt K (λb=>X b\/b=vb) w2:=hP.ext aG (λb e=>e.imp id λe=>by omega)
  have gB:∀b,(X b\/b=vb)->b<w2.heap.size:=λb hb=>by
   rcases hb with e| e
   ·have:=hX b e;have:=aG.size;omega
   ·omega
  obtain⟨N,hN⟩:∃N,R8 n (512 / width)=N:=⟨_,rfl⟩;rw[hN] at jb bP fd⊢;refine Mn ze9 O (eh.take gB hp jb bP) ?_;rintro _ w3 ⟨rfl,fx,au⟩;have ar:=au.LY am (λe=>e (.inr O));have z3:=au.size;refine LW O$ N5 O O$ N5 O O$ M5 O O (Oo (cs:=[_,_]) NO O) ?_;rintro _ w4 ⟨b9,rfl,mJ,ay,aH⟩;refine Mb O (MO (news:=[I (a:Int),I (N:Int)]) NO O O O O aH (by simp)) ?_;rintro w5 ⟨aI,ak⟩;replace aI:M7 w5 b9 [I (a:Int),I (N:Int)] 108:=aI;have co:Ext w3 w5:=ay.LS ak (λj e=>by omega);have cB:=co.LY ar;have gA:=fx.ext' co;refine M4 O$ Mz.qb (e:=[(0,_),(8,_),(9,_),(10,_)]) ?_;refine run_seq$ qN O$ LW O$ N9 O O$ LX$ An O$ py$ qN O$ LW O$ qV (Mv SO O NO O (M7.cells (n:=2) aI (news:=[_,_]) O) O)$ MC O$ Ma Uu O$ Mb O (MO (news:=[I (a:Int),I (N:Int)]) NO O O O O cB (by simp)) ?_;rintro w6 ⟨aS,aR⟩;replace aS:M7 w6 vb [I (n:Int),I (width:Int),I ((512 / width:Nat):Int),I (a:Int),I (N:Int),ptr Q.s 0,.bool false] 145:=aS;have qk:=gA.own aR (λb e=> .inr e);have aA:(Q.Nr (NU Q.L a N true)).L.length=Q.L.length:=fd
  obtain⟨xs,dz,Aa⟩:=VcT.any (txt:=txt) (st:=a) (width:=width) (each:=512 / width) (n:=n) (by omega) (by omega) (λi hi=>by
   have q9:=Vt (each:=512 / width) (by omega) hi;rw[hN] at q9
   generalize i / (512 / width)=q at q9⊢
   exact qk.VM (by omega) (by rw[aA];omega))
  have JH:Sn (Q.Nr (NU Q.L a N true)) txt vb width a xs w6:=⟨by rw[dz,hN];exact aS,oG,Aa,by omega,by rw[dz,hN,aA];exact bP⟩
  have nP:∀b,(X b\/b=vb)->b<w6.heap.size:=λb hb=>by
   have:=gB b hb;have:=co.size;have:=aR.size;omega
  have rz:=z2y qk nP (by omega) JH (.inr O) (x:=0) (Nat.two_pow_pos _);rw[dz,hN] at rz;refine LX$ run_seq$ qN O$ LW O$ Mn zfw O (rz) ?_;rintro _ w7 ⟨rfl,hW⟩;obtain⟨txt7,yu,zN,JI,aD⟩:=hW;refine Me O$ qM O$ LW O$ N9 O O$ LX$ An O$ py$ qN O$ LW O$ Me O$ M4 O$ LZ Tryz.func33 O ?_;have gz:(List.replicate n 0).length=n:=List.length_replicate;refine⟨_,rfl,vb,txt7,rfl,by omega,yu,zN,λy hy=>JI y (by rw[gz,hN];exact hy),?_⟩;have cC:Kp (λb=>¬X b) w' w3:=aG.kp.trans (au.Mc λb e e2=>e (.inl e2));exact((cC.trans co.kp).LS aR (λb e=> .inl (by omega))).trans (aD.Mc λb e e2=>e (.inl e2))
 case dx=>
  rcases oG with rfl|rfl|rfl|rfl
  ·refine M0 O$ LW O$ Ni O O$ ML$ Md O O$ Ng O O$ ML$ MN O O$ Md O O$ N9 O O$ ML$ LW O$ qS$ qS ?_;refine MN O O$ LW O$ qS$ qS$ MN O O$ LW O$ qS$ qS$ MN O O$ MN O O$ M4 O$ Mz.qb (e:=[(0,_),(1,_),(2,_),(6,_),(7,_),(15,_)]) ?_;exact(ax _ _ ⟨rfl,rfl⟩).qb
  ·refine M0 O$ LW O$ Ni O O$ ML$ Md O O$ Ng O O$ ML$ MN O O$ Md O O$ N9 O O$ O4$ Md O O$ N9 O O$ ML ?_;refine NC O O$ LW O$ qS$ qS$ MN O O$ LW O$ qS$ qS$ MN O O$ MN O O$ M4 O$ Mz.qb (e:=[(0,_),(1,_),(2,_),(6,_),(7,_),(15,_)]) ?_;exact(ax _ _ ⟨rfl,rfl⟩).qb
  ·refine M0 O$ LW O$ Ni O O$ ML$ Md O O$ Ng O O$ ML$ MN O O$ Md O O$ N9 O O$ O4$ Md O O$ N9 O O$ O4 ?_;refine NC O O$ Md O O$ N9 O O$ ML$ NC O O$ LW O$ qS$ qS$ MN O O$ MN O O$ M4 O$ Mz.qb (e:=[(0,_),(1,_),(2,_),(6,_),(7,_),(15,_)]) ?_;exact(ax _ _ ⟨rfl,rfl⟩).qb
  ·refine M0 O$ LW O$ Ni O O$ ML$ Md O O$ Ng O O$ ML$ MN O O$ Md O O$ N9 O O$ O4$ Md O O$ N9 O O$ O4 ?_;refine NC O O$ Md O O$ N9 O O$ O4$ NC O O$ Md O O$ N9 O O$ ML$ NC O O$ MN O O$ M4 O$ Mz.qb (e:=[(0,_),(1,_),(2,_),(6,_),(7,_),(15,_)]) ?_;exact(ax _ _ ⟨rfl,rfl⟩).qb
end
structure Gr where
 n:Nat
 succ:Nat->List Nat
 lt:∀v u,u∈succ v->u<n
theorem Qr {g:List (List Nat)}(h:P9 g)(v u:Nat)(hu:u∈Mg g v):u<g.length:=by
 unfold Mg at hu
 cases e:g[v]? with
 |none=>rw[e] at hu;cases hu
 |some l=>rw[e] at hu;exact h.lt l (List.mem_of_getElem? e) u hu
abbrev Ds:=List (Option Nat)
def dF (d:Ds)(u:Nat):Option Nat:=(d[u]?).getD none
def zco (t:Nat)(d:Ds)(u:Nat):Ds:=if d[u]? =some none then d.set u (some (t+1)) else d
def zgA (t:Nat)(g:List (List Nat))(d:Ds)(v:Nat):Ds:=if dF d v=some t then(Mg g v).foldl (zco t) d else d
def lvl (t:Nat)(g:List (List Nat))(d:Ds):Ds:=(List.range g.length).foldl (zgA t g) d
section
variable {G:Gr}{r t:Nat}{d0 d:Nat->Option Nat}{A B:Nat->Nat->Prop}
end
section
variable {g:List (List Nat)}{r t:Nat}
end
/-! ### The same with a flag: whether there were some -/
/-! ### A run -/
structure BfS where
 t:Nat
 done:Bool
 d:Ds
section
variable {g:List (List Nat)}{h:P9 g}{r:Nat}{s:BfS}
end
theorem z43 {v:Nat}(h:v<=200000):Nat.log2 (v+1)<=17:=by
 have h1:=Nat.log2_self_le (n:=v+1) (by omega)
 have h3:2^Nat.log2 (v+1)<2^18:=by
  have:(2:Nat)^18=262144:=by decide
  omega
 have:=(Nat.pow_lt_pow_iff_right (by decide:1<2)).1 h3
 omega
theorem TQ.z8E {k:Nat}{q:Cd×Nat}(h:TQ k q)(hk:1<=k/\k<=3):(q.1.enc q.2).length<=40:=by
 rw[T9]
 rcases h with⟨e,h⟩|⟨e,h⟩|⟨e,h⟩
 ·rw[e];show q.2+1+0<=_;omega
 ·have:=z43 h;rw[e];show Nat.log2 (q.2+1)+1+Nat.log2 (q.2+1)<=_;omega
 ·have h3:=z43 h;have h4:Nat.log2 (q.2+1) / k<=Nat.log2 (q.2+1):=Nat.div_le_self _ _;have hm:Nat.log2 (q.2+1) / k*k<=Nat.log2 (q.2+1):=Nat.div_mul_le_self _ _
  have h5:(Of (q.2+1-2^(Nat.log2 (q.2+1) / k*k)) (2^(Nat.log2 (q.2+1) / k*k)*2^k-2^(Nat.log2 (q.2+1) / k*k))).2<=20:=by
   have h6:MR (2^(Nat.log2 (q.2+1) / k*k)*2^k-2^(Nat.log2 (q.2+1) / k*k)-1)<=20:=by
    refine NR ?_;have h7:=Nat.pow_le_pow_right (show 0<2 by decide) (show Nat.log2 (q.2+1) / k*k+k<=20 by omega);rw[Nat.pow_add] at h7;have:=Nat.two_pow_pos (Nat.log2 (q.2+1) / k*k);omega
   unfold Of;dsimp only;split
   ·show MR _-1<=20;omega
   ·exact h6
  rw[e];show Nat.log2 (q.2+1) / k+1+(Of _ _).2<=_;omega
theorem z2H {p:OE}(hp:p.Nj)(hz:p.zeta<=3){x:Nat}(hx:x<65536){succ ref:List Nat}(hs:MG succ)(hr:MG ref){r:Nat}(iZ:r<=p.Mq)(I3:succ.length<=40)(zh:ref.length<=40):(Mp (Oe p x succ ref r)).length<=6600:=by
 have az:MG (leftOf succ ref):=hs.sub List.filter_sublist
 have fd:(leftOf succ ref).length<=succ.length:=List.length_filter_le _ _
 have h1:=(PE succ ref).Y9
 rw[List.length_map] at h1
 have h2:=Za p.interval az
 have h3:=(Rg p.interval (leftOf succ ref)).length_le
 have aA:(Oe p x succ ref r).length<=165:=by
  unfold Oe;rw[List.length_cons];split
  ·simp
  rw[List.length_append,List.length_append];have e1:(if 0<p.Mq then [(Cd.unary,r)] else []).length<=1:=by split<;>simp
  have e2:(if 0<r then(Cd.gamma,(NY succ ref).length-1)::runNums 0 (NY succ ref).dropLast else []).length<=42:=by
   split
   ·rw[List.length_cons,PL,List.length_dropLast];omega
   ·simp
  have e3:(if leftOf succ ref=[] then [] else(if 0<p.interval then(Cd.gamma,(rowsN p.interval (leftOf succ ref)).1.length)::longNums x p.interval none (rowsN p.interval (leftOf succ ref)).1 else [])++restNums x p.zeta none (rowsN p.interval (leftOf succ ref)).2).length<=121:=by
   split
   ·simp
   ·rw[List.length_append,PT];split
    ·rw[List.length_cons,P3];omega
    ·simp;omega
  omega
 have:=YP (n:=40) (L:=Oe p x succ ref r) (λq hq=>(X4 hp hx hs hr iZ q hq).z8E ⟨hp.2.2.1,hz⟩)
 omega
section
variable {p:Nb}{g:List (List Nat)}{E:List (Nat×Nat)}
theorem zbh (h:Py p g E)(uI:g.length<=40)(hz:p.zeta<=3){i:Nat}(hi:i<g.length):(U0 p g E i).length<=6600:=by
 unfold U0
 have sR:g[i]? =some g[i]:=List.getElem?_eq_getElem hi
 have qX:i<E.length:=by have:=h.pk.el;omega
 have Gv:E[i]? =some E[i]:=List.getElem?_eq_getElem qX
 have gN:=h.pk.ok.ent i _ Gv
 rw[sR,Gv]
 rw[sR] at gN
 show(Mp (Oe p.list i g[i] (Nt g i E[i].1) E[i].1)).length<=6600
 have h2:MG (Nt g i E[i].1)/\(Nt g i E[i].1).length<=40:=by
  rcases Tf g i E[i].1 with e| e
  ·rw[e];exact⟨⟨List.Pairwise.nil,λy h=>(by cases h)⟩,Nat.zero_le _⟩
  ·exact⟨h.gr.ok _ e,by have:=h.gr.len e;omega⟩
 have iZ:E[i].1<=p.list.Mq:=by
  rcases gN with e|⟨-,h3,-⟩
  ·rw[e];exact Nat.zero_le _
  ·exact h3
 have hm:g[i]∈g:=List.getElem_mem hi
 exact z2H h.Nj.1 hz (by omega) (h.gr.ok _ hm) h2.1 iZ (by have:=h.gr.len hm;omega) h2.2
theorem z82 (h:Py p g E)(uI:g.length<=40)(hz:p.zeta<=3):∀n,n<=g.length->(Nn p g E n).length<=n*6600
 |0,_=>by simp[Nn]
 | n + 1, hn => by
   have:=z82 h uI hz n (by omega);have:=zbh h uI hz (i:=n) (by omega);rw[PJ,List.length_append,Nat.add_mul];omega
theorem z8x {n u:Nat}(hn:1<=n):(Qq n u).bits<=3*n:=by
 show(u-1) / 2^Uo n u+n<=_
 have h:u<2*n*2^Uo n u:=by
  unfold Uo;split
  ·rename_i e
   have:=(Nat.div_eq_zero_iff).1 e;omega
  ·rename_i e
   have h1:=Tl (v:=u / n);have h2:=(Nat.div_lt_iff_lt_mul (by omega)).1 h1;have h3:1<=MR (u / n):=by unfold MR;rw[if_neg e];omega
   rw[show MR (u / n)=MR (u / n)-1+1 by omega,Nat.pow_succ,Nat.mul_comm _ n,Nat.mul_comm _ 2,<-Nat.mul_assoc,Nat.mul_comm n 2] at h2;exact h2
 have h4:(u-1) / 2^Uo n u<2*n:=(Nat.div_lt_iff_lt_mul (Nat.two_pow_pos _)).2 (by omega)
 omega
theorem z7T (h:Py p g E)(uI:g.length<=40)(hz:p.zeta<=3):(Ug p g E).length<=36000:=by
 have h1:=z82 h uI hz g.length (Nat.le_refl _)
 have h2:g.length*6600<=40*6600:=Nat.mul_le_mul_right _ uI
 have h3:(Yk p g E).size<=2900:=by
  have hw:Uo (g.length+1) ((Nn p g E g.length).length+1)<=30:=VE (by omega);have hb:=z8x (n:=g.length+1) (u:=(Nn p g E g.length).length+1) (by omega);have hm:(g.length+1)*Uo (g.length+1) ((Nn p g E g.length).length+1)<=41*30:=Nat.mul_le_mul (by omega) hw;show 12+((g.length+1)*Uo (g.length+1) ((Nn p g E g.length).length+1)+7) / 8+((Qq (g.length+1) ((Nn p g E g.length).length+1)).bits+7) / 8+4*((g.length+1+63) / 64)<=2900;omega
 rw[h.len]
 unfold SD
 omega
end
structure WR where
 p:Nb
 g:List (List Nat)
 E:List (Nat×Nat)
 st:Nat
 len:Nat
 rb:Nat
 sum:Nat
 k:Nat
 x:Nat
def OD (G:WR)(Q:Ol)(txt:Int->Bytes)(K:Nat)(X:Nat->Prop)(w:World):Prop:=∃o:StO Q txt K G.st G.len (Ug G.p G.g G.E),Rn (z4Z o G.rb G.sum) G.k G.x X w
section
variable {G:WR}{w w':World}{Q Q':Ol}{txt txt':Int->Bytes}{K K':Nat}{X Y S':Nat->Prop}
theorem OD.sp (h:OD G Q txt K X w):Sp Q txt K (λb=>X b\/b=G.rb) w:=by obtain⟨o,h⟩:=h;exact h.inv.1
theorem OD.rbB (h:OD G Q txt K X w):M7 w G.rb (srC Q.s G.st G.len (Ug G.p G.g G.E).length G.sum) 204:=by obtain⟨o,h⟩:=h;exact h.inv.2.1
theorem OD.rbX (h:OD G Q txt K X w):¬X G.rb:=by obtain⟨o,h⟩:=h;exact h.inv.2.2
theorem OD.lt (h:OD G Q txt K X w):∀b,X b->b<w.heap.size:=by obtain⟨o,h⟩:=h;exact h.lt
theorem OD.lt1 (h:OD G Q txt K X w):∀b,(X b\/b=G.rb)->b<w.heap.size:=λb hb=>hb.elim (h.lt b) (λe=>by rw[e];exact h.rbB.lt)
theorem OD.ZE (h:OD G Q txt K X w):K<1000000000000:=by obtain⟨o,h⟩:=h;exact o.k
theorem OD.xk (h:OD G Q txt K X w):X G.k/\X G.x/\X 0/\X 1:=by obtain⟨o,h⟩:=h;exact⟨h.xk,h.xx,h.x1,h.x2⟩
theorem OD.ok (h:OD G Q txt K X w):Py G.p G.g G.E:=by obtain⟨o,h⟩:=h;exact h.ok
theorem OD.Yj (h:OD G Q txt K X w)(hk:Kp S' w w')(hS:∀b,S' b->¬(X b\/b=G.rb)\/(X b/\b≠G.k/\b≠G.x/\b≠0/\b≠1))(hP:Sp Q' txt' K' (λb=>X b\/b=G.rb) w')(hs:Q'.s=Q.s)(hl:Q'.L.length=Q.L.length)(hK:K'<1000000000000)(ht:∀y:Int,(G.st:Int)<=y->y<(G.st:Int)+(G.len:Int)->txt' y=txt y):OD G Q' txt' K' X w':=by
 have tH:=h.rbX
 have Ac:=h.rbB
 obtain⟨o,h⟩:=h
 have aA:=o.len
 refine⟨⟨hK,by rw[hl];exact o.fit,o.laid.z0C λk hk=>ht _ (by omega) (by omega),o.len⟩,h.re hk (λj hj=>?_) ⟨hP,?_,tH⟩⟩
 ·rcases hS j hj with e| e
  ·exact⟨λe2=>e (.inl (e2▸h.xk)),λe2=>e (.inl (e2▸h.xx)),λe2=>e (.inl (e2▸h.x1)),λe2=>e (.inl (e2▸h.x2))⟩
  ·exact e.2
 ·rw[hs];exact hk.LY Ac (λe=>(hS _ e).elim (λe=>e (.inr O)) (λe=>tH e.1))
theorem OD.zdO (h:OD G Q txt K X w)(hk:Kp S' w w')(hS:∀b,S' b->¬(X b\/b=G.rb))(bM:∀j,X j->Y j)(hY:∀j,Y j->X j\/(w.heap.size<=j/\j<w'.heap.size))(hP:Sp Q' txt' K' (λb=>Y b\/b=G.rb) w')(hs:Q'.s=Q.s)(hl:Q'.L.length=Q.L.length)(hK:K'<1000000000000)(ht:∀y:Int,(G.st:Int)<=y->y<(G.st:Int)+(G.len:Int)->txt' y=txt y):OD G Q' txt' K' Y w':=by
 have tH:=h.rbX
 have Ac:=h.rbB
 obtain⟨o,h⟩:=h
 have aA:=o.len
 have hI:(z4Z (⟨hK,by rw[hl];exact o.fit,o.laid.z0C λk hk=>ht _ (by omega) (by omega),o.len⟩:StO Q' txt' K' G.st G.len (Ug G.p G.g G.E)) G.rb G.sum).inv Y w':=⟨hP,by rw[hs];exact hk.LY Ac (λe=>hS _ e (.inr O)),λe=>(hY _ e).elim tH (λe=>by have:=Ac.lt;omega)⟩
 refine⟨_,⟨h.ok,hk.LY h.LY (λe=>hS _ e (.inl h.xk)),hk.LY h.ix (λe=>hS _ e (.inl h.xx)),bM _ h.xk,bM _ h.xx,hI,λj hj=>?_,bM _ h.x1,bM _ h.x2,hk.LY h.gam (λe=>hS _ e (.inl h.x1)),hk.LY h.una (λe=>hS _ e (.inl h.x2))⟩⟩
 rcases hY j hj with e| e
 ·have:=h.lt j e;have:=hk.size;omega
 ·exact e.2
theorem OD.grow (h:OD G Q txt K X w)(hx:Ext w w')(hY:∀j,Y j->X j\/(w.heap.size<=j/\j<w'.heap.size))(bM:∀j,X j->Y j):OD G Q txt K Y w':=by
 obtain⟨o,h⟩:=h
 exact⟨o,h.grow hx hY bM⟩
theorem OD.ext (h:OD G Q txt K X w)(hx:Ext w w'):OD G Q txt K X w':=h.grow hx (λj hj=> .inl hj) λj hj=>hj
theorem OD.own (h:OD G Q txt K X w)(hk:Kp S' w w')(hS:∀j,S' j->X j/\j≠G.k/\j≠G.x/\j≠0/\j≠1):OD G Q txt K X w':=by
 obtain⟨o,h⟩:=h
 exact⟨o,h.own hk hS⟩
theorem OD.step (h:OD G Q txt K X w)(hk:Kp S' w w')(hS:∀j,S' j->X j/\j≠G.k/\j≠G.x/\j≠0/\j≠1)(hY:∀j,Y j->X j\/(w.heap.size<=j/\j<w'.heap.size))(bM:∀j,X j->Y j):OD G Q txt K Y w':=by
 obtain⟨o,h⟩:=h
 exact⟨o,h.step hk hS hY bM⟩
theorem OD.less (h:OD G Q txt K Y w)(bM:∀j,X j->Y j)(hx:X G.k/\X G.x/\X 0/\X 1):OD G Q txt K X w:=by
 obtain⟨o,h⟩:=h
 exact⟨o,h.less bM hx.1 hx.2.1 hx.2.2.1 hx.2.2.2⟩
theorem OD.more (h:OD G Q txt K X w)(hK:K<=K')(rA:K'<1000000000000):OD G Q txt K' X w:=h.Yj (S':=λ_=>False) (Kp.refl _ w) (λ_ e=>e.elim) (h.sp.more hK) O O rA λ_ _ _=>rfl
theorem WE (h:OD G Q txt K X w):Mw Tryz.prog 34 [ptr G.k 0] w λv w'=>v=I (G.g.length:Int)/\w'=w:=by
 obtain⟨o,h⟩:=h
 exact z9p h
theorem z38 {l bk bi v:Nat}(j4:G.g.length<50)(hv:v<G.g.length)(h:OD G Q txt K X w)(gy:M7 w bk [ptr G.k 0] 29)(uG:M7 w bi [I (v:Int)] 3)(Z:Nat->Prop)(hZ:∀j,Z j->X j)(J:(Nat->Prop)->Nat->World->Prop)(F:World->Prop)
  (h0:∀(Y:Nat->Prop) (w':World),(∀j,X j->Y j)->(∀j,Y j->X j\/w.heap.size<=j)->OD G Q txt K Y w'->Kp (λj=>¬X j) w w'->J Y 0 w')
  (hround:∀(Y:Nat->Prop) (i s:Nat) (w':World),(∀j,X j->Y j)->(∀j,Y j->X j\/w.heap.size<=j)->(Mg G.g v)[i]? =some s->J Y i w'->z05 Tryz.prog l [Mx s,I 0] w' λr w''=>(r= .bool true/\J Y (i+1) w''/\Kp (λj=>¬Y j\/Z j) w' w'')\/(r= .bool false/\F w'')):
  Mw Tryz.prog 113 [.func (.yield l) #[] #[],ptr bk 0,ptr bi 0] w λr w'=>r= .tuple #[]/\((∃Y,(∀j,X j->Y j)/\(∀j,Y j->X j\/w.heap.size<=j)/\J Y (Mg G.g v).length w')\/F w'):=by
 obtain⟨o,h⟩:=h
 exact z3h j4 hv h gy uG Z hZ J F (λY w' h1 h2 h3 h4=>h0 Y w' h1 h2 ⟨o,h3⟩ h4) hround
end
def GrR (w:World)(gb go:Nat)(g:List (List Nat)):Prop:=∀(v:Nat) (l:List Nat),g[v]? =some l->∃(a:Option Addr) (c:Nat),w.cell? ⟨gb,go+v*1,none⟩=some (.slice a l.length c)/\∀(i x:Nat),l[i]? =some x->∃lb lo,a=some ⟨lb,lo,none⟩/\w.cell? ⟨lb,lo+i*1,none⟩=some (Mx x)
theorem MJ {w w':World}{a:Addr}{u:Value}(hx:Ext w w')(h:w.cell? a=some u):w'.cell? a=some u:=by
 unfold World.cell? at h⊢
 cases hh:w.heap[a.block]? with
 |none=>rw[hh] at h;simp at h
 |some o=>rw[hx.heap hh id];rw[hh] at h;exact h
theorem GrR.ext {w w':World}{gb go:Nat}{g:List (List Nat)}(h:GrR w gb go g)(hx:Ext w w'):GrR w' gb go g:=λv l hl=>by
 obtain⟨a,c,h1,h2⟩:=h v l hl
 refine⟨a,c,MJ hx h1,λi x hi=>?_⟩
 obtain⟨lb,lo,e,h3⟩:=h2 i x hi
 exact⟨lb,lo,e,MJ hx h3⟩
theorem GrM.r {w:World}{v:Value}{g:List (List Nat)}(h:GrM w v g)(h1:1<=g.length):∃gb go gc,v= .slice (some ⟨gb,go,none⟩) g.length gc/\GrR w gb go g:=by
 obtain⟨vs,hr,hv⟩:=h.ex
 rcases hr.2 with⟨c,-,h0⟩|⟨gb,go,gc,e,hc⟩
 ·omega
 ·refine⟨gb,go,gc,e,λv l hl=>?_⟩;obtain⟨a,c,g1,g2,g3⟩:=hv v l hl;refine⟨a,c,by rw[Nat.mul_one];exact hc v _ g1,λi x hi=>?_⟩;rcases g3.2 with⟨c',-,h0⟩|⟨lb,lo,lc,e2,dU⟩
  ·have:l=[]:=List.eq_nil_of_length_eq_zero h0;rw[this] at hi;cases hi
  ·cases e2;exact⟨lb,lo,rfl,by rw[Nat.mul_one];exact dU i _ (by rw[List.getElem?_map,hi];rfl)⟩
/-! ### Distances -/
structure VW (w:World)(bg B:Nat)(L:List (List Nat)):Prop where
 ex:∃vs:List Value,M7 w bg vs 45/\vs.length=L.length/\∀(i:Nat) (l:List Nat),L[i]? =some l->∃(a:Option Addr) (c:Nat),vs[i]? =some (.slice a l.length c)/\l.length<=c/\Rd w (.slice a l.length c) 1 l.length (l.map Mx)/\∀b,(Value.slice a l.length c).ownBlock=some b->B<=b/\b≠bg
section
variable {w w':World}{bg B:Nat}{L:List (List Nat)}
theorem VW.ext (h:VW w bg B L)(hx:Ext w w'):VW w' bg B L:=by
 obtain⟨vs,h1,h2,h3⟩:=h.ex
 refine⟨vs,hx.LY h1,h2,λi l hl=>?_⟩
 obtain⟨a,c,g1,g2,g3,g4⟩:=h3 i l hl
 exact⟨a,c,g1,g2,g3.ext hx,g4⟩
theorem VW.new {n:Nat}(h:M7 w bg (List.replicate n (.slice none 0 0)) 45):VW w bg B (List.replicate n []):=
 ⟨_,h,by simp,λi l hl=>by
  rw[List.getElem?_replicate] at hl;split at hl
  ·rename_i hi
   cases hl;exact⟨none,0,by rw[List.getElem?_replicate,if_pos hi];rfl,Nat.le_refl _,⟨rfl,.inl ⟨(none,0),rfl,rfl⟩⟩,λb hb=>by cases hb⟩
  ·cases hl⟩
theorem VW.set (h:VW w bg B L){f:Nat}{l:List Nat}{a:Option Addr}{c:Nat}(hk:Kp (λb=>b=bg) w w')(hB:∀vs,M7 w bg vs 45->M7 w' bg (vs.set (0+f*1) (.slice a l.length c)) 45)(hf:f<L.length)(ij:l.length<=c)(hr:Rd w (.slice a l.length c) 1 l.length (l.map Mx))(ho:∀b,(Value.slice a l.length c).ownBlock=some b->B<=b/\b≠bg):VW w' bg B (L.set f l):=by
 obtain⟨vs,h1,h2,h3⟩:=h.ex
 refine⟨_,hB vs h1,by simp[h2],λi l' hl=>?_⟩
 rw[Nat.zero_add,Nat.mul_one]
 by_cases e:f=i
 ·subst e;rw[List.getElem?_set_self hf] at hl;cases hl;exact⟨a,c,List.getElem?_set_self (by rw[h2];exact hf),ij,hr.kp hk (λb hb e=>(ho b hb).2 e),ho⟩
 ·rw[List.getElem?_set_ne e] at hl;obtain⟨a',c',g1,g2,g3,g4⟩:=h3 i l' hl;exact⟨a',c',by rw[List.getElem?_set_ne e];exact g1,g2,g3.kp hk (λb hb e=>(g4 b hb).2 e),g4⟩
theorem VW.gr (h:VW w bg B L):GrM w (.slice (some ⟨bg,0,none⟩) L.length L.length) L:=by
 obtain⟨vs,h1,h2,h3⟩:=h.ex
 refine⟨vs,⟨by rw[h2,Nat.mul_one],.inr ⟨bg,0,L.length,rfl,λj u hj=>by rw[h1.cell,Nat.zero_add];exact hj⟩⟩,λi l hl=>?_⟩
 obtain⟨a,c,g1,g2,g3,g4⟩:=h3 i l hl
 exact⟨a,c,g1,g2,g3⟩
theorem VW.lt (h:VW w bg B L):bg<w.heap.size:=by obtain⟨vs,h1,-⟩:=h.ex;exact h1.lt
theorem VW.cell (h:VW w bg B L){f:Nat}{l:List Nat}(hf:L[f]? =some l):∃(a:Option Addr) (c:Nat),w.cell? ⟨bg,0+f*1,none⟩=some (.slice a l.length c)/\l.length<=c/\Rd w (.slice a l.length c) 1 l.length (l.map Mx)/\∀b,(Value.slice a l.length c).ownBlock=some b->B<=b/\b≠bg:=by
 obtain⟨vs,h1,h2,h3⟩:=h.ex
 obtain⟨a,c,g1,g2,g3,g4⟩:=h3 f l hf
 exact⟨a,c,by rw[h1.cell,Nat.zero_add,Nat.mul_one];exact g1,g2,g3,g4⟩
def EdR (w:World)(ea:Option Addr)(es:List (Nat×Nat)):Prop:=∀(i:Nat) (e:Nat×Nat),es[i]? =some e->e.1<4294967296/\e.2<4294967296/\∃eb eo,ea=some ⟨eb,eo,none⟩/\w.cell? ⟨eb,eo+i*2+0,none⟩=some (Mx e.1)/\w.cell? ⟨eb,eo+i*2+1,none⟩=some (Mx e.2)
theorem EdR.ext {ea:Option Addr}{es:List (Nat×Nat)}(h:EdR w ea es)(hx:Ext w w'):EdR w' ea es:=λi e he=>by
 obtain⟨h1,h2,eb,eo,h3,h4,h5⟩:=h i e he
 exact⟨h1,h2,eb,eo,h3,MJ hx h4,MJ hx h5⟩
end
theorem P9.insert {g:List (List Nat)}(h:P9 g){f x k:Nat}{s:List Nat}(hs:g[f]? =some s)(hx:x<g.length)(hk:k<=s.length)(h1:∀y∈s.take k,y<x)(h2:∀y∈s.drop k,x<y):P9 (g.set f (s.take k++[x]++s.drop k)):=by
 have hm:=List.mem_of_getElem? hs
 have tL:=h.ok s hm
 have aP:=h.lt s hm
 have hn:=h.n
 refine⟨λl hl=>?_,λl hl y hy=>?_,by rw[List.length_set];exact h.n⟩
 ·rcases List.mem_or_eq_of_mem_set hl with e| e
  ·exact h.ok l e
  ·subst e;refine⟨?_,λy hy=>?_⟩
   ·have hr:List.Pairwise (·<·) s:=tL.W4;show List.Pairwise (·<·) _;rw[List.append_assoc,List.pairwise_append];refine⟨hr.sublist (List.take_sublist _ _),?_,λa ha b hb=>?_⟩
    ·rw[List.singleton_append,List.pairwise_cons];exact⟨h2,hr.sublist (List.drop_sublist _ _)⟩
    ·rw[List.singleton_append] at hb;rcases List.mem_cons.1 hb with e| e
     ·rw[e];exact h1 a ha
     ·exact Nat.lt_trans (h1 a ha) (h2 b e)
   ·rcases List.mem_append.1 hy with e| e
    ·rcases List.mem_append.1 e with e| e
     ·exact tL.lt y (List.mem_of_mem_take e)
     ·rw[List.mem_singleton.1 e];omega
    ·exact tL.lt y (List.mem_of_mem_drop e)
 ·rw[List.length_set];rcases List.mem_or_eq_of_mem_set hl with e| e
  ·exact h.lt l e y hy
  ·subst e;rcases List.mem_append.1 hy with e| e
   ·rcases List.mem_append.1 e with e| e
    ·exact aP y (List.mem_of_mem_take e)
    ·rw[List.mem_singleton.1 e];exact hx
   ·exact aP y (List.mem_of_mem_drop e)
theorem P9.empty {n:Nat}(hn:n<=60):P9 (List.replicate n []):=
 ⟨λl hl=>by rw[List.eq_of_mem_replicate hl];exact⟨List.Pairwise.nil,λy h=>(by cases h)⟩,λl hl y hy=>(by rw[List.eq_of_mem_replicate hl] at hy;cases hy),by simpa using hn⟩
theorem M7.uniq {w:World}{b:Nat}{cs cs':List Value}{T T':TypeId}(h:M7 w b cs T)(h':M7 w b cs' T'):cs=cs':=by
 obtain⟨fz,h1,-⟩:=h
 obtain⟨fz',h2,-⟩:=h'
 rw[h1] at h2
 have:=NF h2
 injection this with e1 e2 e3
 have:=congrArg Array.toList e1
 simpa using this
theorem z69 {n : Nat}(cU : 1 <= n)(hn : n <= 40){w : World}{ea : Option Addr}{ec : Nat}{es : List (Nat × Nat)}(oC : es.length <= 9000000000000000000)(hE : EdR w ea es) : Mw Tryz.prog 24 [I (n : Int), .slice ea es.length ec] w λv w' => ∃ g bg, v = .slice (some ⟨bg, 0, none⟩) g.length g.length /\ g.length = n /\ P9 g /\ VW w' bg w.heap.size g /\ Ext w w' := by
 have eH:maxLen=9223372036854775807:=rfl
 refine It (e:=[(0,_),(1,_)]) Tryz.func24 O Tryz.ntmps24 O O$ qN O$ Me O$ qM O$ LW O$ M5 O O (pmk (c:=n) (n:=n) SN Pq O O O (by omega) (by omega) (by omega)) ?_
 rintro _ w1 ⟨bg,rfl,⟨Gk,ad,aj⟩,-⟩
 have kH:VW w1 bg w.heap.size (List.replicate n []):=VW.new aj
 refine M4 O$ run_seq$ qN O$ M4 O$ LU$ Oh (α:=Nat×List (List Nat)) ((0,List.replicate n [])) (λy=>[(0,I (n:Int)),(1,.slice ea es.length ec),(5,.slice (some ⟨bg,0,none⟩) n n),(6,I (y.1:Int))]) (λy w'=>y.1<=es.length/\y.2.length=n/\P9 y.2/\VW w' bg w.heap.size y.2/\Ext w w') (λy=>es.length-y.1) ?hI ?hround
 case hI=>exact⟨Nat.zero_le _,by simp,P9.empty (by omega),kH,ad⟩
 case hround =>
  rintro⟨i,g⟩ w2 ⟨hi,ev,az,cI,af⟩ ih;dsimp only at hi ev az cI af ih⊢
  try dsimp only
  refine run_seq$ qN O$ Md O O$ O9 YT O$ Ni O O$ LX$ M8 O (λhq=>?_)$ λhq=>?_
  ·have cy : i < es.length := by omega
   obtain⟨e,he⟩:∃e,es[i]? =some e:=⟨_,List.getElem?_eq_getElem cy⟩;obtain⟨e1,e2,eb,eo,rfl,dP,dU⟩:=(hE.ext af) i e he;refine py$ run_seq$ LU$ run_seq$ qN O$ Md O O$ qV (MS YT Qs O O (by omega))$ Ma Ts O$ qV (MA Np O O dP)$ qV (MK O Np U3 (by omega))$ LW O ?_;by_cases hf:e.1<n
   ·by_cases ht:e.2<n
    ·refine PD O O$ ML$ Md O O$ LW O$ qV (MS YT Qs O O (by omega))$ Ma Si O$ qV (MA Np O O dU)$ qV (MK O Np U3 (by omega))$ LW O$ PD O O$ ML ?_;obtain⟨s,hs⟩:∃s,g[e.1]? =some s:=⟨_,List.getElem?_eq_getElem (by omega)⟩;obtain⟨a,c,fA,ij,dQ,E8⟩:=cI.cell hs;have fT:s.length<=n:=by rw[<-ev];exact az.len (List.mem_of_getElem? hs)
     refine MN O O$ LX$ An O$ py$ qN O$ Md O O$ LW O$ qV (MS YT Qs O O (by omega))$ Ma Ts O$ qV (MA Np O O dP)$ qV (MS SN Pq O O (by omega))$ qV (MA Mr O O fA)$ Me O$ qM O ?_;refine M4 O$ run_seq$ LU ?_;have tr:List.Pairwise (·<·) s:=(az.ok s (List.mem_of_getElem? hs)).W4
     have JJ:∀(k y:Nat),s[k]? =some y->∀z∈s.drop k,y<=z:=λk y hy z hz=>by
      have jV:k<s.length:=by
       rcases Nat.lt_or_ge k s.length with h| h
       ·exact h
       ·rw[List.getElem?_eq_none h] at hy;cases hy
      have h1:List.Pairwise (·<·) (s.drop k):=tr.sublist (List.drop_sublist _ _);rw[List.drop_eq_getElem_cons jV] at h1 hz;rw[List.getElem?_eq_getElem jV] at hy;cases hy;rcases List.mem_cons.1 hz with e| e
      ·omega
      ·exact Nat.le_of_lt ((List.pairwise_cons.1 h1).1 z e)
     refine Ot (λe' w'=>∃k:Nat,e'=[(0,I (n:Int)),(1,.slice (some ⟨eb,eo,none⟩) es.length ec),(5,.slice (some ⟨bg,0,none⟩) n n),(6,I (i:Int)),(7,.slice a s.length c),(8,I (k:Int))]/\k<=s.length/\(∀y∈s.take k,y<e.2)/\(∀y,s[k]? =some y->e.2<=y)/\Ext w2 w') ?jm$ λjm=>?tP
     case jm =>
      rintro e' w3 ⟨k,rfl,hk,gQ,iB,ai⟩;have ae:=Ext.Mm w3;have tM:=dQ.ext ai;have tN:=MJ ai dU;refine run_seq$ MM (λe' w'=>∃q,e'=[(0,I (n:Int)),(1,.slice (some ⟨eb,eo,none⟩) es.length ec),(5,.slice (some ⟨bg,0,none⟩) n n),(6,I (i:Int)),(7,.slice a s.length c),(8,I (k:Int)),(76,.bool q)]/\(q=true->∀y∈s.drop k,e.2<y)/\Ext w2 w') ?eu$ λeu=>?iE
      case eu =>
       rintro e' w4 ⟨q,rfl,oK,ay⟩;have fD:=cI.ext ay;have mc:=dQ.ext ay;have E9:=MJ ay dP;have Ea:=MJ ay dU;have cn:=af.trans ay;refine MZ O (λqm=>?_)$ λqm=>?_
       ·have ah:=Ext.Mm w4;have bc:=ah.size;have G0:w.heap.size<=w4.heap.size:=cn.size;have Eb:=fD.lt
        have lq:((s.take k++[e.2])++s.drop k).length=s.length+1:=by
         rw[List.length_append,List.length_append,List.length_take,List.length_drop,List.length_singleton];omega
        have di:∀(l:List Nat),∀c∈l.map Mx,c.oneCell'=true:=λl c hc=>by obtain⟨z,-,rfl⟩:=List.mem_map.1 hc;rfl
        have jz:(s.take k).length=k:=by rw[List.length_take];omega
        have uk:(s.drop k).length=s.length-k:=List.length_drop ..;obtain⟨vs,nS,jt,-⟩:=id fD.ex;refine Mo [23] (λw'=>Ext w4 w') (by kernel_rfl) O$ qL [22,23] 0 O (λ_ h=>MH O) ah$ qL [3,4,5,22,23] 1 O (λ_ h=>MH O) ah$ qL [3,4,5,22,23] 2 O (λ_ h=>MH O) ah$ qL [4,5,22,23] 3 O (λ_ h=>MS YT Qs O O (by omega)) ah$ qL [5,22,23] 4 O (λ_ h=>My Ts O) ah$ qL [9,10,17,21,22,23] 7 O (λ_ h=>MH O) ah$ qL [9,10,17,21,22,23] 8 O (λ_ h=>MH O) ah$ qL [13,14,15,16,17,21,22,23] 11 O (λ_ h=>MH O) ah$ qL [13,14,15,16,17,21,22,23] 12 O (λ_ h=>MH O) ah$ qL [14,15,16,17,21,22,23] 13 O (λ_ h=>MS YT Qs O O (by omega)) ah$ qL [15,16,17,21,22,23] 14 O (λ_ h=>My Si O) ah$ qL [20,21,22,23] 18 O (λ_ h=>MH O) ah$ qL [20,21,22,23] 19 O (λ_ h=>MH O) ah ?_;refine qL [22,23] 5 O (λ_ h=>MA Np O O (MJ h E9)) ah$ qL [10,17,21,22,23] 9 O (λ_ h=>z7M Mr Mi O O (by omega)) ah$ qL [16,17,21,22,23] 15 O (λ_ h=>MA Np O O (MJ h Ea)) ah$ qL [21,22,23] 20 O (λ_ h=>Ua Mr Mi O O hk ij) ah$ T5 (i:=6) (j:=16) (by kernel_rfl) ?_ ?_
        ·refine N8 (i:=6) O O O (SA (cs:=[]) (zs:=[]) Mr Mi O (by kernel_rfl) O O O (by decide)) ?_;rintro v6 w6 ⟨b6,rfl,⟨mn,aJ,aS⟩,eL⟩;refine⟨ah.trans aJ,?_⟩;have yD:w4.heap.size<=b6:=by omega
         have lb6:=aS.lt;have ah:=ah.trans aJ
         try have bQ:=bQ.ext aJ
         have bc:=Nat.le_trans bc aJ.size;refine T5 (i:=10) (j:=16) (by kernel_rfl) ?_ ?_
         ·refine N8 (i:=10) O O O (pap Mr Mi O (by decide) O O eL ((PW (i:=k) mc hk).ext ah) (λc hc=>di s c (List.mem_of_mem_take hc)) (by omega) (by omega)) ?_;rintro v10 w10 ⟨bq,aq,bh,-⟩;refine⟨ah.LS aq (λj e=>by have e:b6=j:=NF e;omega),?_⟩;have ah:=ah.LS aq (λj e=>by have e:b6=j:=NF e;omega)
          try have bQ:=bQ.kp aq (λj hj e=>by have e:b6=j:=NF e;have hj:b16=j:=NF hj;omega)
          have bh:∀j,v10.ownBlock=some j->w4.heap.size<=j:=λj hj=>by rcases bh j hj with e|e;(have e:b6=j:=NF e;omega);omega
          have bc:=Nat.le_trans bc aq.size;have nT:=λ(j:Nat) (hj:v10.ownBlock=some j)=>bq.lt hj;refine NL (i:=16) (by kernel_rfl)$ N8 (i:=16) O O O (SA (cs:=[_]) (zs:=[Value.int .u32 0]) Mr Mi O (by kernel_rfl) O O O (by decide)) ?_;rintro v16 w16 ⟨b16,rfl,⟨nU,aZ,eG⟩,bQ⟩;refine⟨ah.trans aZ,?_⟩;have nV:w4.heap.size<=b16:=by omega
          have ah:=ah.trans aZ
          try have eL:=eL.ext aZ
          try have bq:=bq.ext aZ
          have lb16:=eG.lt;have bc:=Nat.le_trans bc aZ.size;refine NL (i:=17) (by kernel_rfl)$ N8 (i:=17) O O O (pap Mr Mi O (by decide) O O bq bQ.rd (λc hc=>di [e.2] c hc) (by omega) (by omega)) ?_;rintro v17 w17 ⟨en,bX,bF,-⟩;refine⟨ah.LS bX (λj e=>bh j e),?_⟩;have ah:=ah.LS bX (λj e=>bh j e);have bF:∀j,v17.ownBlock=some j->w4.heap.size<=j:=λj hj=>by rcases bF j hj with e|e;exact bh j e;omega
          have bc:=Nat.le_trans bc bX.size;refine NL (i:=21) (by kernel_rfl)$ N8 (i:=21) O O O (pap Mr Mi O (by decide) O O en ((P8 (i:=k) mc hk ij).ext ah) (λc hc=>di s c (List.mem_of_mem_drop hc)) (by omega) (by omega)) ?_;rintro v21 w21 ⟨bN,dJ,cN,-⟩;refine⟨ah.LS dJ (λj e=>bF j e),?_⟩;have ah:=ah.LS dJ (λj e=>bF j e);have cN:∀j,v21.ownBlock=some j->w4.heap.size<=j:=λj hj=>by rcases cN j hj with e|e;exact bF j e;omega
          refine qL [23] 22 O (λ_ h=>MS SN Pq O O (by omega)) ah ?_;have gp:=ah.LY nS;refine PH [23]$ qO 23$ MI (i:=23) O O (NT Pq O O (Tc bN) gp (by rw[jt];omega)) ?_;rintro w23 ⟨cT,cR⟩;refine⟨trivial,?_⟩;refine qE$ LV$ M0 O$ LW O$ MT O O$ M4 O ?_;rw[show 0+k+1+(s.length-k)=(s.take k++[e.2]++s.drop k).length by rw[lq];omega,show([]++List.take k (s.map Mx)++[Mx e.2]++List.drop k (s.map Mx))=(s.take k++[e.2]++s.drop k).map Mx by simp[List.map_take,List.map_drop]] at bN;obtain⟨ra,rc,rfl,-⟩:=bN.rd.shape
          have nW:(s.take k++[e.2]++s.drop k).length<=rc:=by
           rcases bN.shape with⟨e1,e2⟩|⟨gg,cc,e1,e2⟩
           ·omega
           ·cases e1;exact e2
          have nX:=(fD.ext ah).set cR (f:=e.1) (l:=s.take k++[e.2]++s.drop k) (a:=ra) (c:=rc) (λvs' h'=>by rw[M7.uniq h' gp];exact cT) (by omega) nW bN.rd (λj hj=>by have:=cN j hj;omega);have nY:=az.insert hs (x:=e.2) (k:=k) (by omega) hk gQ (oK qm);exact(ih (i+1,g.set e.1 (s.take k++[e.2]++s.drop k)) _ ⟨by omega,by rw[List.length_set];exact ev,nY,nX,(cn.trans ah).LS cR (λj e=>by omega)⟩ (by omega)).qb
         ·refine N8 (i:=16) O O O (SA (cs:=[_]) (zs:=[Value.int .u32 0]) Mr Mi O (by kernel_rfl) O O O (by decide)) ?_;rintro v16 w16 ⟨b16,rfl,⟨nU,aZ,eG⟩,bQ⟩;refine⟨ah.trans aZ,?_⟩;have nV:w4.heap.size<=b16:=by omega
          have ah:=ah.trans aZ
          try have eL:=eL.ext aZ
          try have bq:=bq.ext aZ
          have lb16:=eG.lt;have bc:=Nat.le_trans bc aZ.size;refine NL (i:=10) (by kernel_rfl)$ N8 (i:=10) O O O (pap Mr Mi O (by decide) O O eL ((PW (i:=k) mc hk).ext ah) (λc hc=>di s c (List.mem_of_mem_take hc)) (by omega) (by omega)) ?_;rintro v10 w10 ⟨bq,aq,bh,-⟩;refine⟨ah.LS aq (λj e=>by have e:b6=j:=NF e;omega),?_⟩;have ah:=ah.LS aq (λj e=>by have e:b6=j:=NF e;omega)
          try have bQ:=bQ.kp aq (λj hj e=>by have e:b6=j:=NF e;have hj:b16=j:=NF hj;omega)
          have bh:∀j,v10.ownBlock=some j->w4.heap.size<=j:=λj hj=>by rcases bh j hj with e|e;(have e:b6=j:=NF e;omega);omega
          have bc:=Nat.le_trans bc aq.size;have nT:=λ(j:Nat) (hj:v10.ownBlock=some j)=>bq.lt hj;refine NL (i:=17) (by kernel_rfl)$ N8 (i:=17) O O O (pap Mr Mi O (by decide) O O bq bQ.rd (λc hc=>di [e.2] c hc) (by omega) (by omega)) ?_;rintro v17 w17 ⟨en,bX,bF,-⟩;refine⟨ah.LS bX (λj e=>bh j e),?_⟩;have ah:=ah.LS bX (λj e=>bh j e);have bF:∀j,v17.ownBlock=some j->w4.heap.size<=j:=λj hj=>by rcases bF j hj with e|e;exact bh j e;omega
          have bc:=Nat.le_trans bc bX.size;refine NL (i:=21) (by kernel_rfl)$ N8 (i:=21) O O O (pap Mr Mi O (by decide) O O en ((P8 (i:=k) mc hk ij).ext ah) (λc hc=>di s c (List.mem_of_mem_drop hc)) (by omega) (by omega)) ?_;rintro v21 w21 ⟨bN,dJ,cN,-⟩;refine⟨ah.LS dJ (λj e=>bF j e),?_⟩;have ah:=ah.LS dJ (λj e=>bF j e);have cN:∀j,v21.ownBlock=some j->w4.heap.size<=j:=λj hj=>by rcases cN j hj with e|e;exact bF j e;omega
          refine qL [23] 22 O (λ_ h=>MS SN Pq O O (by omega)) ah ?_;have gp:=ah.LY nS;refine PH [23]$ qO 23$ MI (i:=23) O O (NT Pq O O (Tc bN) gp (by rw[jt];omega)) ?_;rintro w23 ⟨cT,cR⟩;refine⟨trivial,?_⟩;refine qE$ LV$ M0 O$ LW O$ MT O O$ M4 O ?_;rw[show 0+k+1+(s.length-k)=(s.take k++[e.2]++s.drop k).length by rw[lq];omega,show([]++List.take k (s.map Mx)++[Mx e.2]++List.drop k (s.map Mx))=(s.take k++[e.2]++s.drop k).map Mx by simp[List.map_take,List.map_drop]] at bN;obtain⟨ra,rc,rfl,-⟩:=bN.rd.shape
          have nW:(s.take k++[e.2]++s.drop k).length<=rc:=by
           rcases bN.shape with⟨e1,e2⟩|⟨gg,cc,e1,e2⟩
           ·omega
           ·cases e1;exact e2
          have nX:=(fD.ext ah).set cR (f:=e.1) (l:=s.take k++[e.2]++s.drop k) (a:=ra) (c:=rc) (λvs' h'=>by rw[M7.uniq h' gp];exact cT) (by omega) nW bN.rd (λj hj=>by have:=cN j hj;omega);have nY:=az.insert hs (x:=e.2) (k:=k) (by omega) hk gQ (oK qm);exact(ih (i+1,g.set e.1 (s.take k++[e.2]++s.drop k)) _ ⟨by omega,by rw[List.length_set];exact ev,nY,nX,(cn.trans ah).LS cR (λj e=>by omega)⟩ (by omega)).qb
        ·refine N8 (i:=16) O O O (SA (cs:=[_]) (zs:=[Value.int .u32 0]) Mr Mi O (by kernel_rfl) O O O (by decide)) ?_;rintro v16 w16 ⟨b16,rfl,⟨nU,aZ,eG⟩,bQ⟩;refine⟨ah.trans aZ,?_⟩;have nV:w4.heap.size<=b16:=by omega
         have ah:=ah.trans aZ
         try have eL:=eL.ext aZ
         try have bq:=bq.ext aZ
         have lb16:=eG.lt;have bc:=Nat.le_trans bc aZ.size;refine NL (i:=6) (by kernel_rfl)$ N8 (i:=6) O O O (SA (cs:=[]) (zs:=[]) Mr Mi O (by kernel_rfl) O O O (by decide)) ?_;rintro v6 w6 ⟨b6,rfl,⟨mn,aJ,aS⟩,eL⟩;refine⟨ah.trans aJ,?_⟩;have yD:w4.heap.size<=b6:=by omega
         have lb6:=aS.lt;have ah:=ah.trans aJ
         try have bQ:=bQ.ext aJ
         have bc:=Nat.le_trans bc aJ.size;refine NL (i:=10) (by kernel_rfl)$ N8 (i:=10) O O O (pap Mr Mi O (by decide) O O eL ((PW (i:=k) mc hk).ext ah) (λc hc=>di s c (List.mem_of_mem_take hc)) (by omega) (by omega)) ?_;rintro v10 w10 ⟨bq,aq,bh,-⟩;refine⟨ah.LS aq (λj e=>by have e:b6=j:=NF e;omega),?_⟩;have ah:=ah.LS aq (λj e=>by have e:b6=j:=NF e;omega)
         try have bQ:=bQ.kp aq (λj hj e=>by have e:b6=j:=NF e;have hj:b16=j:=NF hj;omega)
         have bh:∀j,v10.ownBlock=some j->w4.heap.size<=j:=λj hj=>by rcases bh j hj with e|e;(have e:b6=j:=NF e;omega);omega
         have bc:=Nat.le_trans bc aq.size;have nT:=λ(j:Nat) (hj:v10.ownBlock=some j)=>bq.lt hj;refine NL (i:=17) (by kernel_rfl)$ N8 (i:=17) O O O (pap Mr Mi O (by decide) O O bq bQ.rd (λc hc=>di [e.2] c hc) (by omega) (by omega)) ?_;rintro v17 w17 ⟨en,bX,bF,-⟩;refine⟨ah.LS bX (λj e=>bh j e),?_⟩;have ah:=ah.LS bX (λj e=>bh j e);have bF:∀j,v17.ownBlock=some j->w4.heap.size<=j:=λj hj=>by rcases bF j hj with e|e;exact bh j e;omega
         have bc:=Nat.le_trans bc bX.size;refine NL (i:=21) (by kernel_rfl)$ N8 (i:=21) O O O (pap Mr Mi O (by decide) O O en ((P8 (i:=k) mc hk ij).ext ah) (λc hc=>di s c (List.mem_of_mem_drop hc)) (by omega) (by omega)) ?_;rintro v21 w21 ⟨bN,dJ,cN,-⟩;refine⟨ah.LS dJ (λj e=>bF j e),?_⟩;have ah:=ah.LS dJ (λj e=>bF j e);have cN:∀j,v21.ownBlock=some j->w4.heap.size<=j:=λj hj=>by rcases cN j hj with e|e;exact bF j e;omega
         refine qL [23] 22 O (λ_ h=>MS SN Pq O O (by omega)) ah ?_;have gp:=ah.LY nS;refine PH [23]$ qO 23$ MI (i:=23) O O (NT Pq O O (Tc bN) gp (by rw[jt];omega)) ?_;rintro w23 ⟨cT,cR⟩;refine⟨trivial,?_⟩;refine qE$ LV$ M0 O$ LW O$ MT O O$ M4 O ?_;rw[show 0+k+1+(s.length-k)=(s.take k++[e.2]++s.drop k).length by rw[lq];omega,show([]++List.take k (s.map Mx)++[Mx e.2]++List.drop k (s.map Mx))=(s.take k++[e.2]++s.drop k).map Mx by simp[List.map_take,List.map_drop]] at bN;obtain⟨ra,rc,rfl,-⟩:=bN.rd.shape
         have nW:(s.take k++[e.2]++s.drop k).length<=rc:=by
          rcases bN.shape with⟨e1,e2⟩|⟨gg,cc,e1,e2⟩
          ·omega
          ·cases e1;exact e2
         have nX:=(fD.ext ah).set cR (f:=e.1) (l:=s.take k++[e.2]++s.drop k) (a:=ra) (c:=rc) (λvs' h'=>by rw[M7.uniq h' gp];exact cT) (by omega) nW bN.rd (λj hj=>by have:=cN j hj;omega);have nY:=az.insert hs (x:=e.2) (k:=k) (by omega) hk gQ (oK qm);exact(ih (i+1,g.set e.1 (s.take k++[e.2]++s.drop k)) _ ⟨by omega,by rw[List.length_set];exact ev,nY,nX,(cn.trans ah).LS cR (λj e=>by omega)⟩ (by omega)).qb
       ·refine py$ LV$ M0 O$ LW O$ MT O O$ M4 O ?_;exact(ih (i+1,g) _ ⟨by omega,ev,az,fD,cn⟩ (by omega)).qb
      case iE=>
       refine NV (λw'=>Ext w3 w') O$ Mj 0 O O (ae)$ Mj 1 O O (ae)$ M3 2 O (Pb Mr O) ae ?_;by_cases oA:k=s.length
       ·refine M3 3 O (yeq O O) ae$ QB$ Mj 4 O O (ae)$ qJ 5 O (ae)$ qJ 6 O (ae)$ qJ 7 O (ae)$ qJ 8 O (ae)$ qJ 9 O (ae)$ qJ 10 O (ae)$ qJ 11 O (ae)$ qJ 12 O (ae)$ qJ 13 O (ae)$ qJ 14 O (ae)$ M3 15 O (RM O O) ae ?_;refine qE ?_;exact(eu _ _ ⟨true,rfl,λ_ y hy=>(by rw[oA,List.drop_length] at hy;cases hy),ai.trans ae⟩).qb
       ·obtain⟨y,hy⟩:∃y,s[k]? =some y:=⟨_,List.getElem?_eq_getElem (by omega)⟩;rcases tM.2 with⟨⟨ca,cc⟩,fH,rk⟩|⟨lb,lo,cap,fH,dN⟩
        ·omega
        cases fH;have tO:w3.cell? ⟨lb,lo+k*1,none⟩=some (Mx y):=dN (k*1) _ (by rw[Nat.mul_one,List.getElem?_map,hy];rfl);refine M3 3 O (yeq O O) ae$ QT$ Mj 4 O O (ae)$ Mj 5 O O (ae)$ Mj 6 O O (ae)$ M3 7 O (MS Mr Mi O O (by omega)) ae$ Mj 9 O O (ae)$ Mj 10 O O (ae)$ M3 11 O (MS YT Qs O O (by omega)) ae$ M3 12 O (My Si O) ae$ qT 8 O (λ_ h=>MA Np O O (MJ h tO)) ae$ qT 13 O (λ_ h=>MA Np O O (MJ h tN)) ae ?_;have Ad:=iB y hy;by_cases uR:y=e.2
        ·refine M3 14 O (yne O O) ae$ QT$ M3 15 O (Ro O O) ae$ qE ?_;exact(eu _ _ ⟨false,rfl,λe=>(by cases e),ai.trans ae⟩).qb
        ·refine M3 14 O (yne O O) ae$ QB$ M3 15 O (Ro O O) ae$ qE ?_;exact(eu _ _ ⟨true,rfl,λ_ z hz=>(by have:=JJ k y hy z hz;omega),ai.trans ae⟩).qb
     case tP=>
      refine Oh (α:=Nat) (0) (λk=>[(0,I (n:Int)),(1,.slice (some ⟨eb,eo,none⟩) es.length ec),(5,.slice (some ⟨bg,0,none⟩) n n),(6,I (i:Int)),(7,.slice a s.length c),(8,I (k:Int))]) (λk w'=>k<=s.length/\(∀y∈s.take k,y<e.2)/\Ext w2 w') (λk=>s.length-k) ?hI ?hround
      case hI=>exact⟨Nat.zero_le _,λy hy=>(by simp at hy),Ext.refl _⟩
      case hround=>
       rintro k w3 ⟨hk,gQ,ai⟩ ih2;have ae:=Ext.Mm w3;have tM:=dQ.ext ai;have tN:=MJ ai dU
       try dsimp only
       refine run_seq$ run_seq$ NV (λw'=>Ext w3 w') O$ Mj 0 O O (ae)$ Mj 1 O O (ae)$ M3 2 O (Pb Mr O) ae ?_;by_cases jV:k<s.length
       ·obtain⟨y,hy⟩:∃y,s[k]? =some y:=⟨_,List.getElem?_eq_getElem jV⟩;rcases tM.2 with⟨⟨ca,cc⟩,fH,rk⟩|⟨lb,lo,cap,fH,dN⟩
        ·omega
        cases fH;have tO:w3.cell? ⟨lb,lo+k*1,none⟩=some (Mx y):=dN (k*1) _ (by rw[Nat.mul_one,List.getElem?_map,hy];rfl);refine M3 3 O (Xc O O) ae$ QB$ Mj 4 O O (ae)$ Mj 5 O O (ae)$ Mj 6 O O (ae)$ M3 7 O (MS Mr Mi O O (by omega)) ae$ Mj 9 O O (ae)$ Mj 10 O O (ae)$ M3 11 O (MS YT Qs O O (by omega)) ae$ M3 12 O (My Si O) ae$ qT 8 O (λ_ h=>MA Np O O (MJ h tO)) ae$ qT 13 O (λ_ h=>MA Np O O (MJ h tN)) ae ?_;by_cases Ad:y<e.2
        ·refine M3 14 O (Xc O O) ae$ QB$ M3 15 O (RM O O) ae$ qE$ M9 O$ py$ LU$ M0 O$ LW O$ MT O O$ M4 O$ LV ((ih2 (k+1) _ ⟨by omega,λz hz=>?_,ai.trans ae⟩ (by omega)).qb);rw[MP hy] at hz;rcases List.mem_append.1 hz with e'|e'
         ·exact gQ z e'
         ·rw[List.mem_singleton.1 e'];exact Ad
        ·refine M3 14 O (Xc O O) ae$ QT$ M3 15 O (RM O O) ae$ qE$ An O$ M6 O ?_;exact(jm _ _ ⟨k,rfl,hk,gQ,λz hz=>(by rw[hy] at hz;cases hz;omega),ai.trans ae⟩).qb
       ·refine M3 3 O (Xc O O) ae$ QT$ Mj 4 O O (ae)$ qJ 5 O (ae)$ qJ 6 O (ae)$ qJ 7 O (ae)$ qJ 8 O (ae)$ qJ 9 O (ae)$ qJ 10 O (ae)$ qJ 11 O (ae)$ qJ 12 O (ae)$ qJ 13 O (ae)$ qJ 14 O (ae)$ M3 15 O (Ro O O) ae ?_;refine qE$ An O$ M6 O ?_;exact(jm _ _ ⟨k,rfl,hk,gQ,λz hz=>(by rw[List.getElem?_eq_none (by omega)] at hz;cases hz),ai.trans ae⟩).qb
    ·refine PD O O$ ML$ Md O O$ LW O$ qV (MS YT Qs O O (by omega))$ Ma Si O$ qV (MA Np O O dU)$ qV (MK O Np U3 (by omega))$ LW O$ PD O O$ O4$ MN O O$ LX$ M9 O ?_;refine M6 O$ M0 O$ LW O$ MT O O$ M4 O ?_;exact(ih (i+1,g) _ ⟨by omega,ev,az,cI,af⟩ (by omega)).qb
   ·refine PD O O$ O4$ LW O$ qS$ qS$ qS$ qS$ qS$ qS$ qS$ qS$ NC O O$ LX$ M9 O ?_;refine M6 O$ M0 O$ LW O$ MT O O$ M4 O ?_;exact(ih (i+1,g) _ ⟨by omega,ev,az,cI,af⟩ (by omega)).qb
  ·refine M6 O$ qN O$ LW O$ M4 O$ LZ Tryz.func24 O ?_;exact⟨_,rfl,g,bg,by rw[ev];rfl,ev,az,cI,af⟩
def S0 (g:List (List Nat))(v i u:Nat):List Nat:=(List.range v).filter (λx=>decide (u∈Mg g x))++(if u∈(Mg g v).take i then [v] else [])
def R9 (g:List (List Nat))(v i:Nat):List (List Nat):=(List.range g.length).map (S0 g v i)
def TV (g:List (List Nat)):List (List Nat):=R9 g g.length 0
theorem z22 (g:List (List Nat))(v u:Nat):S0 g v (Mg g v).length u=S0 g (v+1) 0 u:=by
 unfold S0
 rw[List.take_length,List.range_succ,List.filter_append]
 by_cases h:u∈Mg g v<;>simp[h]
theorem PQ (g:List (List Nat))(v i:Nat):(R9 g v i).length=g.length:=by simp[R9]
theorem S1 (g:List (List Nat))(v i:Nat){u:Nat}(hu:u<g.length):(R9 g v i)[u]? =some (S0 g v i u):=by
 unfold R9
 rw[List.getElem?_map,List.getElem?_range hu];rfl
theorem z4M (g:List (List Nat))(v i u:Nat):(S0 g v i u).length<=v+1:=by
 unfold S0
 have h1:=List.length_filter_le (λx=>decide (u∈Mg g x)) (List.range v)
 rw[List.length_range] at h1
 rw[List.length_append]
 split<;>simp<;>omega
theorem z6g {g:List (List Nat)}(az:P9 g){v i u:Nat}(hu:(Mg g v)[i]? =some u):(R9 g v i).set u (S0 g v i u++[v])=R9 g v (i+1):=by
 have oN:=Qr az v u (List.mem_of_getElem? hu)
 have fw:u∉(Mg g v).take i:=λh=>by
  have gn:v<g.length:=by
   rcases Nat.lt_or_ge v g.length with h| h
   ·exact h
   ·unfold Mg at hu;rw[List.getElem?_eq_none h] at hu;cases hu
  have hr:List.Pairwise (·<·) (Mg g v):=by
   unfold Mg;rw[List.getElem?_eq_getElem gn];exact(az.ok _ (List.getElem_mem gn)).W4
  have h2:=MP hu;have h3:List.Pairwise (·<·) ((Mg g v).take (i+1)):=hr.sublist (List.take_sublist _ _);rw[h2,List.pairwise_append] at h3;have:=h3.2.2 u h u List.mem_cons_self;omega
 apply List.ext_getElem?
 intro x
 by_cases hx:u=x
 ·subst hx;rw[List.getElem?_set_self (by rw[PQ];exact oN),S1 _ _ _ oN]
  congr 1
  unfold S0;rw[if_neg fw,List.append_nil,MP hu,if_pos (by simp)]
 ·rw[List.getElem?_set_ne hx];by_cases i5:x<g.length
  ·rw[S1 _ _ _ i5,S1 _ _ _ i5]
   congr 1
   unfold S0
   congr 1
   rw[MP hu]
   have:x∈(Mg g v).take i++[u]↔x∈(Mg g v).take i:=by
    rw[List.mem_append,List.mem_singleton];exact⟨λe=>e.resolve_right λe=>hx e.symm,.inl⟩
   simp only[this]
  ·rw[List.getElem?_eq_none (by rw[PQ];omega),List.getElem?_eq_none (by rw[PQ];omega)]
theorem z5E (g:List (List Nat)){u:Nat}(hu:u<g.length):(TV g)[u]? =some ((List.range g.length).filter λx=>decide (u∈Mg g x)):=by
 unfold TV
 rw[S1 _ _ _ hu]
 unfold S0
 rw[List.take_zero,if_neg (by simp),List.append_nil]
theorem Vg (g:List (List Nat)):(TV g).length=g.length:=PQ _ _ _
theorem z6O {g:List (List Nat)}(h:P9 g):P9 (TV g):=by
 have hl:=Vg g
 have gh:∀l∈TV g,∃u,l=(List.range g.length).filter λx=>decide (u∈Mg g x):=λl hm=>by
  obtain⟨u,hu⟩:=List.getElem?_of_mem hm
  have oN:u<g.length:=by
   rcases Nat.lt_or_ge u g.length with h| h
   ·exact h
   ·rw[List.getElem?_eq_none (by omega)] at hu;cases hu
  rw[z5E g oN] at hu;exact⟨u,(NF hu).symm⟩
 have hn:=h.n
 refine⟨λl hm=>?_,λl hm y hy=>?_,by omega⟩
 ·obtain⟨u,rfl⟩:=gh l hm;exact⟨(List.pairwise_lt_range).sublist List.filter_sublist,λy hy=>by have:=List.mem_range.1 (List.mem_filter.1 hy).1;omega⟩
 ·obtain⟨u,rfl⟩:=gh l hm;have:=List.mem_range.1 (List.mem_filter.1 hy).1;omega
structure RwA (w:World)(bg B:Nat)(L:List (List Nat)):Prop where
 ex:∃vs:List Value,M7 w bg vs 45/\vs.length=L.length/\(∀(i:Nat) (l:List Nat),L[i]? =some l->∃v:Value,vs[i]? =some v/\Sl w v 46 1 l.length (l.map Mx)/\∀b,v.ownBlock=some b->B<=b/\b≠bg)/\∀(i j:Nat) (vi vj:Value) (b:Nat),i≠j->vs[i]? =some vi->vs[j]? =some vj->vi.ownBlock=some b->vj.ownBlock≠some b
section
variable {w w':World}{bg B:Nat}{L:List (List Nat)}
theorem RwA.new {n:Nat}(h:M7 w bg (List.replicate n (.slice none 0 0)) 45):RwA w bg B (List.replicate n []):=by
 refine⟨_,h,by simp,λi l hl=>?_,λi j vi vj b _ hi _ hb=>?_⟩
 ·rw[List.getElem?_replicate] at hl;split at hl
  ·rename_i hi
   cases hl;exact⟨.slice none 0 0,by rw[List.getElem?_replicate,if_pos hi],Sl.nil w _ 1,λb hb=>by cases hb⟩
  ·cases hl
 ·have:=List.mem_of_getElem? hi;rw[List.eq_of_mem_replicate this] at hb;cases hb
theorem RwA.rw (h:RwA w bg B L):VW w bg B L:=by
 obtain⟨vs,h1,h2,h3,h4⟩:=h.ex
 refine⟨vs,h1,h2,λi l hl=>?_⟩
 obtain⟨v,g1,g2,g3⟩:=h3 i l hl
 obtain⟨a,c,rfl,-⟩:=g2.rd.shape
 refine⟨a,c,g1,?_,g2.rd,g3⟩
 rcases g2.shape with⟨e1,e2⟩|⟨gg,cc,e1,e2⟩
 ·omega
 ·cases e1;exact e2
theorem RwA.put {w2:World}(h:RwA w bg B L){u:Nat}{l l':List Nat}{v v':Value}{vs:List Value}(nS:M7 w bg vs 45)(hu:L[u]? =some l)(hv:vs[u]? =some v)(hk:Kp (λb=>v.ownBlock=some b) w w')(hS:Sl w' v' 46 1 l'.length (l'.map Mx))(ho:∀b,v'.ownBlock=some b->v.ownBlock=some b\/w.heap.size<=b)(ao:Kp (λb=>b=bg) w' w2)(hB:M7 w2 bg (vs.set (0+u*1) v') 45)(i8:B<=w.heap.size):RwA w2 bg B (L.set u l'):=by
 obtain⟨vs0,h1,h2,h3,h4⟩:=h.ex
 have e0:=h1.uniq nS
 subst e0
 rw[Nat.zero_add,Nat.mul_one] at hB
 obtain⟨v0,g1,g2,g3⟩:=h3 u l hu
 rw[hv] at g1
 cases g1
 have fj:=h1.lt
 have rS:u<L.length:=by
  rcases Nat.lt_or_ge u L.length with h| h
  ·exact h
  ·rw[List.getElem?_eq_none h] at hu;cases hu
 have zd:∀b,v'.ownBlock=some b->B<=b/\b≠bg:=λb hb=>by
  rcases ho b hb with e| e
  ·exact g3 b e
  ·omega
 have aP:∀(j:Nat) (vj:Value) (b:Nat),vs0[j]? =some vj->vj.ownBlock=some b->b<w.heap.size:=λj vj b hj hb=>by
  obtain⟨lj,JK⟩:∃lj,L[j]? =some lj:=⟨_,List.getElem?_eq_getElem (by
   rw[<-h2];rcases Nat.lt_or_ge j vs0.length with h| h
   ·exact h
   ·rw[List.getElem?_eq_none h] at hj;cases hj)⟩
  obtain⟨vj',k1,k2,-⟩:=h3 j lj JK;rw[hj] at k1;cases k1;exact k2.lt hb
 refine⟨_,hB,by simp[h2],λi li hl=>?_,λi j vi vj b i7 hi hj hb=>?_⟩
 ·by_cases e:u=i
  ·subst e;rw[List.getElem?_set_self rS] at hl;cases hl;exact⟨v',List.getElem?_set_self (by rw[h2];exact rS),hS.kp ao (λb hb e=>(zd b hb).2 e),zd⟩
  ·rw[List.getElem?_set_ne e] at hl;obtain⟨vi,k1,k2,k3⟩:=h3 i li hl;exact⟨vi,by rw[List.getElem?_set_ne e];exact k1,(k2.kp hk (λb hb e2=>h4 u i v vi b e hv k1 e2 hb)).kp ao (λb hb e=>(k3 b hb).2 e),k3⟩
 ·by_cases ei:u=i
  ·subst ei;rw[List.getElem?_set_self (by rw[h2];exact rS)] at hi;cases hi;rw[List.getElem?_set_ne i7] at hj;intro bY;rcases ho b hb with e| e
   ·exact h4 u j v vj b i7 hv hj e bY
   ·have:=aP j vj b hj bY;omega
  ·rw[List.getElem?_set_ne ei] at hi;by_cases ej:u=j
   ·subst ej;rw[List.getElem?_set_self (by rw[h2];exact rS)] at hj;cases hj;intro bY;rcases ho b bY with e| e
    ·exact h4 i u vi v b i7 hi hv hb e
    ·have:=aP i vi b hi hb;omega
   ·rw[List.getElem?_set_ne ej] at hj;exact h4 i j vi vj b i7 hi hj hb
end
theorem z2k {g:List (List Nat)}(az:P9 g){w:World}{gb go gc:Nat}(hg:GrR w gb go g):Mw Tryz.prog 32 [.slice (some ⟨gb,go,none⟩) g.length gc] w λv w'=>∃bt,v= .slice (some ⟨bt,0,none⟩) g.length g.length/\VW w' bt w.heap.size (TV g)/\Ext w w':=by
 have eH:maxLen=9223372036854775807:=rfl
 have hn:=az.n
 refine It (e:=[(0,_)]) Tryz.func32 O Tryz.ntmps32 O O$ qN O$ Me O$ qM O$ LW O$ O9 SN O$ M5 O O (pmk (c:=g.length) (n:=g.length) SN Pq O O O (by omega) (by omega) (by omega)) ?_
 rintro _ w1 ⟨bt,rfl,⟨oH,ad,aj⟩,-⟩
 have kH:RwA w1 bt w.heap.size (R9 g 0 0):=by
  have e:R9 g 0 0=List.replicate g.length []:=by
   apply List.ext_getElem<;>simp[R9,S0]
  rw[e];exact RwA.new aj
 refine M4 O$ run_seq$ qN O$ M4 O$ LU$ Oh (α:=Nat) (0) (λv=>[(0,.slice (some ⟨gb,go,none⟩) g.length gc),(3,.slice (some ⟨bt,0,none⟩) g.length g.length),(4,I (v:Int))]) (λv w'=>v<=g.length/\RwA w' bt w.heap.size (R9 g v 0)/\Ext w w') (λv=>g.length-v) ?hI ?hround
 case hI=>exact⟨Nat.zero_le _,kH,ad⟩
 case hround =>
  rintro v w2 ⟨hv,cI,af⟩ ih
  try dsimp only
  refine run_seq$ qN O$ Md O O$ O9 SN O$ Ni O O$ LX$ M8 O (λhq=>?_)$ λhq=>?_
  ·have gn:v<g.length:=by omega
   have ev:g[v]? =some (Mg g v):=by unfold Mg;rw[List.getElem?_eq_getElem gn];rfl
   have fT:(Mg g v).length<=g.length:=az.len (List.mem_of_getElem? ev);refine py$ run_seq$ LU$ qN O$ M4 O$ LU$ Oh (α:=Nat) (0) (λi=>[(0,.slice (some ⟨gb,go,none⟩) g.length gc),(3,.slice (some ⟨bt,0,none⟩) g.length g.length),(4,I (v:Int)),(5,I (i:Int))]) (λi w'=>i<=(Mg g v).length/\RwA w' bt w.heap.size (R9 g v i)/\Ext w w') (λi=>(Mg g v).length-i) ?hI ?hround
   case hI=>exact⟨Nat.zero_le _,cI,af⟩
   case hround=>
    rintro i w3 ⟨hi,ld,ai⟩ ih2;obtain⟨a,c,dP,dU⟩:=hg v _ ev;have ae:=Ext.Mm w3
    try dsimp only
    refine run_seq$ qN O$ Md O O$ LW O$ qV (MS SN Pq O O (by omega))$ qV (MA Mr O O (MJ ai dP))$ O9 Mr O$ Ni O O$ LX$ M8 O (λfR=>?_)$ λfR=>?_
    ·obtain⟨u,hu⟩:∃u,(Mg g v)[i]? =some u:=⟨_,List.getElem?_eq_getElem (by omega)⟩;obtain⟨lb,lo,rfl,uJ⟩:=dU i u hu;have oN:u<g.length:=Qr az v u (List.mem_of_getElem? hu);have Gw:=S1 g v i oN;have mu:=z4M g v i u;obtain⟨vs,nS,jt,jx,JL⟩:=id ld.ex;obtain⟨vu,Gx,JM,Ae⟩:=jx u _ Gw
     have JN:∀{w':World},Kp (λb=>vu.ownBlock=some b) w3 w'->w'.cell? ⟨bt,0+u*1,none⟩=some vu:=λhk=>by
      rw[(hk.LY nS (λe=>(Ae _ e).2 O)).cell,Nat.zero_add,Nat.mul_one];exact Gx
     have z3:=ai.size;refine py$ run_seq$ LU ?_;have oO:∀{w':World},Kp (λb=>vu.ownBlock=some b) w3 w'->Ext w w':=λhk=>ai.LS hk (λb e=>(Ae b e).1);refine Mo [23] (λw'=>Kp (λb=>vu.ownBlock=some b) w3 w') (by kernel_rfl) O$ qL [22,23] 0 O (λ_ h=>MH O) (ae.kp)$ qL [3,4,6,7,22,23] 1 O (λ_ h=>MH O) (ae.kp)$ qL [3,4,6,7,22,23] 2 O (λ_ h=>MH O) (ae.kp)$ qL [4,6,7,22,23] 3 O (λ_ h=>MS SN Pq O O (by omega)) (ae.kp)$ qL [6,7,22,23] 5 O (λ_ h=>MH O) (ae.kp)$ qL [16,17,21,22,23] 8 O (λ_ h=>MH O) (ae.kp)$ qL [11,12,14,15,16,17,21,22,23] 9 O (λ_ h=>MH O) (ae.kp)$ qL [11,12,14,15,16,17,21,22,23] 10 O (λ_ h=>MH O) (ae.kp)$ qL [12,14,15,16,17,21,22,23] 11 O (λ_ h=>MS SN Pq O O (by omega)) (ae.kp)$ qL [14,15,16,17,21,22,23] 13 O (λ_ h=>MH O) (ae.kp)$ qL [19,20,21,22,23] 18 O (λ_ h=>MH O) (ae.kp)$ qL [20,21,22,23] 19 O (λ_ h=>Xb O U3 Np) (ae.kp)$ qL [6,7,22,23] 4 O (λ_ h=>MA Mr O O (MJ (oO h) dP)) (ae.kp) ?_;refine qL [14,15,16,17,21,22,23] 12 O (λ_ h=>MA Mr O O (MJ (oO h) dP)) (ae.kp)$ qL [7,22,23] 6 O (λ_ h=>MS Mr Mi O O (by omega)) (ae.kp)$ qL [15,16,17,21,22,23] 14 O (λ_ h=>MS Mr Mi O O (by omega)) (ae.kp)$ qL [22,23] 7 O (λ_ h=>MA Np O O (MJ (oO h) uJ)) (ae.kp)$ qL [16,17,21,22,23] 15 O (λ_ h=>MA Np O O (MJ (oO h) uJ)) (ae.kp)$ qL [17,21,22,23] 16 O (λ_ h=>MS SN Pq O O (by omega)) (ae.kp)$ qL [21,22,23] 17 O (λ_ h=>MA Mr O O (JN h)) (ae.kp) ?_;rw[Nat.mod_eq_of_lt (show v<4294967296 by omega)];refine NL (i:=20) (by kernel_rfl)$ N8 (i:=20) O O O (SA (cs:=[_]) (zs:=[Value.int .u32 0]) Mr Mi O (by kernel_rfl) O O O (by decide)) ?_;rintro v4 w4 ⟨b4,rfl,⟨f9,ay,aH⟩,dV⟩;refine⟨ae.kp.trans ay.kp,?_⟩;have cx:=ae.trans ay;refine NL (i:=21) (by kernel_rfl)$ N8 (i:=21) O O O (pap Mr Mi O (by decide) O O (JM.ext cx) dV.rd (λc hc=>by obtain⟨z,-,rfl⟩:=List.mem_map.1 (show c∈[v].map Mx from hc);rfl) (by omega) (by omega)) ?_;rintro v5 w5 ⟨fC,ak,pn,-⟩;refine⟨cx.kp.trans ak,?_⟩;have jf:Kp (λb=>vu.ownBlock=some b) w3 w5:=cx.kp.trans ak;have z34:=cx.size;have Ec:=jf.LY nS (λe=>(Ae _ e).2 O);refine qL [23] 22 O (λ_ h=>MS SN Pq O O (by omega)) (cx.kp.trans ak)$ PH [23]$ qO 23$ MI (i:=23) O O (NT Pq O O (Tc fC) Ec (by rw[jt,PQ];omega)) ?_;rintro w6 ⟨aS,aR⟩;refine⟨trivial,?_⟩;have kU:=ld.put (l':=S0 g v i u++[v]) nS Gw Gx jf (by rw[List.length_append,List.map_append];exact fC) (λb hb=>(pn b hb).imp id λe=>by omega) aR aS z3;rw[z6g az hu] at kU;refine qE$ LV$ M0 O$ LW O$ MT O O$ M4 O ?_;exact(ih2 (i+1) _ ⟨by omega,kU,(ai.LS jf (λb e=>(Ae b e).1)).LS aR (λb e=>by omega)⟩ (by omega)).qb
    ·have cy:i=(Mg g v).length:=by omega
     subst cy;refine M6 O$ LV$ M0 O$ LW O$ MT O O$ M4 O ?_
     have e:R9 g v (Mg g v).length=R9 g (v+1) 0:=by
      unfold R9;exact List.map_congr_left λu _=>z22 g v u
     exact(ih (v+1) _ ⟨by omega,by rw[<-e];exact ld,ai⟩ (by omega)).qb
  ·have gn:v=g.length:=by omega
   subst gn;refine M6 O$ qN O$ LW O$ M4 O$ LZ Tryz.func32 O ?_;exact⟨_,rfl,bt,rfl,cI.rw,af⟩
theorem Zu (z:Int)(hz: -9223372036854775808<=z/\z<=9223372036854775807)(w:World):Mw Tryz.prog 25 [I z] w λv w'=>∃n:Nat,v=I (n:Int)/\1<=n/\n<=40/\w'=w:=by
 have r1:=R7 z 40 (by decide)
 have r2:=Tn z 40 (by decide)
 refine It (e:=[(0,_)]) Tryz.func25 O Tryz.ntmps25 O O$ qN O$ Me O$ qM O$ LW O$ qV (yrt O O (by decide))$ MT O O$ qV (yrt O O (by decide)) ?_
 rw[show(z.tmod 40+40).tmod 40=nrm z 40 from rfl]
 refine MT O O$ M4 O$ LZ Tryz.func25 O ?_
 exact⟨_,rfl,(1+nrm z 40).toNat,by rw[Int.toNat_of_nonneg (by omega)];rfl,by omega,by omega,rfl⟩
def z47:Nb:=⟨7,3,3,3,64⟩
def z4D:Nb:=⟨0,0,2,1,64⟩
def z4z:Nb:=⟨2,1,4,2,3⟩
theorem z14 (z:Int)(hz: -9223372036854775808<=z/\z<=9223372036854775807)(w:World):Mw Tryz.prog 31 [I z] w λv w'=>∃p:Nb,v=bpV p/\p.Nj/\p.zeta<=3/\Ext w w':=by
 have r1:=R7 z 3 (by decide)
 have r2:=Tn z 3 (by decide)
 refine It (e:=[(0,_)]) Tryz.func31 O Tryz.ntmps31 O O$ qN O$ M5 O O (Oo (cs:=[_,_,_,_,_]) Oi O) ?_
 rintro _ w1 ⟨b2,rfl,bY,ad,aj⟩
 refine qM O$ qV (OO (cs:=[_,_,_,_,_]) Oi O z8B O O)$ qV (OO (cs:=[_,_,_,_,_]) Oi O z8B O O)$ qV (OO (cs:=[_,_,_,_,_]) Oi O z8B O O)$ M5 O O (SA (cs:=[_,_,_,_,_,_,_,_,_,_,_,_,_,_,_]) (zs:=[Value.int .i64 0,Value.int .i64 0,Value.int .i64 0,Value.int .i64 0,Value.int .i64 0,Value.int .i64 0,Value.int .i64 0,Value.int .i64 0,Value.int .i64 0,Value.int .i64 0,Value.int .i64 0,Value.int .i64 0,Value.int .i64 0,Value.int .i64 0,Value.int .i64 0]) z9z Oi O (by kernel_rfl) O O O (by decide)) ?_
 rintro _ w2 ⟨b3,rfl,⟨ek,af,am⟩,-⟩
 refine LW O$ qV (yrt O O (by decide))$ MT O O$ qV (yrt O O (by decide)) ?_
 rw[show(z.tmod 3+3).tmod 3=nrm z 3 from rfl]
 have fK:=af.LY aj
 have Ed:nrm z 3=((0:Nat):Int)\/nrm z 3=((1:Nat):Int)\/nrm z 3=((2:Nat):Int):=by omega
 have lb:=aj.lt
 rcases Ed with e|e| e
 ·rw[e];refine qV (MS z9z Oi O O (by omega))$ qV (Mv (news:=RR z47) Y4 O Oi O (M7.cells (i:=0+0*5) (n:=5) am O) O)$ Mb O (MO (news:=RR z47) Oi O O O O fK (by simp)) ?_;rintro w3 ⟨ar,au⟩;refine LX$ Mt Tryz.func31 (.cell Y4 O Oi O (M7.cells (n:=5) ar (news:=[_,_,_,_,_]) O) O .nil) ?_;exact⟨_,rfl,z47,rfl,by unfold Nb.Nj OE.Nj z47 Nb.list;decide,by decide,(ad.trans af).LS au (λj e=>by omega)⟩
 ·rw[e];refine qV (MS z9z Oi O O (by omega))$ qV (Mv (news:=RR z4D) Y4 O Oi O (M7.cells (i:=0+1*5) (n:=5) am O) O)$ Mb O (MO (news:=RR z4D) Oi O O O O fK (by simp)) ?_;rintro w3 ⟨ar,au⟩;refine LX$ Mt Tryz.func31 (.cell Y4 O Oi O (M7.cells (n:=5) ar (news:=[_,_,_,_,_]) O) O .nil) ?_;exact⟨_,rfl,z4D,rfl,by unfold Nb.Nj OE.Nj z4D Nb.list;decide,by decide,(ad.trans af).LS au (λj e=>by omega)⟩
 ·rw[e];refine qV (MS z9z Oi O O (by omega))$ qV (Mv (news:=RR z4z) Y4 O Oi O (M7.cells (i:=0+2*5) (n:=5) am O) O)$ Mb O (MO (news:=RR z4z) Oi O O O O fK (by simp)) ?_;rintro w3 ⟨ar,au⟩;refine LX$ Mt Tryz.func31 (.cell Y4 O Oi O (M7.cells (n:=5) ar (news:=[_,_,_,_,_]) O) O .nil) ?_;exact⟨_,rfl,z4z,rfl,by unfold Nb.Nj OE.Nj z4z Nb.list;decide,by decide,(ad.trans af).LS au (λj e=>by omega)⟩
theorem Qw {L:List Bool}{s n:Nat}{b:Bool}(h:s+n<=L.length)(i:Nat):(NU L s n b)[i]? =if s<=i/\i<s+n then some b else L[i]? :=by
 unfold NU
 have hl:(L.take s).length=s:=by rw[List.length_take];omega
 by_cases h1:i<s
 ·rw[if_neg (by omega),List.getElem?_append_left (by omega),List.getElem?_take_of_lt h1]
 ·rw[List.getElem?_append_right (by omega),hl];by_cases h2:i<s+n
  ·rw[if_pos (by omega),List.getElem?_append_left (by rw[List.length_replicate];omega),List.getElem?_replicate,if_pos (by omega)]
  ·rw[if_neg (by omega),List.getElem?_append_right (by rw[List.length_replicate];omega),List.length_replicate,List.getElem?_drop]
   congr 1
   omega
theorem X9 {L:List Bool}{a n:Nat}(h:Pre L a)(hn:a+n<=L.length):Pre (NU L a n true) (a+n):=by
 have h2:=h.a2
 refine⟨by omega,by rw[NP hn];exact hn,λi h1 h3=>?_,λi h1 h3=>?_⟩
 ·rw[Qw hn];split
  ·rfl
  ·exact h.tk i h1 (by omega)
 ·rw[NP hn] at h3;rw[Qw hn,if_neg (by omega)];exact h.fr i (by omega) h3
theorem z0F {Q:Ol}{txt:Int->Bytes}{K:Nat}{X:Nat->Prop}{w:World}(hP:Sp Q txt K X w)(hX:∀b,X b->b<w.heap.size)(hK:K<=90000000000)(x1:X 0)(x2:X 1)(hG:M7 w 0 (OZ .gamma) 260)(hU:M7 w 1 (OZ .unary) 260){g:List (List Nat)}(az:P9 g)(aw:1<=g.length)(iG:g.length<=40){ga:Option Addr}{gc:Nat}(kW:GrM w (.slice ga g.length gc) g){p:Nb}(hp:p.Nj)(hz:p.zeta<=3){a:Nat}(ha:Pre Q.L a)(hH:a+72<=Q.L.length):
  Mw Tryz.prog 30 [ptr Q.s 0,.slice ga g.length gc,bpV p] w λv w'=>∃(G:WR) (txt':Int->Bytes),v= .tuple #[ptr G.k 0,.bool true]/\G.g=g/\G.st=a/\G.len<=72/\1<=G.len/\(w.heap.size<=G.k/\w.heap.size<=G.x/\w.heap.size<=G.rb)/\OD G (Q.Nr (NU Q.L a G.len true)) txt' (K+200) (λj=>X j\/j=G.x\/j=G.k) w'/\(∀y:Int,y<(a:Int)\/(a:Int)+(G.len:Int)<=y->txt' y=txt y)/\Kp (λb=>¬X b) w w':=by
 have dT:=hP.n
 refine It (e:=[(0,_),(1,_),(2,_)]) Tryz.func30 O Tryz.ntmps30 O O$ qN O$ M5 O O (O2 O (cs:=RR p) O) ?_
 rintro _ w1 ⟨bp,rfl,LC,ad,pi⟩
 refine Me O$ Me O$ qM O$ LW O$ qV (Mv (news:=RR p) Y4 O Oi O (M7.cells (i:=0) (n:=5) pi O) O)$ Mn zgh O (z2d hp az aw (kW.ext ad) (ad.LY hG) (ad.LY hU)) ?_
 rintro _ w2 ⟨E,JO,rfl,af⟩
 have zM:Py p g E:=⟨hp,az,aw,JO⟩
 have JP:=z7T zM iG hz
 obtain⟨T,hT⟩:∃T,Ug p g E=T:=⟨_,rfl⟩
 rw[hT] at JP⊢
 have aG:=ad.trans af
 have eh:=hP.ext' aG
 refine LW O$ N5 O O$ N5 O O$ Me O$ M4 O$ run_seq$ qN O$ LW O$ N9 O O$ LX$ An O$ py$ qN O$ LW O ?_
 refine Mn z0Y O (eh.size) ?_
 rintro _ w2 ⟨rfl,rfl⟩
 refine LW O$ qV (Rr U9 O)$ Mn zfs O (ZZ T.length (by omega) _) ?_
 rintro _ w2 ⟨rfl,rfl⟩
 obtain⟨N,hN⟩:∃N,(T.length+523) / 512=N:=⟨_,rfl⟩
 rw[hN]
 have jb:1<=N/\N<=72/\T.length<=N*512-12:=by omega
 refine LW O$ N5 O O$ N5 O O$ Me O$ M4 O$ Mz.qb (e:=[(0,_),(6,_),(7,_),(8,_),(9,_),(10,_)]) ?_
 refine run_seq$ qN O$ LW O$ N9 O O ?_
 have gB:∀b,X b->b<w2.heap.size:=λb hb=>by have:=hX b hb;have:=aG.size;omega
 refine LX$ An O$ py$ qN O$ Md O O$ Mn ze9 O (eh.take gB ha jb.1 (by omega)) ?_
 rintro _ w3 ⟨rfl,fx,au⟩
 have fd:(NU Q.L a N true).length=Q.L.length:=NP (by omega)
 obtain⟨Q3,Af⟩:∃Q3,Q.Nr (NU Q.L a N true)=Q3:=⟨_,rfl⟩
 rw[Af] at fx
 have vE:Q3.s=Q.s:=by rw[<-Af];rfl
 have JQ:Q3.L.length=Q.L.length:=by rw[<-Af];exact fd
 rw[<-vE]
 have z3:=au.size
 have eX:∀b,X b->b<w3.heap.size:=λb hb=>by have:=gB b hb;omega
 refine LW O$ N5 O O$ N5 O O$ M5 O O (Oo (cs:=[_,_]) NO O) ?_
 rintro _ w4 ⟨be,rfl,xL,ay,eO⟩
 refine Mb O (MO (news:=[I (a:Int),I (N:Int)]) NO O O O O eO (by simp)) ?_
 rintro w5 ⟨nZ,ak⟩
 replace nZ:M7 w5 be [I (a:Int),I (N:Int)] 108:=nZ
 have co:Ext w3 w5:=ay.LS ak (λj e=>by omega)
 refine M4 O$ run_seq$ qN O$ LW O$ N9 O O ?_
 have gA:Sp Q3 txt K (λb=>X b\/b=be) w5:=fx.ext co (λb e=>e.imp id λe=>by omega)
 refine LX$ An O$ py$ qN O$ LW O$ qV (Mv (news:=[I (a:Int),I (N:Int)]) SO O NO O (M7.cells (i:=0) (n:=2) nZ O) O)$ Mn zgE O (ZL gA jb.1 (by omega)) ?_
 rintro _ w6 ⟨wb,bs,bx,bw,sum,rfl,gI,yE,⟨z1',z2',z3',z4'⟩,aJ⟩
 have z5:=co.size
 have z6:=aJ.size
 have lbe:=nZ.lt
 obtain⟨X6,nP⟩:∃X6:Nat->Prop,(λb=>X b\/b=be\/b=wb\/b=bs\/b=bx\/b=bw)=X6:=⟨_,rfl⟩
 have fh:∀b,X b->X6 b:=λb hb=>by rw[<-nP];exact .inl hb
 have aU:X6 wb/\X6 bs/\X6 bx/\X6 bw:=by rw[<-nP];exact⟨.inr (.inr (.inl O)),.inr (.inr (.inr (.inl O))),.inr (.inr (.inr (.inr (.inl O)))),.inr (.inr (.inr (.inr (.inr O))))⟩
 have Ee:X6 be:=by rw[<-nP];exact .inr (.inl O)
 have qk:Sp Q3 txt K X6 w6:=gA.ext aJ (λb e=>by
  rw[<-nP] at e;rcases e with e|e| e
  ·exact .inl (.inl e)
  ·exact .inl (.inr e)
  ·exact .inr (by omega))
 have l1:=yE.wr.lt
 have l2:=yE.sb.lt
 have l3:=yE.xb.lt
 have l4:=yE.pb.lt
 have qn:∀b,X6 b->b<w6.heap.size:=λb e=>by
  rw[<-nP] at e;rcases e with e| e
  ·have:=eX b e;omega
  ·omega
 have Ef:be≠wb:=by omega
 refine LW O$ N5 O O$ N5 O O$ Me O$ M4 O$ run_seq$ qN O$ LW O$ N9 O O$ Md O O$ LW O$ Mn zg7 O (z0I qk qn (by omega) yE gI aU (by omega) jb.1 jb.2.2) ?_
 rintro _ w7 ⟨rfl,sum7,rB,txt7,rest,yu,ie,i9,Eg,Eh,aD,rX⟩
 have z7:=aD.size
 refine N9 O O$ MN O O$ Md O O$ Mn zgI O (z0N yu (λb e=>by have:=qn b e;omega) (by omega) ie rB aU (by omega) hN.symm (by rw[show T.length%512=T.length-512*(T.length / 512) by omega];exact i9) (λb hb e=>by have:=qn b e;have:=rX b hb;omega) Eg) ?_
 rintro _ w8 ⟨rfl,txt8,oD,Ei,Ej,Ag,bz⟩
 have z8:=bz.size
 have oV:Kp (λb=>¬X6 b\/b=wb) w6 w8:=aD.trans bz
 have Ek:=oV.LY (aJ.LY nZ) (λe=>e.elim (λe=>e Ee) Ef)
 refine N9 O O$ MN O O$ LX$ Mz.qb (e:=[(0,_),(6,_),(7,_),(9,_),(11,_),(59,_)]) ?_
 refine An O$ py$ qN O$ LW O$ qV (Mv (news:=[I (a:Int),I (N:Int)]) SO O NO O (M7.cells (i:=0) (n:=2) Ek O) O)$ Mn zgB O (z2j oD (λb e=>by have:=qn b e;omega) (by omega) jb.1 (by omega) jb.2.2 rB Ej) ?_
 rintro _ w9 ⟨rb,rfl,yF,Fw,uF,aO⟩
 have z9:=aO.size
 have lrb:=yF.lt
 have hL:Laid txt8 a T:=Laid.of λk hk=>⟨uF.VM (by omega) (by omega),Ei k hk⟩
 subst hT
 have hO:StO Q3 txt8 (K+(Ug p g E).length / 512+2) a N (Ug p g E):=⟨by omega,by omega,hL,by omega⟩
 have s8:Kp (λb=>¬X b) w w6:=(aG.kp.trans au).trans (co.trans aJ).kp
 have mH:Kp (λb=>¬X b) w w8:=s8.LS oV λb e=>by
  rcases e with e| e
  ·exact .inr λe2=>e (fh b e2)
  ·exact .inl (by have:=aG.size;omega)
 have o2:Kp (λb=>¬X b) w w9:=mH.trans (aO.Mc λb e e2=>e (fh b e2))
 have z2:=aG.size
 have tH:¬X rb:=λe=>by have:=hX rb e;omega
 have hI:(z4Z hO rb sum7).inv X w9:=⟨uF.less (λb e=>e.imp (fh b) id),yF,tH⟩
 refine LW O$ N5 O O$ N5 O O$ Me O$ M4 O$ run_seq$ qN O$ LW O$ N9 O O$ LX$ An O$ py$ qN O$ LW O ?_
 refine Mn zfn O (z2v zM hO hI (λb e=>by have:=hX b e;omega) x1 x2 (o2.LY hG (λe=>e x1)) (o2.LY hU (λe=>e x2))) ?_
 rintro _ w10 ⟨k,x,rfl,Du,i5,JR,aq⟩
 refine LW O$ N5 O O$ N5 O O$ Me O$ Me O$ qM O$ Md O O$ O3 O O$ O4$ Md O O$ qV (z1H Ze O O)$ NC O O$ Me O$ M4 O ?_
 refine Mz.qb (e:=[(6,_),(7,_)]) ?_
 refine LZ Tryz.func30 O (⟨_,rfl,⟨p,g,E,a,N,rb,sum7,k,x⟩,txt8,rfl,rfl,rfl,jb.2.1,jb.1,⟨by show w.heap.size<=k;omega,by show w.heap.size<=x;omega,by show w.heap.size<=rb;omega⟩,?_,λy hy=>?_,o2.trans aq⟩)
 ·rw[Af];exact OD.more (G:=⟨p,g,E,a,N,rb,sum7,k,x⟩) ⟨hO,JR⟩ (by omega) (by omega)
 ·show txt8 y=txt y;have hy:y<(a:Int)\/(a:Int)+(N:Int)<=y:=hy;rw[Ag y hy,Eh y (by omega)]
structure Wd where
 d:Nat
 Q:Ol
 txt:Int->Bytes
 K:Nat
 G:WR
 T:WR
 a:Nat
def Wd.v (W:Wd):List Value:=[ptr W.d 0,ptr W.Q.s 0,ptr W.G.k 0,ptr W.T.k 0,I ((200-W.a:Nat):Int)]
structure WdM (W:Wd)(g:List (List Nat))(XX:Nat->Prop)(w:World):Prop where
 hg:OD W.G W.Q W.txt W.K (λb=>XX b/\b≠W.G.rb) w
 ht:OD W.T W.Q W.txt W.K (λb=>XX b/\b≠W.T.rb) w
 gg:W.G.g=g
 tg:W.T.g=TV g
 pre:Pre W.Q.L W.a
 a:W.a<=146
 L:W.Q.L.length=200
 K:W.K<=400
 gs:W.G.st+W.G.len<=W.T.st
 ts:W.T.st+W.T.len<=W.a
theorem Xs {w:World}{g:List (List Nat)}(az:P9 g)(aw:1<=g.length)(iG:g.length<=40){ga:Option Addr}{gc:Nat}(kW:GrM w (.slice ga g.length gc) g)(hG:M7 w 0 (OZ .gamma) 260)(hU:M7 w 1 (OZ .unary) 260)(fr fo:Int)(kJ: -9223372036854775808<=fr/\fr<=9223372036854775807)(yG: -9223372036854775808<=fo/\fo<=9223372036854775807):
  Mw Tryz.prog 7 [.slice ga g.length gc,I fr,I fo] w λv w'=>∃(W:Wd) (XX:Nat->Prop),v= .tuple #[.agg W.v.toArray,.bool true]/\WdM W g XX w'/\Ext w w'/\(∀b,b<w.heap.size->XX b/\b≠W.G.rb/\b≠W.T.rb)/\w.heap.size<=W.G.k/\w.heap.size<=W.G.x:=by
 have r1:=R7 fr 12 (by decide)
 have r2:=Tn fr 12 (by decide)
 have l1:=hG.lt
 have l2:=hU.lt
 refine It (e:=[(0,_),(1,_),(2,_)]) Tryz.func7 O Tryz.ntmps7 O O$ qN O$ M5 O O (Oo (cs:=[_,_,_,_,_]) Wz O) ?_
 rintro _ w1 ⟨bW,rfl,LD,ad,Gy⟩
 have z1:=ad.size
 have lW:=Gy.lt
 refine Me O$ qM O$ qV (OO (cs:=[_,_]) z6S O zfF O O)$ Mn zfm O (z97 200 1 _ (by unfold W8;decide)) ?_
 rintro _ w2 ⟨d,Fd,rfl,hD,af,JS⟩
 refine LW O$ N5 O O$ N5 O O$ Me O$ Me O$ qM O$ Mn zfW O (z4V 200 (by decide) _) ?_
 rintro _ w3 ⟨m,gi,rfl,hE,hm,sR,ai⟩
 have z2:=af.size
 have z3:=ai.size
 have JT:=hD.ext ai
 refine LW O$ N5 O O$ N5 O O$ Me O$ Me O$ qM O$ Md O O$ qV (yrt O O (by decide))$ MT O O$ qV (yrt O O (by decide)) ?_
 rw[show(fr.tmod 12+12).tmod 12=nrm fr 12 from rfl]
 obtain⟨nf,JU,El,JV⟩:∃nf:Nat,1+nrm fr 12=(nf:Int)/\1<=nf/\nf<=12:=⟨(1+nrm fr 12).toNat,by omega,by omega,by omega⟩
 refine MT O O ?_
 rw[JU]
 have gW:(List.replicate 200 false).length=200:=List.length_replicate
 have JW:¬Fd m/\¬Fd gi:=⟨λe=>by have:=hD.lt _ e;omega,λe=>by have:=hD.lt _ e;omega⟩
 refine LW O$ Mn zgF O (z4P (L:=List.replicate 200 false) (by rw[gW];exact JT) hE JW nf El (by omega)) ?_
 rintro _ w4 ⟨P,rfl,hM,hI,JX,JY,Gz,JZ,ay⟩
 have z4:=ay.size
 have cn:Ext w w4:=((ad.trans af).trans ai).trans ay
 have Em:=((af.trans ai).trans ay).LY Gy
 obtain⟨X,hX⟩:∃X:Nat->Prop,(λb=>b<w.heap.size\/b=bW)=X:=⟨_,rfl⟩
 have En:∀b,X b->b<w1.heap.size:=λb e=>by rw[<-hX] at e;omega
 have o3:∀b,b<w.heap.size->X b:=λb e=>by rw[<-hX];exact .inl e
 have Ah:X bW:=by rw[<-hX];exact .inr O
 have iX:Sp P (λ_=>zeros 512) 0 X w4:=⟨P,hM,hI,⟨rfl,rfl,rfl,rfl,rfl,rfl,rfl,rfl,rfl⟩,λb hb e=>by
  have:=En b e;rcases JZ b hb with e|e|e| e
  ·have:=JS b e;omega
  ·omega
  ·omega
  ·omega⟩
 have fJ:Pre P.L 2:=by
  rw[Gz];exact⟨Nat.le_refl _,by rw[gW];omega,λi h1 h2=>by omega,λi h1 h2=>by rw[gW] at h2;rw[List.getElem?_replicate,if_pos h2]⟩
 have LE:P.L.length=200:=by rw[Gz,gW]
 refine LW O$ N5 O O$ N5 O O$ Me O$ M4 O$ Mz.qb (e:=[(0,_),(2,_),(6,_),(7,_),(8,_),(9,_),(10,_),(11,_),(12,_),(13,_)]) ?_
 refine run_seq$ qN O$ LW O$ N9 O O$ ML$ Md O O$ N9 O O$ ML$ MN O O$ Md O O$ N9 O O$ ML$ MN O O$ Md O O ?_
 refine qV (N7 To O O)$ MN O O$ LX$ An O$ py$ qN O$ Md O O$ LW O$ Mn zed O (z14 fo yG _) ?_
 rintro _ w5 ⟨p1,rfl,un,mh,aW⟩
 have z5:=aW.size
 have bG:=cn.trans aW
 have K0:∀b,X b->b<w5.heap.size:=λb e=>by have:=En b e;omega
 refine Mn zfd O (z0F (iX.ext' aW) K0 (by omega) (o3 0 l1) (o3 1 l2) (bG.LY hG) (bG.LY hU) az aw iG (kW.ext bG) un mh fJ (by omega)) ?_
 rintro _ w6 ⟨G,txt6,rfl,K4,LF,LG,K5,⟨n1,n2,n3⟩,du,Eo,aR⟩
 have iq:Ext w w6:=bG.LS aR (λb e=>by
  rcases Nat.lt_or_ge b w.heap.size with h| h
  ·exact absurd (o3 b h) e
  ·exact h)
 have z6:=aR.size
 have Ep:=aR.LY (aW.LY Em) (λe=>e Ah)
 have yD:(NU P.L 2 G.len true).length=P.L.length:=NP (by omega)
 have o4:Pre (NU P.L 2 G.len true) (2+G.len):=X9 fJ (by omega)
 obtain⟨Q6,Eq⟩:∃Q6,P.Nr (NU P.L 2 G.len true)=Q6:=⟨_,rfl⟩
 have Er:Q6.L=NU P.L 2 G.len true:=by rw[<-Eq];rfl
 have tQ:Q6.s=P.s/\Q6.d=P.d/\Q6.m=P.m:=by rw[<-Eq];exact⟨rfl,rfl,rfl⟩
 rw[Eq] at du
 rw[<-Er] at yD o4
 obtain⟨gb,go,gc',jB,Es⟩:=kW.r aw
 cases jB
 refine LW O$ N5 O O$ N5 O O$ Me O$ M4 O$ Mz.qb (e:=[(0,_),(2,_),(6,_),(7,_),(8,_),(10,_),(12,_),(14,_),(15,_)]) ?_
 refine qN O$ Md O O$ Mn zga O (z2k az (Es.ext iq)) ?_
 rintro _ w7 ⟨bt,rfl,K7,ck⟩
 have iR:=iq.trans ck
 have z7:=ck.size
 have tR:=du.ext ck
 have mu:=Vg g
 refine LW O$ qV (z7j O O) ?_
 obtain⟨fo2,yH⟩:∃z,IntKind.i64.wrap (fo+1)=z:=⟨_,rfl⟩
 have yI: -9223372036854775808<=fo2/\fo2<=9223372036854775807:=by
  rw[<-yH,IntKind.wrap_i64];omega
 rw[yH]
 refine Mn zed O (z14 fo2 yI _) ?_
 rintro _ w8 ⟨p2,rfl,oz,mq,dw⟩
 have z8:=dw.size
 have bS:=tR.ext dw
 have o5:=iR.trans dw
 obtain⟨X2,gB⟩:∃X2:Nat->Prop,(λb=>(X b\/b=G.x\/b=G.k)\/b=G.rb)=X2:=⟨_,rfl⟩
 have il:∀b,X b->X2 b:=λb e=>by rw[<-gB];exact .inl (.inl e)
 have oD:Sp Q6 txt6 (0+200) X2 w8:=by rw[<-gB];exact bS.sp
 have Et:∀b,X2 b->b<w8.heap.size:=λb e=>bS.lt1 b (by rw[<-gB] at e;exact e)
 have Eu:GrM w8 (.slice (some ⟨bt,0,none⟩) (TV g).length (TV g).length) (TV g):=(K7.ext dw).gr
 have ot:=z0F oD Et (by omega) (il _ (o3 0 l1)) (il _ (o3 1 l2)) (o5.LY hG) (o5.LY hU) (z6O az) (by omega) (by omega) Eu oz mq o4 (by omega)
 rw[tQ.1,mu] at ot
 refine Mn zfd O (ot) ?_
 rintro _ w9 ⟨T,txt9,rfl,K8,LH,LI,Ka,⟨t1,t2,t3⟩,iA,Ai,aO⟩
 have z9:=aO.size
 have fY:Ext w w9:=o5.LS aO (λb e=>by
  rcases Nat.lt_or_ge b w.heap.size with h| h
  ·exact absurd (il b (o3 b h)) e
  ·exact h)
 have Ev:=aO.LY ((ck.trans dw).LY Ep) (λe=>e (il _ Ah))
 have GA:(NU Q6.L (2+G.len) T.len true).length=Q6.L.length:=NP (by omega)
 have o6:Pre (NU Q6.L (2+G.len) T.len true) (2+G.len+T.len):=X9 o4 (by omega)
 obtain⟨Q9,Ew⟩:∃Q9,Q6.Nr (NU Q6.L (2+G.len) T.len true)=Q9:=⟨_,rfl⟩
 have Ex:Q9.L=NU Q6.L (2+G.len) T.len true:=by rw[<-Ew];rfl
 have tS:Q9.s=Q6.s/\Q9.d=Q6.d/\Q9.m=Q6.m:=by rw[<-Ew];exact⟨rfl,rfl,rfl⟩
 rw[Ew] at iA
 rw[<-Ex] at GA o6
 have yJ:=iA.sp
 have tT:=iA.lt1
 have Kb:OD G Q9 txt9 (0+200+200) (λb=>(X b\/b=G.x\/b=G.k)\/b=T.x\/b=T.k\/b=T.rb) w9:=bS.zdO aO (λb e=>by rw[<-gB] at e;exact e) (λj e=> .inl e) (λj e=>e.imp id λe=>by
   have h1:=tT T.x (.inl (.inr (.inl O)));have h2:=tT T.k (.inl (.inr (.inr O)));have h3:=tT T.rb (.inr O)
   omega) (yJ.less λb e=>by
   rw[<-gB];rcases e with(e|e|e|e)| e
   ·exact .inl (.inl (.inl e))
   ·exact .inl (.inr (.inl e))
   ·exact .inl (.inr (.inr e))
   ·exact .inr e
   ·exact .inl (.inl (.inr e))) tS.1 GA (by omega) (λy h1 h2=>Ai y (.inl (by omega)))
 have hH:=yJ.room o6 (by omega)
 rw[tS.2.2,tQ.2.2,JX] at hH
 refine LW O$ N5 O O$ N5 O O$ Me O$ Me O$ qM O$ Md O O$ Md O O$ LW O$ Mn zfv O (hH) ?_
 rintro _ w10 ⟨rfl,bL⟩
 have yK:=bL.LY Ev
 rw[show Q9.L.length-(2+G.len+T.len)=200-(2+G.len+T.len) by omega]
 refine qV (OO (cs:=[_,_,_,_,_]) Wz O zgj O O)$ Md O O$ LW O$ NC O O$ Mb O (MO (news:=[_,_,_,_,_]) Wz O O O O yK (by simp)) ?_
 rintro w11 ⟨yL,bC⟩
 refine M4 O$ Mz.qb (e:=[(6,_),(7,_)]) ?_
 refine Mt Tryz.func7 (.cell U31 O Wz O (M7.cells (n:=5) yL (news:=[_,_,_,_,_]) O) O (.tmp O .nil)) ?_
 obtain⟨XX,fh⟩:∃XX:Nat->Prop,(λb=>X b\/b=G.x\/b=G.k\/b=G.rb\/b=T.x\/b=T.k\/b=T.rb)=XX:=⟨_,rfl⟩
 have GB:=bS.rbX
 have GC:=iA.rbX
 have yM:=bS.xk
 have GD:=iA.xk
 have zG:=bS.lt1 _ (.inr O)
 have zGk:=bS.lt1 _ (.inl yM.1)
 have zGx:=bS.lt1 _ (.inl yM.2.1)
 have m6:∀b,X b->b<w1.heap.size:=En
 have Ey:OD G Q9 txt9 400 (λb=>XX b/\b≠G.rb) w11:=by
  refine OD.less (Y:=λb=>(X b\/b=G.x\/b=G.k)\/b=T.x\/b=T.k\/b=T.rb) ((Kb.ext bL).own bC λj e=>?_) (λb e=>?_) ?_
  ·subst e;exact⟨.inl (.inl Ah),by omega,by omega,by omega,by omega⟩
  ·rw[<-fh] at e;rcases e with⟨e|e|e|e|e,h⟩
   ·exact .inl (.inl e)
   ·exact .inl (.inr (.inl e))
   ·exact .inl (.inr (.inr e))
   ·exact absurd e h
   ·exact .inr e
  ·rw[<-fh];exact⟨⟨.inr (.inr (.inl O)),λe=>GB (e▸yM.1)⟩,⟨.inr (.inl O),λe=>GB (e▸yM.2.1)⟩,⟨.inl (o3 0 l1),by omega⟩,⟨.inl (o3 1 l2),by omega⟩⟩
 have Ez:OD T Q9 txt9 400 (λb=>XX b/\b≠T.rb) w11:=by
  refine OD.less (Y:=λj=>X2 j\/j=T.x\/j=T.k) ((iA.ext bL).own bC λj e=>?_) (λb e=>?_) ?_
  ·subst e;exact⟨.inl (il _ Ah),by omega,by omega,by omega,by omega⟩
  ·rw[<-fh] at e;rw[<-gB];rcases e with⟨e|e|e|e|e|e|e,h⟩
   ·exact .inl (.inl (.inl e))
   ·exact .inl (.inl (.inr (.inl e)))
   ·exact .inl (.inl (.inr (.inr e)))
   ·exact .inl (.inr e)
   ·exact .inr (.inl e)
   ·exact .inr (.inr e)
   ·exact absurd e h
  ·rw[<-fh];exact⟨⟨.inr (.inr (.inr (.inr (.inr (.inl O))))),λe=>GC (e▸GD.1)⟩,⟨.inr (.inr (.inr (.inr (.inl O)))),λe=>GC (e▸GD.2.1)⟩,⟨.inl (o3 0 l1),by omega⟩,⟨.inl (o3 1 l2),by omega⟩⟩
 refine⟨_,rfl,⟨d,Q9,txt9,400,G,T,2+G.len+T.len⟩,XX,?_,⟨Ey,Ez,K4,K8,o6,?_,?_,?_,?_,?_⟩,?_,λb hb=>⟨by rw[<-fh];exact .inl (o3 b hb),λe=>?_,λe=>?_⟩,?_,?_⟩
 ·unfold Wd.v;rw[tS.1,tQ.1]
  rfl
 ·show 2+G.len+T.len<=146;omega
 ·show Q9.L.length=200;omega
 ·exact Nat.le_refl _
 ·show G.st+G.len<=T.st;omega
 ·show T.st+T.len<=2+G.len+T.len;omega
 ·exact(fY.trans bL).LS bC λb e=>by omega
 ·have e:b=G.rb:=e;omega
 ·have e:b=T.rb:=e;omega
 ·show w.heap.size<=G.k;omega
 ·show w.heap.size<=G.x;omega
theorem z3S {w:World}{g:List (List Nat)}(az:P9 g)(aw:1<=g.length)(iG:g.length<=40){ga:Option Addr}{gc:Nat}(kW:GrM w (.slice ga g.length gc) g)(hG:M7 w 0 (OZ .gamma) 260)(hU:M7 w 1 (OZ .unary) 260)(fr fo:Int)(kJ: -9223372036854775808<=fr/\fr<=9223372036854775807)(yG: -9223372036854775808<=fo/\fo<=9223372036854775807):
  Mw Tryz.prog 7 [.slice ga g.length gc,I fr,I fo] w λv w'=>∃(W:Wd) (XX:Nat->Prop),v= .tuple #[.agg W.v.toArray,.bool true]/\WdM W g XX w'/\Ext w w'/\∀b,b<w.heap.size->XX b/\b≠W.G.rb/\b≠W.T.rb:=by
 refine(Xs az aw iG kW hG hU fr fo kJ yG).mono ?_
 rintro v w' ⟨W,XX,h1,h2,h3,h4,-⟩
 exact⟨W,XX,h1,h2,h3,h4⟩
structure RvK (σ:Type) where
 T:TypeId
 cs:σ->Nat->Nat->List Value
 xs:σ->List Nat
 tm:σ->Nat
structure OT {σ:Type}(R:RvK σ)(G:WR)(Q:Ol)(txt:Int->Bytes)(K:Nat)(X:Nat->Prop)(rr vb sv:Nat)(s:σ)(w:World):Prop where
 g:OD G Q txt K X w
 run:M7 w rr (R.cs s G.k vb) R.T
 vec:Sn Q txt vb 4 sv (R.xs s) w
 xr:X rr/\X vb
 ne:rr≠vb/\rr≠G.k/\rr≠G.x/\rr≠0/\rr≠1/\vb≠G.k/\vb≠G.x/\vb≠0/\vb≠1
 S4:G.st+G.len<=sv
 len:(R.xs s).length=G.g.length
 n:G.g.length<=40
section
variable {σ:Type}{R:RvK σ}{J:σ->Prop}{w0 w w' w3 w4 w5:World}{g:List (List Nat)}{G G1 G2 G3:WR}{Q Q1 Q2 Q3 Q':Ol}{txt txt1 txt2 txt3 txt':Int->Bytes}{K K1 K2 K3 K':Nat}{X X1 X2 X3 Y S':Nat->Prop}{rr vb sv r1 v1 a1 r2 v2 a2 a B:Nat}{s s1 s2:σ}
theorem OT.step (h:OT R G Q txt K X rr vb sv s w)(hk:Kp S' w w')(hS:∀j,S' j->X j/\j≠G.k/\j≠G.x/\j≠0/\j≠1/\j≠rr/\j≠vb)(bM:∀j,X j->Y j)(hY:∀j,Y j->X j\/(w.heap.size<=j/\j<w'.heap.size)):OT R G Q txt K Y rr vb sv s w':=
 ⟨h.g.step hk (λj e=>⟨(hS j e).1,(hS j e).2.1,(hS j e).2.2.1,(hS j e).2.2.2.1,(hS j e).2.2.2.2.1⟩) hY bM,hk.LY h.run (λe=>(hS _ e).2.2.2.2.2.1 O),h.vec.kp hk (λe=>(hS _ e).2.2.2.2.2.2 O),⟨bM _ h.xr.1,bM _ h.xr.2⟩,h.ne,h.S4,h.len,h.n⟩
theorem OT.lts (h:OT R G Q txt K X rr vb sv s w):rr<w.heap.size/\vb<w.heap.size/\G.k<w.heap.size/\G.x<w.heap.size/\0<w.heap.size/\1<w.heap.size:=by
 have h1:=h.g.lt
 have h2:=h.g.xk
 exact⟨h1 _ h.xr.1,h1 _ h.xr.2,h1 _ h2.1,h1 _ h2.2.1,h1 _ h2.2.2.1,h1 _ h2.2.2.2⟩
structure Rp (R:RvK σ)(J:σ->Prop)(w0:World)(g:List (List Nat))(G:WR)(Q:Ol)(txt:Int->Bytes)(K:Nat)(X:Nat->Prop)(rr vb a:Nat)(s:σ)(w:World):Prop where
 m:OT R G Q txt K X rr vb a s w
 j:J s
 gg:G.g=g
 top:∀b,b<w0.heap.size->X b
 lo:w0.heap.size<=rr/\w0.heap.size<=vb/\rr≠vb
 a2:2<=a
 own:Q.L[a]? =some true
theorem Rp.step (h:Rp R J w0 g G Q txt K X rr vb a s w)(hk:Kp S' w w')(hS:∀j,j<w.heap.size->S' j->X j/\j≠G.k/\j≠G.x/\j≠0/\j≠1/\j≠rr/\j≠vb)(bM:∀j,X j->Y j)(hY:∀j,Y j->X j\/(w.heap.size<=j/\j<w'.heap.size)):Rp R J w0 g G Q txt K Y rr vb a s w':=
 ⟨h.m.step (S':=λj=>j<w.heap.size/\S' j) (hk.mono λj h1 h2=>⟨h1,h2⟩) (λj e=>hS j e.1 e.2) bM hY,h.j,h.gg,λb hb=>bM b (h.top b hb),h.lo,h.a2,h.own⟩
theorem Rp.ext (h:Rp R J w0 g G Q txt K X rr vb a s w)(hx:Ext w w'):Rp R J w0 g G Q txt K (λj=>X j\/(w.heap.size<=j/\j<w'.heap.size)) rr vb a s w':=
 h.step hx (λ_ _ e=>e.elim) (λj e=> .inl e) λj e=>e
theorem Rp.other (h:Rp R J w0 g G Q txt K X rr vb a s w)(hg:OD G Q' txt' K' Y w')(bM:∀j,X j->Y j)(hk:Kp (λb=>¬X b\/b=r2\/b=v2) w w')(n1:rr≠r2)(n2:rr≠v2)(n3:vb≠r2)(n4:vb≠v2)(hs:Q'.s=Q.s)(hl:Q'.L.length=Q.L.length)(hy:txt' a=txt a)(ho:Q'.L[a]? =some true):Rp R J w0 g G Q' txt' K' Y rr vb a s w':=by
 have hm:=h.m
 have hv:R8 (R.xs s).length 128=1:=by
  rw[hm.len];have:=hm.n;unfold R8;omega
 have EA:=((hm.vec.kp hk (λe=>e.elim (λe=>e hm.xr.2) (λe=>e.elim n3 n4))).z0C (txt':=txt') (λy h1 h2=>by
  rw[show 512 / 4=128 from rfl,hv] at h2
  rw[show y=(a:Int) by omega];exact hy)).q hs hl
 exact⟨⟨hg,hk.LY hm.run (λe=>e.elim (λe=>e hm.xr.1) (λe=>e.elim n1 n2)),EA,⟨bM _ hm.xr.1,bM _ hm.xr.2⟩,hm.ne,hm.S4,hm.len,hm.n⟩,h.j,h.gg,λb hb=>bM b (h.top b hb),h.lo,h.a2,ho⟩
structure RvA (w:World)(G1:WR)(X1:Nat->Prop)(r1 v1:Nat)(G2:WR)(X2:Nat->Prop)(r2 v2:Nat):Prop where
 cov:∀j,j<w.heap.size->X1 j\/X2 j
 x1:X1 r2/\X1 v2/\X1 G2.k/\X1 G2.x
 x2:X2 r1/\X2 v1/\X2 G1.k/\X2 G1.x
 n1:r1≠r2/\r1≠v2/\r1≠G2.k/\r1≠G2.x
 n2:v1≠r2/\v1≠v2/\v1≠G2.k/\v1≠G2.x
 n3:r2≠G1.k/\r2≠G1.x/\v2≠G1.k/\v2≠G1.x
theorem RvA.symm (h:RvA w G1 X1 r1 v1 G2 X2 r2 v2):RvA w G2 X2 r2 v2 G1 X1 r1 v1:=
 ⟨λj hj=>(h.cov j hj).symm,h.x2,h.x1,⟨h.n1.1.symm,h.n2.1.symm,h.n3.1,h.n3.2.1⟩,⟨h.n1.2.1.symm,h.n2.2.1.symm,h.n3.2.2.1,h.n3.2.2.2⟩,⟨h.n1.2.2.1,h.n1.2.2.2,h.n2.2.2.1,h.n2.2.2.2⟩⟩
theorem Zo (h1:OT R G1 Q1 txt1 K1 X1 r1 v1 a1 s1 w)(h2:Rp R J w0 g G2 Q2 txt2 K2 X2 r2 v2 a2 s2 w)(hA:RvA w G1 X1 r1 v1 G2 X2 r2 v2)(hk:Kp (λb=>¬X1 b\/b=r1\/b=v1) w w'):∃Y,Rp R J w0 g G2 Q2 txt2 K2 Y r2 v2 a2 s2 w'/\RvA w' G1 X1 r1 v1 G2 Y r2 v2/\∀j,X2 j->Y j:=by
 have hx:=h1.g.xk
 obtain⟨e1,e2,e3,e4,e5,e6,e7,e8,e9⟩:=h1.ne
 obtain⟨f1,f2,f3,f4⟩:=hA.n1
 obtain⟨g1,g2,g3,g4⟩:=hA.n2
 obtain⟨q1,q2,q3,q4⟩:=hA.x1
 obtain⟨p1,p2,p3,p4⟩:=hA.x2
 have hz:=hk.size
 refine⟨λj=>X2 j\/(w.heap.size<=j/\j<w'.heap.size),h2.step hk (λj hj e=>?_) (λj e=> .inl e) (λj e=>e),⟨λj hj=>?_,hA.x1,⟨.inl p1,.inl p2,.inl p3,.inl p4⟩,hA.n1,hA.n2,hA.n3⟩,λj e=> .inl e⟩
 ·rcases e with e|e| e
  ·have hX:=(hA.cov j hj).resolve_left e;exact⟨hX,λh=>e (h▸q3),λh=>e (h▸q4),λh=>e (h▸hx.2.2.1),λh=>e (h▸hx.2.2.2),λh=>e (h▸q1),λh=>e (h▸q2)⟩
  ·subst e;exact⟨p1,f3,f4,e4,e5,f1,f2⟩
  ·subst e;exact⟨p2,g3,g4,e8,e9,g1,g2⟩
 ·by_cases Kc:j<w.heap.size
  ·exact(hA.cov j Kc).imp id .inl
  ·exact .inr (.inr ⟨by omega,hj⟩)
inductive RvP (R:RvK σ) (J:σ->Prop) (w0:World) (g:List (List Nat)) (r1 r2:Nat) (s1 s2:σ) (w:World):Prop
 |same (G:WR) (Q:Ol) (txt:Int->Bytes) (K:Nat) (X:Nat->Prop) (v1 a1 v2 a2:Nat) (h1:Rp R J w0 g G Q txt K X r1 v1 a1 s1 w) (h2:Rp R J w0 g G Q txt K X r2 v2 a2 s2 w) (ha:a1≠a2) (hn:r1≠r2/\r1≠v2/\v1≠r2/\v1≠v2) (hK:K<=1000+3300*(R.tm s1+R.tm s2)):RvP R J w0 g r1 r2 s1 s2 w
 |own (G1:WR) (Q1:Ol) (txt1:Int->Bytes) (K1:Nat) (X1:Nat->Prop) (v1 a1:Nat) (G2:WR) (Q2:Ol) (txt2:Int->Bytes) (K2:Nat) (X2:Nat->Prop) (v2 a2:Nat) (h1:Rp R J w0 g G1 Q1 txt1 K1 X1 r1 v1 a1 s1 w) (h2:Rp R J w0 g G2 Q2 txt2 K2 X2 r2 v2 a2 s2 w) (hA:RvA w G1 X1 r1 v1 G2 X2 r2 v2) (rN:K1<=1000+3300*(R.tm s1+R.tm s2)) (rM:K2<=1000+3300*(R.tm s1+R.tm s2)):RvP R J w0 g r1 r2 s1 s2 w
theorem RvP.symm (h:RvP R J w0 g r1 r2 s1 s2 w):RvP R J w0 g r2 r1 s2 s1 w:=by
 cases h with
 |same G Q txt K X v1 a1 v2 a2 h1 h2 ha hn hK=>exact .same G Q txt K X v2 a2 v1 a1 h2 h1 ha.symm ⟨hn.1.symm,hn.2.2.1.symm,hn.2.1.symm,hn.2.2.2.symm⟩ (by omega)
 |own G1 Q1 txt1 K1 X1 v1 a1 G2 Q2 txt2 K2 X2 v2 a2 h1 h2 hA rN rM=>exact .own G2 Q2 txt2 K2 X2 v2 a2 G1 Q1 txt1 K1 X1 v1 a1 h2 h1 hA.symm (by omega) (by omega)
theorem RvP.op1 (h:RvP R J w0 g r1 r2 s1 s2 w):∃G Q txt K X v1 a1,Rp R J w0 g G Q txt K X r1 v1 a1 s1 w/\K<=1000+3300*(R.tm s1+R.tm s2)/\
  ∀(w':World) (txt':Int->Bytes) (K':Nat) (s':σ),Rp R J w0 g G Q txt' K' X r1 v1 a1 s' w'->(∀y:Int,y<(a1:Int)\/(a1:Int)+1<=y->txt' y=txt y)->Kp (λb=>¬X b\/b=r1\/b=v1) w w'->R.tm s1<=R.tm s'->K'<=1000+3300*(R.tm s'+R.tm s2)->RvP R J w0 g r1 r2 s' s2 w':=by
 cases h with
 | same G Q txt K X v1 a1 v2 a2 h1 h2 ha hn hK =>
   refine⟨G,Q,txt,K,X,v1,a1,h1,hK,λw' txt' K' s' ii hy hk ht rA=>?_⟩
   exact .same G Q txt' K' X v1 a1 v2 a2 ii (h2.other ii.m.g (λ_ e=>e) hk hn.1.symm hn.2.2.1.symm hn.2.1.symm hn.2.2.2.symm O O (hy a2 (by omega)) h2.own) ha hn rA
 | own G1 Q1 txt1 K1 X1 v1 a1 G2 Q2 txt2 K2 X2 v2 a2 h1 h2 hA rN rM =>
   refine⟨G1,Q1,txt1,K1,X1,v1,a1,h1,rN,λw' txt' K' s' ii hy hk ht rA=>?_⟩;obtain⟨Y,oL,tt,-⟩:=Zo h1.m h2 hA hk;exact .own G1 Q1 txt' K' X1 v1 a1 G2 Q2 txt2 K2 Y v2 a2 ii oL tt rA (by omega)
theorem Rp.new (h:Rp R J w0 g G Q txt K X r1 v1 a1 s1 w)(hk:Kp (λb=>¬X b\/b=r1\/b=v1) w w')(hx:Ext w0 w):Ext w0 w':=hx.LS hk λb e=>by
 have:=h.lo
 rcases Nat.lt_or_ge b w0.heap.size with hb|hb
 ·rcases e with e|e| e
  ·exact absurd (h.top b hb) e
  ·omega
  ·omega
 ·exact hb
end
structure XQ {σ:Type}(R:RvK σ)(J:σ->Prop)(w0:World)(g:List (List Nat))(G3:WR)(X3:Nat->Prop)(r2:Nat)(s2:σ)(B:Nat)(w:World):Prop where
 ex:∃G2 Q2 txt2 K2 X2 v2 a2,Rp R J w0 g G2 Q2 txt2 K2 X2 r2 v2 a2 s2 w/\K2<=B/\(∀j,j<w.heap.size->X3 j\/X2 j)/\(X3 r2/\X3 v2/\X3 G2.k/\X3 G2.x)/\(X2 G3.k/\X2 G3.x)/\(r2≠G3.k/\r2≠G3.x/\v2≠G3.k/\v2≠G3.x)
section
variable {σ:Type}{R:RvK σ}{J:σ->Prop}{w0 w w' w3 w4 w5:World}{g:List (List Nat)}{G G1 G2 G3:WR}{Q Q1 Q2 Q3 Q':Ol}{txt txt1 txt2 txt3 txt':Int->Bytes}{K K1 K2 K3 K':Nat}{X X1 X2 X3 Y S':Nat->Prop}{r1 v1 a1 r2 v2 a2 a B:Nat}{s s0 s1 s2:σ}
theorem z3K (h3:OD G3 Q3 txt3 K3 X3 w3)(hz:w.heap.size<=w3.heap.size)(eX:∀j,j<w.heap.size->X3 j)(au:w.heap.size<=G3.k/\w.heap.size<=G3.x)(h1:OT R G1 Q1 txt1 K1 (λj=>X1 j\/(w.heap.size<=j/\j<w3.heap.size)) r1 v1 a1 s1 w3)(hr:r1<w.heap.size/\v1<w.heap.size)(hk:Kp (λb=>¬(X1 b\/(w.heap.size<=b/\b<w3.heap.size))\/b=r1\/b=v1) w3 w4):OD G3 Q3 txt3 K3 (λj=>X3 j\/(w3.heap.size<=j/\j<w4.heap.size)) w4/\Kp (λb=>b<w.heap.size) w3 w4:=by
 have hx:=h1.g.xk
 obtain⟨e1,e2,e3,e4,e5,e6,e7,e8,e9⟩:=h1.ne
 have hS:∀j,j<w3.heap.size/\(¬(X1 j\/(w.heap.size<=j/\j<w3.heap.size))\/j=r1\/j=v1)->j<w.heap.size/\j≠0/\j≠1:=λj e=>by
  rcases e with⟨hj,e|e|e⟩
  ·refine⟨?_,λh=>e (h▸hx.2.2.1),λh=>e (h▸hx.2.2.2)⟩;rcases Nat.lt_or_ge j w.heap.size with h| h
   ·exact h
   ·exact absurd (.inr ⟨h,hj⟩) e
  ·subst e;exact⟨hr.1,e4,e5⟩
  ·subst e;exact⟨hr.2,e8,e9⟩
 have o7:Kp (λj=>j<w3.heap.size/\(¬(X1 j\/(w.heap.size<=j/\j<w3.heap.size))\/j=r1\/j=v1)) w3 w4:=hk.mono λj h1 h2=>⟨h1,h2⟩
 refine⟨h3.step o7 (λj e=>?_) (λj e=>e) (λj e=> .inl e),o7.Mc λj e=>(hS j e).1⟩
 obtain⟨h1,h2,h3⟩:=hS j e
 exact⟨eX j h1,by omega,by omega,h2,h3⟩
theorem RvP.close (h:RvP R J w0 g r1 r2 s1 s2 w)(gP:Ext w0 w)(hx:Ext w w3)(h3:OD G3 Q3 txt3 K3 X3 w3)(eX:∀j,j<w.heap.size->X3 j)(au:w.heap.size<=G3.k/\w.heap.size<=G3.x):∃G Q txt K X v1 a1,OT R G Q txt K X r1 v1 a1 s1 w3/\2<=a1/\Q.L[a1]? =some true/\∀(w4:World) (txt':Int->Bytes),OD G (Q.Nr (NU Q.L a1 1 false)) txt' K X w4->(∀y:Int,y<(a1:Int)\/(a1:Int)+1<=y->txt' y=txt y)->Kp (λb=>¬X b\/b=r1\/b=v1) w3 w4->
  Ext w0 w4/\∃X3',OD G3 Q3 txt3 K3 X3' w4/\(∀j,X3 j->X3' j)/\Kp (λb=>b<w.heap.size) w3 w4/\XQ R J w0 g G3 X3' r2 s2 (1000+3300*(R.tm s1+R.tm s2)) w4:=by
 have hz:=hx.size
 have km:=h3.lt
 have yN:=h3.xk
 have l3:=km _ yN.1
 have l4:=km _ yN.2.1
 cases h with
 | same G Q txt K X v1 a1 v2 a2 h1 h2 ha hn hK =>
   obtain⟨p1,p2,p3,p4,-,-⟩:=h1.m.lts;obtain⟨q1,q2,q3,q4,-,-⟩:=h2.m.lts;have ii:=h1.ext hx;have oL:=h2.ext hx;have hm:=ii.m;have bP:=hm.vec.fit
   have hv:R8 (R.xs s1).length 128=1:=by
    rw[hm.len];have:=hm.n;unfold R8;omega
   rw[show 512 / 4=128 from rfl,hv] at bP;refine⟨G,Q,txt,K,_,v1,a1,hm,h1.a2,h1.own,λw4 txt' hG hy hk=>?_⟩;obtain⟨t1,t2⟩:=z3K h3 hz eX au hm ⟨p1,p2⟩ hk;refine⟨ii.new hk (gP.trans hx),_,t1,λj e=> .inl e,t2,⟨G,_,txt',K,_,v2,a2,oL.other hG (λj e=>e) hk hn.1.symm hn.2.2.1.symm hn.2.1.symm hn.2.2.2.symm O (NP bP) (hy a2 (by omega)) (by show(NU Q.L a1 1 false)[a2]? =some true;rw[Qw bP,if_neg (by omega)];exact h2.own),hK,λj hj=>?_,⟨.inl (eX _ q1),.inl (eX _ q2),.inl (eX _ q3),.inl (eX _ q4)⟩,⟨.inr ⟨au.1,l3⟩,.inr ⟨au.2,l4⟩⟩,⟨by omega,by omega,by omega,by omega⟩⟩⟩;by_cases e1:j<w.heap.size
   ·exact .inl (.inl (eX j e1))
   ·by_cases e2:j<w3.heap.size
    ·exact .inr (.inr ⟨by omega,e2⟩)
    ·exact .inl (.inr ⟨by omega,hj⟩)
 | own G1 Q1 txt1 K1 X1 v1 a1 G2 Q2 txt2 K2 X2 v2 a2 h1 h2 hA rN rM =>
   obtain⟨p1,p2,p3,p4,-,-⟩:=h1.m.lts;obtain⟨q1,q2,q3,q4,-,-⟩:=h2.m.lts;have ii:=h1.ext hx;have oL:=h2.ext hx;have hm:=ii.m
   have tt:RvA w3 G1 (λj=>X1 j\/(w.heap.size<=j/\j<w3.heap.size)) r1 v1 G2 (λj=>X2 j\/(w.heap.size<=j/\j<w3.heap.size)) r2 v2:=⟨λj hj=>by
    by_cases e1:j<w.heap.size
    ·exact(hA.cov j e1).imp .inl .inl
    ·exact .inr (.inr ⟨by omega,hj⟩),⟨.inl hA.x1.1,.inl hA.x1.2.1,.inl hA.x1.2.2.1,.inl hA.x1.2.2.2⟩,⟨.inl hA.x2.1,.inl hA.x2.2.1,.inl hA.x2.2.2.1,.inl hA.x2.2.2.2⟩,hA.n1,hA.n2,hA.n3⟩
   refine⟨G1,Q1,txt1,K1,_,v1,a1,hm,h1.a2,h1.own,λw4 txt' hG hy hk=>?_⟩;obtain⟨t1,t2⟩:=z3K h3 hz eX au hm ⟨p1,p2⟩ hk;obtain⟨Y,dB,-,hY⟩:=Zo hm oL tt hk;refine⟨ii.new hk (gP.trans hx),_,t1,λj e=> .inl e,t2,⟨G2,Q2,txt2,K2,Y,v2,a2,dB,rM,λj hj=>?_,⟨.inl (eX _ q1),.inl (eX _ q2),.inl (eX _ q3),.inl (eX _ q4)⟩,⟨hY _ (.inr ⟨au.1,l3⟩),hY _ (.inr ⟨au.2,l4⟩)⟩,⟨by omega,by omega,by omega,by omega⟩⟩⟩;by_cases e1:j<w.heap.size
   ·exact .inl (.inl (eX j e1))
   ·by_cases e2:j<w3.heap.size
    ·exact .inr (hY _ (.inr ⟨by omega,e2⟩))
    ·exact .inl (.inr ⟨by omega,hj⟩)
theorem XQ.pair (hS:XQ R J w0 g G3 X3 r2 s2 B w4)(h3:OD G3 Q3 txt3 K3 X3 w4)(ah:G3.g=g)(hk:Kp (λb=>¬X3 b) w4 w5)(hr:w4.heap.size<=r1/\w4.heap.size<=v1)(kA:∀b,b<w0.heap.size->X3 b)(A7:w0.heap.size<=w4.heap.size)(h1:OT R G3 Q' txt' K' (λb=>X3 b\/b=r1\/b=v1) r1 v1 a s0 w5)(yO:2<=a)(o8:Q'.L[a]? =some true)(hx:Ext w0 w5):
  ∀(w6:World) (txt6:Int->Bytes) (K6:Nat) (s:σ),OT R G3 Q' txt6 K6 (λb=>X3 b\/b=r1\/b=v1) r1 v1 a s w6->Kp (λb=>¬(X3 b\/b=r1\/b=v1)\/b=r1\/b=v1) w5 w6->J s->K6<=1000+3300*(R.tm s+R.tm s2)->B<=1000+3300*(R.tm s+R.tm s2)->RvP R J w0 g r1 r2 s s2 w6/\Ext w0 w6:=by
 intro w6 txt6 K6 s h6 aR hJ Kd hB
 obtain⟨G2,Q2,txt2,K2,X2,v2,a2,h2,rM,yP,ai,af,bO⟩:=hS.ex
 obtain⟨q1,q2,q3,q4,-,-⟩:=h2.m.lts
 have hz:=hk.size
 have Aj:=h3.xk
 have l1:=h1.run.lt
 have l2:=h1.vec.lt
 have ux:=h1.ne
 have km:=h3.lt
 have g1:=km _ Aj.1
 have g2:=km _ Aj.2.1
 have oL:=h2.step (Y:=λj=>X2 j\/(w4.heap.size<=j/\j<w5.heap.size)) hk (λj hj e=>⟨(yP j hj).resolve_left e,λh=>e (h▸ai.2.2.1),λh=>e (h▸ai.2.2.2),λh=>e (h▸Aj.2.2.1),λh=>e (h▸Aj.2.2.2),λh=>e (h▸ai.1),λh=>e (h▸ai.2.1)⟩) (λj e=> .inl e) (λj e=>e)
 have hA:RvA w5 G3 (λb=>X3 b\/b=r1\/b=v1) r1 v1 G2 (λj=>X2 j\/(w4.heap.size<=j/\j<w5.heap.size)) r2 v2:=⟨λj hj=>by
  by_cases e1:j<w4.heap.size
  ·exact(yP j e1).imp .inl .inl
  ·exact .inr (.inr ⟨by omega,hj⟩),⟨.inl ai.1,.inl ai.2.1,.inl ai.2.2.1,.inl ai.2.2.2⟩,⟨.inr ⟨hr.1,l1⟩,.inr ⟨hr.2,l2⟩,.inl af.1,.inl af.2⟩,⟨by omega,by omega,by omega,by omega⟩,⟨by omega,by omega,by omega,by omega⟩,bO⟩
 obtain⟨Y,EB,tt,-⟩:=Zo h1 oL hA aR
 have ii:Rp R J w0 g G3 Q' txt6 K6 (λb=>X3 b\/b=r1\/b=v1) r1 v1 a s w6:=⟨h6,hJ,ah,λb hb=> .inl (kA b hb),⟨by omega,by omega,ux.1⟩,yO,o8⟩
 refine⟨.own G3 Q' txt6 K6 _ v1 a G2 Q2 txt2 K2 Y v2 a2 ii EB tt Kd (by omega),hx.LS aR λb e=>?_⟩
 rcases Nat.lt_or_ge b w0.heap.size with h| h
 ·rcases e with e|e| e
  ·exact absurd (.inl (kA b h)) e
  ·omega
  ·omega
 ·exact h
end
section
variable {σ:Type}{R:RvK σ}{w w':World}{G:WR}{Q Q':Ol}{txt txt':Int->Bytes}{K K':Nat}{X Y S':Nat->Prop}{rr vb sv:Nat}{s s':σ}
theorem VcW.kpX {vb width st:Nat}{ys:List Nat}(h:VcW Q txt K X vb width st ys w w'):Kp (λb=>¬X b) w w':=by
 obtain⟨txt',-,-,-,hk⟩:=h
 exact hk
theorem OT.ext (h:OT R G Q txt K X rr vb sv s w)(hx:Ext w w'):OT R G Q txt K X rr vb sv s w':=⟨h.g.ext hx,hx.LY h.run,h.vec.ext hx,h.xr,h.ne,h.S4,h.len,h.n⟩
theorem OT.grow (h:OT R G Q txt K X rr vb sv s w)(hx:Ext w w')(hY:∀j,Y j->X j\/(w.heap.size<=j/\j<w'.heap.size))(bM:∀j,X j->Y j):OT R G Q txt K Y rr vb sv s w':=⟨h.g.grow hx hY bM,hx.LY h.run,h.vec.ext hx,⟨bM _ h.xr.1,bM _ h.xr.2⟩,h.ne,h.S4,h.len,h.n⟩
theorem OT.less (h:OT R G Q txt K Y rr vb sv s w)(bM:∀j,X j->Y j)(hx:X G.k/\X G.x/\X 0/\X 1)(hr:X rr/\X vb):OT R G Q txt K X rr vb sv s w:=⟨h.g.less bM hx,h.run,h.vec,hr,h.ne,h.S4,h.len,h.n⟩
theorem OT.more (h:OT R G Q txt K X rr vb sv s w)(hK:K<=K')(rA:K'<1000000000000):OT R G Q txt K' X rr vb sv s w:=⟨h.g.more hK rA,h.run,h.vec,h.xr,h.ne,h.S4,h.len,h.n⟩
theorem OT.own (h:OT R G Q txt K X rr vb sv s w)(hk:Kp S' w w')(hS:∀j,S' j->X j/\j≠G.k/\j≠G.x/\j≠0/\j≠1/\j≠rr/\j≠vb):OT R G Q txt K X rr vb sv s w':=
 ⟨h.g.own hk (λj e=>⟨(hS j e).1,(hS j e).2.1,(hS j e).2.2.1,(hS j e).2.2.2.1,(hS j e).2.2.2.2.1⟩),hk.LY h.run (λe=>(hS _ e).2.2.2.2.2.1 O),h.vec.kp hk (λe=>(hS _ e).2.2.2.2.2.2 O),h.xr,h.ne,h.S4,h.len,h.n⟩
theorem OT.read (h:OT R G Q txt K X rr vb sv s w)(hk:Kp (λb=>¬(X b\/b=G.rb)) w w')(hP:Sp Q txt K (λb=>X b\/b=G.rb) w'):OT R G Q txt K X rr vb sv s w':=
 ⟨h.g.Yj hk (λb e=> .inl e) hP O O h.g.ZE (λ_ _ _=>rfl),hk.LY h.run (λe=>e (.inl h.xr.1)),h.vec.kp hk (λe=>e (.inl h.xr.2)),h.xr,h.ne,h.S4,h.len,h.n⟩
theorem OT.wrote (h:OT R G Q txt K X rr vb sv s w)(hK:K'<1000000000000)(hc:∀a b,R.cs s' a b=R.cs s a b)(hl:(R.xs s').length=(R.xs s).length)(hW:VcW Q txt K' (λb=>X b\/b=G.rb) vb 4 sv (R.xs s') w w'):∃txt',OT R G Q txt' K' X rr vb sv s' w'/\(∀y:Int,y<(sv:Int)\/(sv:Int)+1<=y->txt' y=txt y)/\Kp (λb=>¬(X b\/b=G.rb)) w w':=by
 obtain⟨txt',hP,hv,ht,hk⟩:=hW
 have hd:=h.S4
 have jt:R8 (R.xs s').length 128=1:=by
  rw[hl,h.len];have:=h.n;unfold R8;omega
 rw[show 512 / 4=128 from rfl,jt] at ht
 exact⟨txt',⟨h.g.Yj hk (λb e=> .inl e) hP O O hK (λy h1 h2=>ht y (.inl (by omega))),by rw[hc];exact hk.LY h.run (λe=>e (.inl h.xr.1)),hv,h.xr,h.ne,h.S4,by rw[hl];exact h.len,h.n⟩,ht,hk⟩
theorem OT.set (h:OT R G Q txt K X rr vb sv s w)(hk:Kp (λb=>b=rr) w w')(hB:M7 w' rr (R.cs s' G.k vb) R.T)(pZ:R.xs s'=R.xs s):OT R G Q txt K X rr vb sv s' w':=
 ⟨h.g.own hk (λj e=>by rw[e];exact⟨h.xr.1,h.ne.2.1,h.ne.2.2.1,h.ne.2.2.2.1,h.ne.2.2.2.2.1⟩),hB,by rw[pZ];exact h.vec.kp hk (λe=>h.ne.1 e.symm),h.xr,h.ne,h.S4,by rw[pZ];exact h.len,h.n⟩
theorem OT.list (h:OT R G Q txt K X rr vb sv s w)(hg:OD G Q txt K Y w')(hk:Kp (λj=>¬X j) w w')(bM:∀j,X j->Y j):OT R G Q txt K Y rr vb sv s w':=
 ⟨hg,hk.LY h.run (λe=>e h.xr.1),h.vec.kp hk (λe=>e h.xr.2),⟨bM _ h.xr.1,bM _ h.xr.2⟩,h.ne,h.S4,h.len,h.n⟩
end
abbrev pl:Nat:=2147483648
def lessC (xs:List Nat)(u:Nat):List Nat:=match xs[u]? with
 |some d=>if pl<=d\/d=0 then xs else xs.set u (d-1)
 |none=>xs
def SI (g:List (List Nat))(L:Nat)(xs:List Nat)(v:Nat):List Nat:=(Mg g v).foldl lessC (xs.set v (pl+L))
def Xo (g:List (List Nat))(L:Nat)(p:List Nat×Bool×Bool)(v:Nat):List Nat×Bool×Bool:=match p.1[v]? with
 |some d=>if pl<=d then p else if L<d then(p.1,p.2.1,true) else(SI g L p.1 v,true,p.2.2)
 |none=>p
def VL (g:List (List Nat))(L:Nat)(xs:List Nat):List Nat×Bool×Bool:=(List.range g.length).foldl (Xo g L) (xs,false,false)
structure QD where
 t:Nat
 level:Nat
 done:Bool
 xs:List Nat
def QD.new (g:List (List Nat)):QD:=⟨0,0,false,g.map List.length⟩
def QD.step (g:List (List Nat))(s:QD):QD:=⟨s.t+1,if(VL g s.level s.xs).2.1 then s.level else s.level+1,!(VL g s.level s.xs).2.2,(VL g s.level s.xs).1⟩
def Rv (xs:List Nat):Nat:=xs.countP (λx=>decide (x<pl))
theorem Xp {xs:List Nat}{u d:Nat}(y:Nat)(h:xs[u]? =some d):Rv (xs.set u y)+(if d<pl then 1 else 0)=Rv xs+(if y<pl then 1 else 0):=by
 unfold Rv
 induction xs generalizing u with
 |nil=>simp at h
 | cons x xs ih =>
   cases u with
   | zero =>
     simp at h;subst h;rw[List.set_cons_zero,List.countP_cons,List.countP_cons];simp only[decide_eq_true_eq]
     omega
   | succ u =>
     simp at h;have:=ih h;rw[List.set_cons_succ,List.countP_cons,List.countP_cons];omega
structure z1d (n L:Nat)(xs:List Nat):Prop where
 len:xs.length=n
 val:∀(v x:Nat),xs[v]? =some x->x<=n\/(pl<=x/\x<=pl+L)
theorem z1h {n L:Nat}{xs:List Nat}(hn:n<pl)(h:z1d n L xs)(u:Nat):z1d n L (lessC xs u)/\Rv (lessC xs u)=Rv xs/\∀(v y:Nat),xs[v]? =some y->y<pl->∃z,(lessC xs u)[v]? =some z/\z<pl:=by
 unfold lessC
 split
 ·rename_i d hd
  split
  ·exact⟨h,rfl,λv y h1 h2=>⟨y,h1,h2⟩⟩
  ·rename_i hc
   have hc1:d<pl:=by
    rcases Nat.lt_or_ge d pl with e| e
    ·exact e
    ·exact absurd (.inl e) hc
   have hc0:d≠0:=λe=>hc (.inr e)
   have hu:u<xs.length:=by
    rcases Nat.lt_or_ge u xs.length with e| e
    ·exact e
    ·rw[List.getElem?_eq_none e] at hd;cases hd
   refine⟨⟨by rw[List.length_set];exact h.len,λv x hx=>?_⟩,?_,λv y h1 h2=>?_⟩
   ·by_cases e:u=v
    ·subst e;rw[List.getElem?_set_self hu] at hx;cases hx;rcases h.val u d hd with h3|h3
     ·left;omega
     ·omega
    ·rw[List.getElem?_set_ne e] at hx;exact h.val v x hx
   ·have:=Xp (d-1) hd;rw[if_pos hc1,if_pos (by omega)] at this;omega
   ·by_cases e:u=v
    ·subst e;exact⟨d-1,List.getElem?_set_self hu,by omega⟩
    ·exact⟨y,by rw[List.getElem?_set_ne e];exact h1,h2⟩
 ·exact⟨h,rfl,λv y h1 h2=>⟨y,h1,h2⟩⟩
theorem Uw {n L:Nat}(hn:n<pl):∀(l:List Nat) {xs:List Nat},z1d n L xs->z1d n L (l.foldl lessC xs)/\Rv (l.foldl lessC xs)=Rv xs/\∀(v y:Nat),xs[v]? =some y->y<pl->∃z,(l.foldl lessC xs)[v]? =some z/\z<pl
 |[],xs,h=>⟨h,rfl,λv y h1 h2=>⟨y,h1,h2⟩⟩
 | u :: l, xs, h => by
   obtain⟨h1,h2,h3⟩:=z1h hn h u;obtain⟨k1,k2,k3⟩:=Uw hn l h1;rw[List.foldl_cons];refine⟨k1,by omega,λv y e1 e2=>?_⟩;obtain⟨z,f1,f2⟩:=h3 v y e1 e2;exact k3 v z f1 f2
structure SwC (n L m:Nat)(xs:List Nat)(p:List Nat×Bool×Bool):Prop where
 num:z1d n L p.1
 lft:Rv p.1+(if p.2.1 then 1 else 0)<=Rv xs
 left:p.2.2=true->L<n/\∃v y,v<m/\p.1[v]? =some y/\y<pl
theorem z25 {g:List (List Nat)}{L m:Nat}{xs:List Nat}{p:List Nat×Bool×Bool}(hn:g.length<pl)(hm:m<g.length)(h:SwC g.length L m xs p):SwC g.length L (m+1) xs (Xo g L p m):=by
 unfold Xo
 have hlen:=h.num.len
 split
 ·rename_i d hd
  split
  ·exact⟨h.num,h.lft,λe=>by obtain⟨h1,v,y,h2,h3⟩:=h.left e;exact⟨h1,v,y,by omega,h3⟩⟩
  ·rename_i hd1
   have hd2:d<pl:=by omega
   split
   ·rename_i hL
    refine⟨h.num,h.lft,λ_=>⟨?_,m,d,by omega,hd,hd2⟩⟩;rcases h.num.val m d hd with e|e<;>omega
   ·have hnum:z1d g.length L (p.1.set m (pl+L)):=⟨by rw[List.length_set];exact hlen,λv x hx=>by
     by_cases e:m=v
     ·subst e;rw[List.getElem?_set_self (by omega)] at hx;cases hx;exact .inr ⟨by omega,by omega⟩
     ·rw[List.getElem?_set_ne e] at hx
      exact h.num.val v x hx⟩
    obtain⟨k1,k2,k3⟩:=Uw hn (Mg g m) hnum;have hs:=Xp (pl+L) hd;rw[if_pos hd2,if_neg (by omega)] at hs;refine⟨k1,?_,λe=>?_⟩
    ·show Rv (SI g L p.1 m)+1<=Rv xs;have:=h.lft;unfold SI;have h0:0<=(if p.2.1=true then 1 else 0:Nat):=Nat.zero_le _;omega
    ·obtain⟨h1,v,y,h2,h3,h4⟩:=h.left e;obtain⟨z,f1,f2⟩:=k3 v y (by rw[List.getElem?_set_ne (by omega)];exact h3) h4;exact⟨h1,v,z,by omega,f1,f2⟩
 ·rename_i hd
  exact absurd hd (by rw[List.getElem?_eq_getElem (by omega)];simp)
theorem ZN {g:List (List Nat)}{L:Nat}{xs:List Nat}(hn:g.length<pl)(h:z1d g.length L xs):SwC g.length L g.length xs (VL g L xs):=by
 have key:∀m,m<=g.length->SwC g.length L m xs ((List.range m).foldl (Xo g L) (xs,false,false)):=λm=>by
  induction m with
  |zero=>exact λ_=>⟨h,Nat.le_refl _,λe=>by cases e⟩
  | succ m ih =>
    intro hm;rw[List.range_succ,List.foldl_append,List.foldl_cons,List.foldl_nil];exact z25 hn (by omega) (ih (by omega))
 exact key _ (Nat.le_refl _)
theorem z0S {xs:List Nat}{v y:Nat}(h:xs[v]? =some y)(hy:y<pl):1<=Rv xs:=by
 have:=Xp pl h
 rw[if_pos hy,if_neg (by omega)] at this
 omega
structure YH (g:List (List Nat))(s:QD):Prop where
 num:z1d g.length s.level s.xs
 t:s.t+Rv s.xs<=g.length+s.level
 lvl:s.level<=g.length+(if s.done then 1 else 0)
 run:s.done=false->1<=Rv s.xs
theorem z9m (xs:List Nat):Rv xs<=xs.length:=List.countP_le_length
theorem YH.new {g:List (List Nat)}(hg:P9 g)(h1:1<=g.length)(hn:g.length<pl):YH g (QD.new g):=by
 have hlen:(g.map List.length).length=g.length:=List.length_map ..
 have hv:∀(v x:Nat),(g.map List.length)[v]? =some x->x<=g.length:=λv x hx=>by
  rw[List.getElem?_map] at hx
  cases e:g[v]? with
  |none=>rw[e] at hx;cases hx
  | some l =>
    rw[e] at hx;cases hx;exact hg.len (List.mem_of_getElem? e)
 refine⟨⟨hlen,λv x hx=> .inl (hv v x hx)⟩,?_,Nat.zero_le _,λ_=>?_⟩
 ·have:=z9m (g.map List.length);show 0+Rv (g.map List.length)<=g.length+0;omega
 ·have e:(g.map List.length)[0]? =some ((g.map List.length)[0]'(by omega)):=List.getElem?_eq_getElem (by omega);have:=hv 0 _ e;exact z0S e (by omega)
theorem YH.step {g:List (List Nat)}{s:QD}(hn:g.length<pl)(h:YH g s)(hd:s.done=false):YH g (s.step g):=by
 have hs:=ZN hn h.num
 have h1:=hs.lft
 have h2:=hs.left
 have h3:=hs.num
 have ht:=h.t
 have hl:=h.lvl
 have hr:=h.run hd
 rw[hd] at hl
 have hl:s.level<=g.length:=by simpa using hl
 unfold QD.step
 obtain⟨q,hq⟩:∃q,VL g s.level s.xs=q:=⟨_,rfl⟩
 rw[hq] at h1 h2 h3⊢
 obtain⟨ys,b,c⟩:=q
 dsimp only at h1 h2 h3⊢
 refine⟨⟨h3.len,λv x hx=>(h3.val v x hx).imp id λe=>⟨e.1,?_⟩⟩,?_,?_,λe=>?_⟩
 ·cases b
  ·show x<=pl+(s.level+1);omega
  ·exact e.2
 ·cases b
  ·show s.t+1+Rv ys<=g.length+(s.level+1);have:Rv ys+0<=Rv s.xs:=h1;omega
  ·show s.t+1+Rv ys<=g.length+s.level;have:Rv ys+1<=Rv s.xs:=h1;omega
 ·cases c with
  | true =>
    have:=(h2 O).1;cases b
    ·show s.level+1<=g.length+0;omega
    ·show s.level<=g.length+0;omega
  | false =>
    cases b
    ·show s.level+1<=g.length+1;omega
    ·show s.level<=g.length+1;omega
 ·have e:c=true:=by simpa using e
  obtain⟨-,v,y,-,hv,hy⟩:=h2 e;exact z0S hv hy
theorem YH.zd1 {g:List (List Nat)}{s:QD}(h:YH g s)(hd:s.done=false):s.t<2*g.length:=by
 have h1:=h.t
 have h2:=h.lvl
 have h3:=h.run hd
 rw[hd] at h2
 have h2:s.level<=g.length:=by simpa using h2
 omega
theorem YH.bounds {g:List (List Nat)}{s:QD}(h:YH g s):s.t<=2*g.length+2/\s.level<=g.length+1:=by
 have h1:=h.t
 have h2:=h.lvl
 cases hd:s.done with
 | true => rw [hd] at h2; have h2 : s.level <= g.length + 1 := by simpa using h2
           omega
 | false => rw [hd] at h2; have h2 : s.level <= g.length := by simpa using h2
            omega
structure zba (g:List (List Nat)):Prop where
 sym:∀u v,u∈Mg g v->v∈Mg g u
 irr:∀v,v∉Mg g v
/-! ### Cores -/
abbrev QU:RvK QD:=⟨99,λs k v=>[I (s.t:Int),I (s.level:Int),.bool s.done,ptr k 0,ptr v 0,.bool false],QD.xs,QD.t⟩
theorem zci {P:Program}{e:Env}{d:Option Nat}{ty t t':TypeId}{pos:String}{aft:Array Edge}{g:Option (Nat×Bool)}{x y:Operand}{v:Nat}{w:World}(hv:v<4294967296)(hx:look e x=some (Mh v))(hy:look e y=some (.int .u64 2147483648)):Y P e ⟨d,.binOp .andNot t x y t',ty,pos,aft,g⟩ (Mh (v%2147483648)) w w:=fun ρ hρ=>by
 have h1:v<2^IntKind.u64.bits:=by simp only[IntKind.bits];omega
 have h3:v&&&18446744071562067967=v%2147483648:=by
  have h4:=R0 (s:=31) (a:=v / 2147483648) (b:=v%2147483648) (c:=8589934590) (d:=2147483647) (Nat.mod_lt _ (by decide)) (by decide);have h5:=Nat.and_two_pow_sub_one_eq_mod (v%2147483648) 31;rw[show(2:Nat)^31-1=2147483647 from rfl,show(2:Nat)^31=2147483648 from rfl,Nat.mod_mod] at h5
  have h6:v / 2147483648&&&8589934590=0:=by
   have:v / 2147483648=0\/v / 2147483648=1:=by omega
   rcases this with e|e<;>rw[e]<;>decide
  rw[h5,h6,show(2:Nat)^31=2147483648 from rfl,show v%2147483648+2147483648*(v / 2147483648)=v by omega,show 2147483647+2147483648*8589934590=18446744071562067967 from rfl] at h4;rw[h4];omega
 have h6:(BitVec.ofInt IntKind.u64.bits (v:Int)&&&~~~(BitVec.ofInt IntKind.u64.bits 2147483648)).toNat=v%2147483648:=by
  rw[BitVec.toNat_and,Nk h1,show(~~~(BitVec.ofInt IntKind.u64.bits 2147483648)).toNat=18446744071562067967 by decide,h3]
 have EC:look e x=some (.int .u64 (v:Int)):=hx
 simp only[execOp,eqGuard_andNot,binOp_andNot,intBits_andNot,hρ _ _ EC,hρ _ _ hy,pure_bind,Sem.run_pure,bits,h6]
 rw[Wp (k:= .u64) O (by simp only[IntKind.bits];omega)]
section
variable {G:WR}{w w':World}{Q Q':Ol}{txt txt':Int->Bytes}{K K':Nat}{X Y S':Nat->Prop}{rr vb sv:Nat}{s s':QD}
theorem OT.core (h:OT QU G Q txt K X rr vb sv s w):M7 w rr [I (s.t:Int),I (s.level:Int),.bool s.done,ptr G.k 0,ptr vb 0,.bool false] 99:=h.run
theorem Y5 (n:Nat)(hn:n<4294967296)(w:World):Mw Tryz.prog 43 [I (n:Int)] w λv w'=>v=S (Q4 4 n)/\Ext w w':=by
 have hb:(Q4 4 n).map PF=[Value.int .u8 ((n / 16777216%256:Nat):Int),Value.int .u8 ((n / 65536%256:Nat):Int),Value.int .u8 ((n / 256%256:Nat):Int),Value.int .u8 ((n%256:Nat):Int)]:=by
  simp[Q4,PF,List.range_succ]
 refine It (e:=[(0,_)]) Tryz.func43 O Tryz.ntmps43 O O$ qN O$ Me O$ qM O$ LW O$ qV (Qy 24 16777216 O O (by decide) O)$ qV (z0L O U3 U5)$ LW O$ qV (Qy 16 65536 O O (by decide) O)$ qV (z0L O U3 U5)$ LW O$ qV (Qy 8 256 O O (by decide) O)$ qV (z0L O U3 U5)$ LW O ?_
 refine qV (z0L O U3 U5)$ M5 O O (SA (cs:=[_,_,_,_]) (zs:=[Value.int .u8 0,Value.int .u8 0,Value.int .u8 0,Value.int .u8 0]) Nc TS O (by kernel_rfl) O O O (by decide)) ?_
 rintro _ w1 ⟨b1,rfl,⟨bR,ad,aj⟩,-⟩
 have fK:M7 w1 b1 ((Q4 4 n).map PF) 5:=by
  rw[hb];exact aj
 refine qV (z2u (l:=Q4 4 n) Nc U5 U9 O fK (by rw[List.drop_zero];exact List.take_of_length_le (by rw[List.length_map,Mu];omega)) (Mu _ _)) ?_
 refine M4 O$ LZ Tryz.func43 O ?_
 exact⟨_,rfl,rfl,ad⟩
theorem Rx (h:OT QU G Q txt K X rr vb sv s w):Mw Tryz.prog 38 [ptr rr 0] w λv w'=>v=I 0/\w'=w:=by
 have hB:=h.core
 refine It (e:=[(0,_)]) Tryz.func38 O Tryz.ntmps38 O O$ qN O$ M4 O$ run_seq$ LU$ qN O$ LW O$ qV (N7 WQ O O)$ M4 O$ An O$ qN O$ LW O$ MC O$ Ma z7n O ?_
 refine qV (M1 U4 O O hB O)$ M4 O$ An O$ py$ LV$ qN O$ M4 O$ LZ Tryz.func38 O ?_
 exact⟨_,rfl,rfl,rfl⟩
theorem z2o (b:Bool)(w:World):Mw Tryz.prog 44 [.bool b] w λv w'=>v=S [if b then 1 else 0]/\w'=w:=by
 refine It (e:=[(0,_)]) Tryz.func44 O Tryz.ntmps44 O O$ qN O$ M4 O$ run_seq$ qN O$ LW O$ LX ?_
 cases b with
 | true =>
   refine M9 O$ qN O$ M4 O$ LZ Tryz.func44 O ?_
   exact⟨_,rfl,rfl,rfl⟩
 | false =>
   refine An O$ py$ qN O$ M4 O$ LZ Tryz.func44 O ?_;exact⟨_,rfl,rfl,rfl⟩
theorem Zb (s:Bytes)(h8:s.length<=8)(w:World):Mw Tryz.prog 45 [S s] w λv w'=>v=Mh (valB (Ml s))/\Ext w w':=by
 refine It (e:=[(0,_)]) Tryz.func45 O Tryz.ntmps45 O O$ qN O$ Me O$ qM O$ M4 O$ run_seq$ qN O$ LW O$ M5 O O (z5y U9 Nc U5 O) ?_
 rintro _ w3 ⟨b7,c7,rest,rfl,⟨kF,ai,ar⟩,zK⟩
 refine O9 Nc O$ LW O$ LX$ LU$ Oh (α:=Nat) (0) (λi=>[(3,Mh (valB (Ml (s.take i)))),(7,.slice (some ⟨b7,0,none⟩) s.length c7),(8,I (s.length:Int)),(9,I (i:Int))]) (λi w'=>w'=w3/\i<=s.length) (λi=>s.length-i) ?hI ?hround
 case hI=>exact⟨rfl,Nat.zero_le _⟩
 case hround=>
  rintro i w4 ⟨rfl,hi⟩ ih
  try dsimp only
  refine qN O$ Ni O O$ LX$ run_seq$ M8 O (λh0=>?_)$ λh0=>?_
  ·obtain⟨c,hc⟩:∃c,s[i]? =some c:=⟨_,List.getElem?_eq_getElem (by omega)⟩;have dN:=c.toNat_lt;have g8:=Vf hc
   have aP:valB (Ml (s.take i))<72057594037927936:=by
    have h1:=NA (Ml (s.take i));rw[bitsT_length,List.length_take] at h1;have h2:2^(8*min i s.length)<=2^56:=Nat.pow_le_pow_right (by decide) (by omega);omega
   have aV:w4.cell? ⟨b7,0+i*1,none⟩=some (PF c):=by
    rw[ar.cell,Nat.zero_add,Nat.mul_one,List.getElem?_append_left (by rw[List.length_map];omega),List.getElem?_map,hc];rfl
   refine py$ run_seq$ LU$ qN O$ qV (MS Nc TS O O (by omega))$ qV (MA U5 O O aV) ?_
   generalize valB (Ml (s.take i))=q at g8 aP
   refine M4 O$ M0 O$ LW O$ qV (NW 8 256 O O (by decide) O)$ LW O$ qV ((by first|exact z2n O U5 Nv (by decide)|exact MQ O U5 Nv (by omega))) ?_;refine qV (W3 O O (by omega) (by omega)) ?_
   have mm:(q*256%18446744073709551616 |||c.toNat)=valB (Ml (s.take (i+1))):=by
    rw[g8,Nat.mod_eq_of_lt (by omega),Nat.mul_comm q];exact(Nat.two_pow_add_eq_or_of_lt (i:=8) dN q).symm
   rw[mm];refine M4 O$ LV$ M0 O$ MT O O$ LW O$ LX ?_;exact(ih (i+1) _ ⟨rfl,by omega⟩ (by omega)).qb
  ·have cy:i=s.length:=by omega
   subst cy;rw[List.take_length];refine M6 O$ qN O$ LW O$ M4 O$ LZ Tryz.func45 O ?_;exact⟨_,rfl,rfl,ai⟩
theorem We (h:OT QU G Q txt K X rr vb sv s w):Mw Tryz.prog 18 [ptr rr 0] w λv w'=>v=I (s.t:Int)/\w'=w:=by
 have hB:=h.core
 refine It (e:=[(0,_)]) Tryz.func18 O Tryz.ntmps18 O O$ qN O$ M4 O$ run_seq$ qN O$ LW O$ qV (N7 WQ O O)$ LX$ An O$ py$ qN O$ LW O$ MC O$ Ma Pa O ?_
 refine Ma z06 O$ qV (M1 U3 O O hB O)$ M4 O$ LZ Tryz.func18 O ?_
 exact⟨_,rfl,rfl,rfl⟩
theorem z3o {width:Nat}{xs:List Nat}(hv:Sn Q txt vb width sv xs w){i:Int}(hi:i<0\/(xs.length:Int)<=i):Mw Tryz.prog 40 [ptr vb 0,I i] w λv w'=>v= .tuple #[Mh 0,I 1]/\w'=w:=by
 have hB:=hv.cells
 refine It (e:=[(0,_),(1,_)]) Tryz.func40 O Tryz.ntmps40 O O$ qN O$ Me O$ M4 O$ run_seq$ qN O$ LW O$ Mn z2m O (OS hv) ?_
 rintro _ w ⟨rfl,rfl⟩
 refine Me O$ qM O$ LW O$ N9 O O ?_
 by_cases h0:i<0
 ·refine LX$ An O$ py$ run_seq$ qN O$ LW O$ Ni O O$ O4$ LW O$ qS$ qS$ qS$ qS$ qS ?_;refine qS$ qS$ NC O O$ LX$ M9 O$ qN O$ Me O$ M4 O$ LZ Tryz.func40 O ?_;exact⟨_,rfl,rfl,rfl⟩
 ·have h1:(xs.length:Int)<=i:=hi.resolve_left h0;refine LX$ An O$ py$ run_seq$ qN O$ LW O$ Ni O O$ ML$ Md O O$ LW O$ MC O$ Ma NM O$ Ma Tw O$ qV (M1 U3 O O hB O) ?_;refine PD O O$ O4$ MN O O$ LX$ M9 O$ qN O$ Me O$ M4 O$ LZ Tryz.func40 O ?_;exact⟨_,rfl,rfl,rfl⟩
def z1K (s:QD)(i:Int):Value:=if s.done=false then .tuple #[Mh 0,I 16] else if i<0\/(s.xs.length:Int)<=i then .tuple #[Mh 0,I 1] else .tuple #[Mh ((s.xs[i.toNat]?).getD 0%2147483648),I 0]
theorem VO (h:OT QU G Q txt K X rr vb sv s w)(i:Int):Mw Tryz.prog 10 [ptr rr 0,I i] w λv w'=>v=z1K s i/\OT QU G Q txt K X rr vb sv s w'/\Kp (λb=>¬(X b\/b=G.rb)) w w':=by
 have hB:=h.core
 refine It (e:=[(0,_),(1,_)]) Tryz.func10 O Tryz.ntmps10 O O$ qN O$ Me O$ M4 O$ run_seq$ qN O$ LW O$ Mn z96 O (Rx h) ?_
 rintro _ w ⟨rfl,rfl⟩
 refine Me O$ qM O$ LW O$ N9 O O$ LX$ An O$ py$ run_seq$ qN O$ LW O$ MC O$ Ma Pa O$ Ma VV O ?_
 by_cases hd:s.done=false
 ·rw[hd] at hB;refine qV (M1 U4 O O hB O)$ qV ((by first|exact MX O|exact Oy O)) ?_;refine LX$ M9 O$ qN O$ Me O$ M4 O$ LZ Tryz.func10 O ?_;unfold z1K;rw[if_pos hd];exact⟨_,rfl,rfl,h,Kp.refl _ _⟩
 ·have tU:s.done=true:=by simpa using hd
  rw[tU] at hB;refine qV (M1 U4 O O hB O)$ qV ((by first|exact MX O|exact Oy O)) ?_;refine LX$ An O$ py$ qN O$ LW O$ MC O$ Ma RP O$ qV (M1 U90 O O hB O)$ LW O ?_;by_cases hi:i<0\/(s.xs.length:Int)<=i
  ·refine Mn z8Z O (z3o h.vec hi) ?_;rintro _ w ⟨rfl,rfl⟩;refine LW O$ N5 O O$ N5 O O$ Me O$ M4 O$ Mz.qb (e:=[(4,_),(5,_),(7,_),(8,_)]) ?_;refine qN O$ LW O$ qV (zci (v:=0) (by decide) O O)$ LW O$ Me O$ M4 O$ LZ Tryz.func10 O ?_;unfold z1K;rw[if_neg hd,if_pos hi];exact⟨_,rfl,rfl,h,Kp.refl _ _⟩
  ·obtain⟨n,rfl⟩:∃n:Nat,i=(n:Int):=⟨i.toNat,by omega⟩;obtain⟨x,hx⟩:∃x,s.xs[n]? =some x:=⟨_,List.getElem?_eq_getElem (by omega)⟩;have ay:=(h.vec.z9g (xs:=s.xs) hx).1;refine Mn z8Z O (Vz h.g.sp h.g.lt1 h.g.ZE h.vec (.inl h.xr.2) (i:=n) hx) ?_;rintro _ w1 ⟨rfl,iN,aK⟩;have h1:=h.read aK iN;refine LW O$ N5 O O$ N5 O O$ Me O$ M4 O$ Mz.qb (e:=[(4,_),(5,_),(7,_),(8,_)]) ?_;refine qN O$ LW O$ qV (zci (v:=x) ay O O)$ LW O$ Me O$ M4 O$ LZ Tryz.func10 O ?_;unfold z1K;rw[if_neg hd,if_neg hi,show((n:Int)).toNat=n by omega,hx];exact⟨_,rfl,rfl,h1,aK⟩
def QD.put (s:QD)(xs:List Nat):QD:={s with xs:=xs}
theorem z5z (xs:List Nat)(u:Nat):(lessC xs u).length=xs.length:=by
 unfold lessC
 split
 ·split
  ·rfl
  ·exact List.length_set
 ·rfl
theorem z2C (h:OT QU G Q txt K X rr vb sv s w)(hK:K+1<1000000000000){u:Nat}(hu:u<G.g.length):Mw Tryz.prog 76 [ptr rr 0,I (u:Int)] w λv w'=>v=I 0/\∃txt',OT QU G Q txt' (K+1) X rr vb sv (s.put (lessC s.xs u)) w'/\(∀y:Int,y<(sv:Int)\/(sv:Int)+1<=y->txt' y=txt y)/\Kp (λb=>¬(X b\/b=G.rb)) w w':=by
 have hB:=h.core
 have aA:s.xs.length=G.g.length:=h.len
 obtain⟨x,hx⟩:∃x,s.xs[u]? =some x:=⟨_,List.getElem?_eq_getElem (by omega)⟩
 have ay:=(h.vec.z9g (xs:=s.xs) hx).1
 refine It (e:=[(0,_),(1,_)]) Tryz.func76 O Tryz.ntmps76 O O$ qN O$ Me O$ qM O$ LW O$ MC O$ Ma RP O$ qV (M1 U90 O O hB O)$ LW O$ Mn z8Z O (Vz h.g.sp h.g.lt1 h.g.ZE h.vec (.inl h.xr.2) (i:=u) hx) ?_
 rintro _ w1 ⟨rfl,iN,aK⟩
 have h1:=h.read aK iN
 have aj:=h1.core
 by_cases hc:pl<=x\/x=0
 ·have hl:lessC s.xs u=s.xs:=by
   unfold lessC;rw[hx];exact if_pos hc
  rw[hl];refine LW O$ N5 O O$ N5 O O$ Me O$ M4 O$ run_seq$ qN O$ LW O$ N9 O O$ Md O O ?_;rcases hc with hc|hc
  ·have LJ:2147483648<=x:=hc;refine PD O O$ O4$ MN O O$ LW O$ qS$ qS$ NC O O$ LX$ M9 O$ qN O$ LW O$ M4 O$ Mz.qb (e:=[(0,_),(1,_),(4,_),(5,_)]) ?_;refine LZ Tryz.func76 O ?_;exact⟨_,rfl,rfl,txt,h1.more (Nat.le_succ _) hK,λ_ _=>rfl,aK⟩
  ·subst hc;refine PD O O$ ML$ MN O O$ Md O O$ O3 O O$ O4$ MN O O$ LX$ M9 O$ qN O$ LW O$ M4 O$ Mz.qb (e:=[(0,_),(1,_),(4,_),(5,_)]) ?_;refine LZ Tryz.func76 O ?_;exact⟨_,rfl,rfl,txt,h1.more (Nat.le_succ _) hK,λ_ _=>rfl,aK⟩
 ·have hl:lessC s.xs u=s.xs.set u (x-1):=by
   unfold lessC;rw[hx];exact if_neg hc
  have dP:x<2147483648/\x≠0:=by have e:pl=2147483648:=rfl;omega
  rw[hl];refine LW O$ N5 O O$ N5 O O$ Me O$ M4 O$ run_seq$ qN O$ LW O$ N9 O O$ ML$ Md O O$ PD O O$ ML$ MN O O ?_;refine Md O O$ O3 O O$ ML$ MN O O$ LX$ An O$ py$ qN O$ LW O$ MC O$ Ma RP O$ qV (M1 U90 O O aj O)$ Md O O$ qV (SC (k:= .u64) (m:=x) (n:=1) O O O (by show x<2^64;omega) (by omega)) ?_;refine Mn zbG O (Vu h1.g.sp h1.g.lt1 h1.g.ZE h1.vec (.inl h.xr.2) (i:=u) (x:=x-1) (by show u<s.xs.length;omega) (by omega)) ?_;rintro _ w2 ⟨rfl,hW⟩;obtain⟨txt2,h2,nu,ao⟩:=h1.wrote (s':=s.put (s.xs.set u (x-1))) hK (λ_ _=>rfl) (List.length_set) hW;refine M4 O$ Mz.qb (e:=[(4,_)]) ?_;refine LZ Tryz.func76 O ?_;exact⟨_,rfl,rfl,txt2,h2,nu,aK.trans ao⟩
theorem z5g (h:OD G Q txt K X w){v:Nat}(hv:v<G.g.length):Mw Tryz.prog 35 [ptr G.k 0,I (v:Int)] w λr w'=>r= .tuple #[I ((Mg G.g v).length:Int),I 0]/\OD G Q txt K X w'/\Kp (λj=>¬X j) w w':=by
 obtain⟨o,h⟩:=h
 refine It (e:=[(0,_),(1,_)]) Tryz.func35 O Tryz.ntmps35 O O$ qN O$ Me O$ M4 O$ run_seq$ qN O$ Md O O$ M5 O O (SA (cs:=[_]) (zs:=[Value.int .i64 0]) O8 MV O (by kernel_rfl) O O O (by decide)) ?_
 rintro _ w1 ⟨vb1,rfl,⟨dh,ad,aj⟩,iM⟩
 have h1:=h.ext ad
 refine Mn ze3 O (Xl h1 hv iM.rd) ?_
 rintro _ w1 ⟨rfl,rfl⟩
 refine Me O$ qM O$ LW O$ N9 O O$ LX$ An O$ py$ qN O$ Md O O$ Mn zbY O (Y7 h1 hv) ?_
 rintro _ w2 ⟨b,a,s,rest,rfl,cI,iQ,bY,h2,ao⟩
 refine LW O$ qV (O6 (v:= .agg #[I ((Mg G.g v).length:Int),I (MB G.g G.E v:Int)]) O O)$ qV (O6 (v:=ptr b 0) O O)$ qV (O6 (v:=I ((a+(Mp (PM G.p G.g G.E v)).length:Nat):Int)) O O)$ qV (O6 (v:=I 0) O O)$ M5 O O (Oo (cs:=[_,_]) OG O) ?_
 rintro _ w3 ⟨b9,rfl,mJ,ai,ar⟩
 refine Mb O (MO (news:=[I ((Mg G.g v).length:Int),I (MB G.g G.E v:Int)]) OG O O O O ar (by simp)) ?_
 rintro w4 ⟨aH,av⟩
 replace aH:M7 w4 b9 [I ((Mg G.g v).length:Int),I (MB G.g G.E v:Int)] 157:=aH
 have cQ:Ext w2 w4:=ai.LS av (λj e=>by omega)
 have h4:=(h2.ext cQ).less (X:=X) (λj hj=> .inl hj) h.xk h.xx h.x1 h.x2
 refine Me O$ Me O$ Me O$ qM O$ Ma Pu O$ qV (M1 U3 O O aH O)$ LW O$ Me O$ M4 O$ Mz.qb (e:=[(4,_),(5,_)]) ?_
 refine LZ Tryz.func35 O ?_
 exact⟨_,rfl,rfl,⟨o,h4⟩,(ad.kp.trans ao).trans cQ.kp⟩
end
section
variable {G:WR}{w w':World}{Q Q':Ol}{txt txt':Int->Bytes}{K K':Nat}{X Y S':Nat->Prop}{rr vb sv:Nat}{s s':QD}
theorem Xj:∀(l:List Nat) (xs:List Nat),(l.foldl lessC xs).length=xs.length
 |[],xs=>rfl
 |u::l,xs=>by rw[List.foldl_cons,Xj l,z5z]
structure PeI (G:WR)(Q:Ol)(txt:Int->Bytes)(K:Nat)(X Y:Nat->Prop)(rr vb sv:Nat)(s:QD)(br b3:Nat)(w:World)(ys:List Nat)(w':World):Prop where
 ex:∃txt',OT QU G Q txt' K Y rr vb sv (s.put ys) w'/\∀y:Int,y<(sv:Int)\/(sv:Int)+1<=y->txt' y=txt y
 br:M7 w' br [ptr rr 0] 34
 b3:M7 w' b3 [I 0] 35
 k:Kp (λb=>¬X b) w w'
theorem PeI.own {br b3:Nat}{ys:List Nat}{w0:World}(h:PeI G Q txt K X Y rr vb sv s br b3 w0 ys w)(hk:Kp S' w w')(hS:∀j,S' j->Y j/\j≠G.k/\j≠G.x/\j≠0/\j≠1/\j≠rr/\j≠vb/\j≠br/\j≠b3/\w0.heap.size<=j):PeI G Q txt K X Y rr vb sv s br b3 w0 ys w':=by
 obtain⟨⟨txt',h1,h2⟩,h3,h5,h6⟩:=h
 refine⟨⟨txt',h1.own hk (λj e=>?_),h2⟩,hk.LY h3 (λe=>?_),hk.LY h5 (λe=>?_),h6.LS hk λj e=> .inl ?_⟩
 ·obtain⟨a1,a2,a3,a4,a5,a6,a7,-⟩:=hS j e;exact⟨a1,a2,a3,a4,a5,a6,a7⟩
 ·exact(hS _ e).2.2.2.2.2.2.2.1 O
 ·exact(hS _ e).2.2.2.2.2.2.2.2.1 O
 ·exact(hS _ e).2.2.2.2.2.2.2.2.2
theorem z3r {br v:Nat}(h:OT QU G Q txt K X rr vb sv s w)(hK:K<=900000000000)(vM:M7 w br [ptr rr 0] 34)(Ke:X br)(oM:s.level<=1000000)(hv:v<G.g.length):Mw Tryz.prog 74 [I (v:Int),ptr br 0] w λr w'=>r=I 0/\∃txt',OT QU G Q txt' (K+64) X rr vb sv (s.put (SI G.g s.level s.xs v)) w'/\(∀y:Int,y<(sv:Int)\/(sv:Int)+1<=y->txt' y=txt y)/\Kp (λb=>¬X b) w w':=by
 have md:=h.n
 have qo:=h.g.ok.gr
 have aA:s.xs.length=G.g.length:=h.len
 have aP:=h.g.lt1
 have fT:(Mg G.g v).length<=G.g.length:=by
  unfold Mg;rw[List.getElem?_eq_getElem hv];exact qo.len (List.getElem_mem hv)
 refine It (e:=[(0,_),(1,_)]) Tryz.func74 O Tryz.ntmps74 O O$ qN O$ M5 O O (Oo (cs:=[_]) z54 O) ?_
 rintro _ w1 ⟨b3,rfl,ek,ad,ar⟩
 have z1:=ad.size
 have l3:=ar.lt
 have lbr:=vM.lt
 obtain⟨X0,tV⟩:∃X0:Nat->Prop,(λj=>X j\/j=b3)=X0:=⟨_,rfl⟩
 have fh:∀j,X j->X0 j:=λj hj=>by rw[<-tV];exact .inl hj
 have aU:X0 br/\X0 b3:=by rw[<-tV];exact⟨.inl Ke,.inr O⟩
 have h1:OT QU G Q txt K X0 rr vb sv s w1:=h.grow ad (λj hj=>by rw[<-tV] at hj;exact hj.imp id λe=>by omega) fh
 have Kf:=aP rr (.inl h.xr.1)
 have Ff:=aP vb (.inl h.xr.2)
 have yM:=aP _ (.inl h.g.xk.1)
 have LK:=aP _ (.inl h.g.xk.2.1)
 have yQ:=aP _ (.inl h.g.xk.2.2.1)
 have LL:=aP _ (.inl h.g.xk.2.2.2)
 have gT:=ad.LY vM
 have kB:=h1.core
 have aw:=Ext.Mm w1
 refine LX$ run_seq$ run_seq$ NV (λw'=>Kp (λj=>¬(X0 j\/j=G.rb)) w1 w') O$ qT 0 O (λ_ hS=>(by first|exact M1 WQ O O (hS.LY gT (λe=>e (.inl aU.1))) O|exact M1 WQ O O (hS.LY kB (λe=>e (.inl h1.xr.1))) O)) (aw.kp) ?_
 refine M3 1 O (N4 O) (aw.kp)$ M3 2 O (My RP O) (aw.kp)$ qT 3 O (λ_ hS=>(by first|exact M1 U90 O O (hS.LY gT (λe=>e (.inl aU.1))) O|exact M1 U90 O O (hS.LY kB (λe=>e (.inl h1.xr.1))) O)) (aw.kp) ?_
 refine Mj 4 O O (aw.kp)$ qT 5 O (λ_ hS=>(by first|exact M1 WQ O O (hS.LY gT (λe=>e (.inl aU.1))) O|exact M1 WQ O O (hS.LY kB (λe=>e (.inl h1.xr.1))) O)) (aw.kp) ?_
 refine M3 6 O (N4 O) (aw.kp)$ M3 7 O (My Pa O) (aw.kp)$ M3 8 O (My XC O) (aw.kp)$ qT 9 O (λ_ hS=>(by first|exact M1 U3 O O (hS.LY gT (λe=>e (.inl aU.1))) O|exact M1 U3 O O (hS.LY kB (λe=>e (.inl h1.xr.1))) O)) (aw.kp) ?_
 refine M3 10 O (R4 O O (by omega)) (aw.kp)$ M3 11 O ((by first|exact MQ O U3 Nv (by omega)|exact Ob O U3 Nv)) (aw.kp) ?_
 rw[show(2147483648:Int)+(s.level:Int)=((2147483648+s.level:Nat):Int) by omega]
 refine Pm 12 O zbG O (Vu ((h1.ext aw).g.sp) (h1.ext aw).g.lt1 (h1.ext aw).g.ZE (h1.ext aw).vec (.inl h1.xr.2) (i:=v) (x:=2147483648+s.level) (by show v<s.xs.length;omega) (by omega)) ?_
 rintro _ w2 ⟨rfl,hW⟩
 refine⟨aw.kp.trans hW.kpX,?_⟩
 obtain⟨txt2,h2,nu,ao⟩:=(h1.ext aw).wrote (s':=s.put (s.xs.set v (pl+s.level))) (K':=K+1) (by omega) (λ_ _=>rfl) (List.length_set) hW
 have aY:=aw.kp.trans ao
 have tW:=aY.LY gT (λe=>e (.inl aU.1))
 have cV:=aY.LY ar (λe=>e (.inl aU.2))
 have yR:=h2.core
 have dE:Kp (λb=>¬X b) w w2:=ad.kp.trans (aY.Mc λb e e2=>e (.inl (fh b e2)))
 obtain⟨xs2,tX⟩:∃xs2,s.xs.set v (pl+s.level)=xs2:=⟨_,rfl⟩
 rw[tX] at h2
 have Kg:xs2.length=G.g.length:=by rw[<-tX,List.length_set];exact aA
 have z2:=aY.size
 refine M3 13 O (NX O) (aw.kp.trans hW.kpX)$ qE$ qN O$ LW O$ N9 O O$ LX$ An O$ py$ run_seq$ qN O$ qV ((by first|exact M1 WQ O O tW O|exact M1 WQ O O yR O)) ?_
 refine MC O$ Ma z2L O$ qV ((by first|exact M1 Ze O O tW O|exact M1 Ze O O yR O)) ?_
 refine LW O$ Mn zfZ O (z2B G.k v _) ?_
 rintro _ w6 ⟨bk,bi,rfl,uu,E1,gy,uG,aJ⟩
 have z6:=aJ.size
 refine LX$ Mz.qb (e:=[(1,_),(3,_),(29,_)]) ?_
 refine LU$ Qk (ps:=[30,31]) (p:=[]) (q:=[_,_]) O zcZ ?_
 rintro l wl dz fd cG hD Rc dM eW
 have zl:=dz.size
 have rC:=aJ.trans dz
 obtain⟨X1,kZ⟩:∃X1:Nat->Prop,(λj=>X0 j\/j=w6.heap.size\/j=l)=X1:=⟨_,rfl⟩
 have qp:∀j,X0 j->X1 j:=λj hj=>by rw[<-kZ];exact .inl hj
 have kY:X1 l/\X1 w6.heap.size:=by rw[<-kZ];exact⟨.inr (.inr O),.inr (.inl O)⟩
 have GE:OT QU G Q txt2 (K+1) X1 rr vb sv (s.put xs2) wl:=h2.grow rC (λj hj=>by rw[<-kZ] at hj;exact hj.imp id λe=>by omega) qp
 have tY:∀j,j=l\/j=w6.heap.size->j≠G.k/\j≠G.x/\j≠0/\j≠1/\j≠rr/\j≠vb/\j≠br/\j≠b3/\w.heap.size<=j:=λj hj=>by omega
 refine Mw.mono (z38 (by omega) hv GE.g (dz.LY uu) (dz.LY E1) (λj=>j=l) (λj hj=>hj▸kY.1)
  (λY i w'=>Rc .ready none w'/\PeI G Q txt (K+1+i) X Y rr vb sv s br b3 w (((Mg G.g v).take i).foldl lessC xs2) w'/\w'.heap[w6.heap.size]? =some (.deferred (some [])))
  (λ_=>False) ?_ ?_) ?_
 ·intro Y w7 bM uH tR aD;have kr:Kp (λj=>¬X1 j) w2 w7:=rC.kp.trans aD;exact⟨aD.rc dM eW (λe=>e kY.1),⟨⟨txt2,GE.list tR aD bM,nu⟩,kr.LY tW (λe=>e (qp _ aU.1)),kr.LY cV (λe=>e (qp _ aU.2)),dE.trans (kr.Mc λb e e2=>e (qp _ (fh b e2)))⟩,aD.heap hD (λe=>e kY.2)⟩
 ·rintro Y i u w7 bM uH hs ⟨GF,jq,Kh⟩;have iK:u<G.g.length:=Qr qo v u (List.mem_of_getElem? hs)
  have cy:i<(Mg G.g v).length:=by
   rcases Nat.lt_or_ge i (Mg G.g v).length with h| h
   ·exact h
   ·rw[List.getElem?_eq_none h] at hs;cases hs
  have dY:((Mg G.g v).take (i+1)).foldl lessC xs2=lessC (((Mg G.g v).take i).foldl lessC xs2) u:=by
   rw[MP hs,List.foldl_append];rfl
  rw[dY];obtain⟨q,hq⟩:∃q,((Mg G.g v).take i).foldl lessC xs2=q:=⟨_,rfl⟩;rw[hq] at jq⊢;have yS:Y br/\Y b3:=⟨bM _ (qp _ aU.1),bM _ (qp _ aU.2)⟩;have Ak:Y l/\Y w6.heap.size:=⟨bM _ kY.1,bM _ kY.2⟩;have ED:∀j,X j->Y j:=λj hj=>bM _ (qp _ (fh j hj));refine Rz dM GF O O$ qN O$ M4 O$ M0 O$ M4 O$ run_beginRound O dM GF ?_;rintro w8 De bz;obtain⟨⟨txt8,h8,Ag⟩,yT,mG,mH⟩:=jq.own bz (λj e=>⟨e▸Ak.1,tY j (.inl e)⟩);have Ki:=bz.heap Kh (by omega);refine LU$ run_seq$ qN O$ LW O$ N9 O O$ LX$ An O$ py$ qN O$ qV (M1 WQ O O yT O)$ LW O$ qV (MK O Np U3 (by omega))$ Mn zg2 O (z2C h8 (by omega) iK) ?_;rintro _ w9 ⟨rfl,txt9,h9,Ai,aO⟩;have EE:=aO.LY yT (λe=>e (.inl yS.1));have nz:=aO.LY mG (λe=>e (.inl yS.2));have Kj:=aO.heap Ki (λe=>e (.inl Ak.2));have Kk:=aO.rc dM De (λe=>e (.inl Ak.1));have o2:Kp (λb=>¬X b) w w9:=mH.trans (aO.Mc λb e e2=>e (.inl (ED b e2)));have EF:Kp (λj=>¬Y j\/j=l) w7 w9:=(bz.Mc λj e=> .inr e).trans (aO.Mc λj e=> .inl λe2=>e (.inl e2));refine Me O$ qM O$ LW O$ N9 O O$ LX$ An O$ py$ LV$ S8 dM Kk ?_;intro w12 EG aY;exact .inl ⟨rfl,⟨EG,PeI.own ⟨⟨txt9,h9,λy hy=>by rw[Ai y hy];exact Ag y hy⟩,EE,nz,o2⟩ aY (λj e=>⟨e▸Ak.1,tY j (.inl e)⟩),aY.heap Kj (by omega)⟩,EF.trans (aY.Mc λj e=> .inr e)⟩
 ·rintro v' wz ⟨rfl,⟨Y,bM,uH,Kl,Km,Kn⟩|hF⟩
  ·refine⟨_,_,Kl,by simp,λwy iB=>?_⟩;obtain⟨⟨txty,hy,A9⟩,Ko,EH,EI⟩:=Km.own iB (λj e=>⟨e▸bM _ kY.1,tY j (.inl e)⟩);have xT:=iB.heap Kn (by omega);have zy:=iB.size;rw[List.take_length] at hy;refine LV$ qN O$ Mb O (NT z54 O O O EH (by simp)) ?_;rintro wx ⟨EJ,gQ⟩;have Kq:=gQ.heap xT (by omega);have eV:Kp (λk=>k=w6.heap.size) wx (Q8 [.mk w6.heap.size] wx):=Nz wx w6.heap.size (.deferred none);have pY:=eV.LY EJ (by omega);refine LX$ Tk (by simp) (UM Kq) Tryz.func74 (.cell1 U35 O O ((pY).cell _) .nil) ?_;have EK:∀j,X j->Y j:=λj hj=>bM _ (qp _ (fh j hj));have EC:=hy.own gQ (λj e=>by rw[e];exact⟨bM _ (qp _ aU.2),by omega,by omega,by omega,by omega,by omega,by omega⟩);have nG:=EC.own eV (λj e=>by rw[e];exact⟨bM _ kY.2,by omega,by omega,by omega,by omega,by omega,by omega⟩);have vt:SI G.g s.level s.xs v=(Mg G.g v).foldl lessC xs2:=by unfold SI;rw[tX]
   rw[vt];refine⟨_,rfl,rfl,txty,(nG.less EK h.g.xk h.xr).more (by omega) (by omega),A9,?_⟩;exact(EI.LS gQ λb e=> .inl (by omega)).LS eV λb e=> .inl (by omega)
  ·exact hF.elim
theorem YM (g:List (List Nat))(L:Nat)(xs:List Nat)(v:Nat):(SI g L xs v).length=xs.length:=by
 unfold SI
 rw[Xj,List.length_set]
theorem z8m (g:List (List Nat))(L:Nat)(p:List Nat×Bool×Bool)(v:Nat):(Xo g L p v).1.length=p.1.length:=by
 unfold Xo
 split
 ·split
  ·rfl
  ·split
   ·rfl
   ·exact YM ..
 ·rfl
structure zgL (G:WR)(Q:Ol)(txt:Int->Bytes)(K:Nat)(X Y:Nat->Prop)(rr vb sv:Nat)(s:QD)(br:Nat)(w:World)(ys:List Nat)(w':World):Prop where
 ex:∃txt',OT QU G Q txt' K Y rr vb sv (s.put ys) w'/\∀y:Int,y<(sv:Int)\/(sv:Int)+1<=y->txt' y=txt y
 br:M7 w' br [ptr rr 0] 34
 k:Kp (λb=>¬X b) w w'
theorem z0B (h:OT QU G Q txt K X rr vb sv s w)(hK:K<=800000000000)(oM:s.level<=100000)(ht:s.t<=100000):Mw Tryz.prog 39 [ptr rr 0] w λr w'=>r=I 0/\∃txt',OT QU G Q txt' (K+3200) X rr vb sv (s.step G.g) w'/\(∀y:Int,y<(sv:Int)\/(sv:Int)+1<=y->txt' y=txt y)/\Kp (λb=>¬X b\/b=rr) w w':=by
 have md:=h.n
 have aA:s.xs.length=G.g.length:=h.len
 have aP:=h.g.lt1
 refine It (e:=[(0,_)]) Tryz.func39 O Tryz.ntmps39 O O$ qN O$ M5 O O (O2 O (cs:=[ptr rr 0]) O) ?_
 rintro _ w1 ⟨br,rfl,C2,ad,gT⟩
 have z1:=ad.size
 have lbr:=gT.lt
 obtain⟨X0,tV⟩:∃X0:Nat->Prop,(λj=>X j\/j=br)=X0:=⟨_,rfl⟩
 have fh:∀j,X j->X0 j:=λj hj=>by rw[<-tV];exact .inl hj
 have aU:X0 br:=by rw[<-tV];exact .inr O
 have h1:OT QU G Q txt K X0 rr vb sv s w1:=h.grow ad (λj hj=>by rw[<-tV] at hj;exact hj.imp id λe=>by omega) fh
 have Kf:=aP rr (.inl h.xr.1)
 have kB:=h1.core
 refine Me O$ qM O$ Me O$ Me O$ qM O$ qV (Zm (first:=[]) (caps:=[.tmp 1]) O O)$ M4 O$ run_seq$ qN O$ qV ((by first|exact M1 WQ O O gT O|exact M1 WQ O O kB O)) ?_
 refine MC O$ Ma z2L O$ qV ((by first|exact M1 Ze O O gT O|exact M1 Ze O O kB O)) ?_
 refine Mn z8S O (WE h1.g) ?_
 rintro _ w1 ⟨rfl,rfl⟩
 refine LW O$ LX$ LU$ Oh (α:=Nat×(List Nat×Bool×Bool)) ((0,(s.xs,false,false))) (λy=>[(1,ptr br 0),(3,.bool y.2.2.1),(4,.bool y.2.2.2),(5,.func (.func 74) #[] #[ptr br 0]),(15,I (G.g.length:Int)),(16,I (y.1:Int))]) (λy w'=>y.1<=G.g.length/\y.2=(List.range y.1).foldl (Xo G.g s.level) (s.xs,false,false)/\y.2.1.length=G.g.length/\zgL G Q txt (K+64*y.1) X X0 rr vb sv s br w y.2.1 w') (λy=>G.g.length-y.1) ?hI ?hround
 case hI=>exact⟨Nat.zero_le _,rfl,aA,⟨⟨txt,h1,λy _=>rfl⟩,gT,ad.kp⟩⟩
 case hround=>
  rintro⟨v,p⟩ w4 ⟨hv,hp,eQ,kh⟩ ih;dsimp only at hv hp eQ kh ih⊢;obtain⟨⟨txt4,h4,qq⟩,me,av⟩:=id kh;have o9:M7 w4 rr [I (s.t:Int),I (s.level:Int),.bool s.done,ptr G.k 0,ptr vb 0,.bool false] 99:=h4.core
  try dsimp only
  refine qN O$ Ni O O$ LX$ run_seq$ M8 O (λhq=>?_)$ λhq=>?_
  ·have gn:v<G.g.length:=by omega
   obtain⟨x,hx⟩:∃x,p.1[v]? =some x:=⟨_,List.getElem?_eq_getElem (by omega)⟩;have Kr:=(h4.vec.z9g (xs:=p.1) hx).1;have iT:(List.range (v+1)).foldl (Xo G.g s.level) (s.xs,false,false)=Xo G.g s.level p v:=by rw[List.range_succ,List.foldl_append,<-hp];rfl
   have jt:=z8m G.g s.level p v
   have kC:Xo G.g s.level p v=if pl<=x then p else if s.level<x then(p.1,p.2.1,true) else(SI G.g s.level p.1 v,true,p.2.2):=by
    unfold Xo;rw[hx]
   refine py$ run_seq$ LU$ qN O$ LW O$ Me O$ qM O$ qV ((by first|exact M1 WQ O O me O|exact M1 WQ O O o9 O)) ?_;refine MC O$ Ma RP O$ qV ((by first|exact M1 U90 O O me O|exact M1 U90 O O o9 O)) ?_;refine LW O$ Mn z8Z O (Vz h4.g.sp h4.g.lt1 h4.g.ZE h4.vec (.inl h4.xr.2) (i:=v) hx) ?_;rintro _ w5 ⟨rfl,gA,ak⟩;have h5:=h4.read ak gA;have gq:=ak.LY me (λe=>e (.inl aU));have jg:M7 w5 rr [I (s.t:Int),I (s.level:Int),.bool s.done,ptr G.k 0,ptr vb 0,.bool false] 99:=h5.core;have bT:Kp (λb=>¬X b) w w5:=av.trans (ak.Mc λb e e2=>e (.inl (fh b e2)));refine LW O$ N5 O O$ N5 O O$ Me O$ M4 O$ LU$ qN O$ LW O$ N9 O O$ M4 O$ An O$ qN O$ LW O ?_;by_cases un:2147483648<=x
   ·rw[if_pos un] at kC;refine PD O O$ O4$ M4 O$ M9 O$ py$ LV$ LV$ M0 O$ MT O O$ LW O$ LX ?_;exact(ih (v+1,p) w5 ⟨by omega,by rw[iT,kC],eQ,⟨⟨txt4,h5.more (by omega) (by omega),qq⟩,gq,bT⟩⟩ (by omega)).qb
   ·rw[if_neg un] at kC;refine PD O O$ ML$ M4 O$ An O$ qN O$ LW O$ qV ((by first|exact M1 WQ O O gq O|exact M1 WQ O O jg O)) ?_;refine MC O$ Ma Pa O$ Ma XC O$ qV ((by first|exact M1 U3 O O gq O|exact M1 U3 O O jg O)) ?_;refine qV ((by first|exact MQ O U3 Nv (by omega)|exact Ob O U3 Nv)) ?_;by_cases oz:s.level<x
    ·rw[if_pos oz] at kC;refine Ng O O$ O4$ M4 O$ M9 O$ M0 O$ M4 O$ LV$ LV$ M0 O$ MT O O$ LW O$ LX ?_;exact(ih (v+1,(p.1,p.2.1,true)) w5 ⟨by omega,by rw[iT,kC],eQ,⟨⟨txt4,h5.more (by omega) (by omega),qq⟩,gq,bT⟩⟩ (by omega)).qb
    ·rw[if_neg oz] at kC;refine Ng O O$ ML$ M4 O$ An O$ qN O$ Me O$ qM O$ Md O O$ Ny O O (OK zgs O O) (z3r h5 (by omega) gq aU (by show s.level<=1000000;omega) gn) ?_;rintro _ w6 ⟨rfl,txt6,h6,Eo,aR⟩;refine Me O$ qM O$ LW O$ N9 O O$ LX$ An O$ py$ LV$ LV$ M0 O$ MT O O$ LW O$ LX ((ih (v+1,(SI G.g s.level p.1 v,true,p.2.2)) w6 ⟨by omega,by rw[iT,kC],by show(SI G.g s.level p.1 v).length=_;rw[YM];exact eQ,⟨⟨txt6,?_,λy hy=>by rw[Eo y hy];exact qq y hy⟩,aR.LY gq (λe=>e aU),bT.trans (aR.Mc λb e e2=>e (fh b e2))⟩⟩ (by omega)).qb);exact h6.more (by omega) (by omega)
  ·have gn:v=G.g.length:=by omega
   subst gn;have Ks:p=VL G.g s.level s.xs:=hp;refine M6 O$ qN O$ qV ((by first|exact M1 WQ O O me O|exact M1 WQ O O o9 O)) ?_;refine MC O$ Ma Pa O$ Ma z06 O$ qV ((by first|exact M1 U3 O O me O|exact M1 U3 O O o9 O)) ?_;refine MT O O$ MC O$ Ma Pa O$ Ma z06 O ?_;rw[show(s.t:Int)+1=((s.t+1:Nat):Int) by omega];refine Mb O (NT MV O O O o9 (by simp)) ?_;rintro w5 ⟨aI,ak⟩;have h5:=h4.set (s':=⟨s.t+1,s.level,s.done,p.1⟩) ak (show M7 w5 rr (QU.cs (⟨s.t+1,s.level,s.done,p.1⟩:QD) G.k vb) QU.T from aI) O;have gq:=ak.LY me (by omega);have bT:Kp (λb=>¬X b\/b=rr) w w5:=(av.Mc λb e=> .inl e).trans (ak.Mc λb e=> .inr e);have jg:M7 w5 rr [I ((s.t+1:Nat):Int),I (s.level:Int),.bool s.done,ptr G.k 0,ptr vb 0,.bool false] 99:=h5.core
   have g7:∀(L:Nat) (w6:World),L=(if p.2.1 then s.level else s.level+1)->OT QU G Q txt4 (K+64*G.g.length) X0 rr vb sv ⟨s.t+1,L,s.done,p.1⟩ w6->∀w7,M7 w7 rr [I ((s.t+1:Nat):Int),I (L:Int),.bool (!p.2.2),ptr G.k 0,ptr vb 0,.bool false] 99->Kp (λb=>b=rr) w6 w7->OT QU G Q txt4 (K+3200) X rr vb sv (s.step G.g) w7:=λL w6 hL h6 w7 bK aD=>by
    have h7:=h6.set (s':=⟨s.t+1,L,!p.2.2,p.1⟩) aD (show M7 w7 rr (QU.cs (⟨s.t+1,L,!p.2.2,p.1⟩:QD) G.k vb) QU.T from bK) O
    have e:s.step G.g=⟨s.t+1,L,!p.2.2,p.1⟩:=by
     unfold QD.step;rw[<-Ks,hL]
    rw[e];exact(h7.less fh h.g.xk h.xr).more (by omega) (by omega)
   refine LX$ run_seq$ qN O$ LW O ?_
   cases hs:p.2.1 with
   | true =>
     rw[hs] at g7;refine qV ((by first|exact MX O|exact Oy O)) ?_;rw[show(!true)=false from rfl];refine LX$ An O$ py$ qN O$ qV ((by first|exact M1 WQ O O gq O|exact M1 WQ O O jg O)) ?_;refine LW O$ qV ((by first|exact MX O|exact Oy O)) ?_;refine MC O$ Ma Pa O$ Ma VV O$ Mb O (NT Sx O O O jg (by simp)) ?_;rintro w7 ⟨bK,aD⟩;refine qM O$ M4 O$ Mz.qb (e:=[(2,_)]) ?_;refine LZ Tryz.func39 O ?_
     exact⟨_,rfl,rfl,txt4,g7 s.level _ O h5 _ bK aD,qq,bT.trans (aD.Mc λb e=> .inr e)⟩
   | false =>
     rw[hs] at g7;refine qV ((by first|exact MX O|exact Oy O)) ?_;rw[show(!false)=true from rfl];refine LX$ M9 O$ M0 O$ qV ((by first|exact M1 WQ O O gq O|exact M1 WQ O O jg O)) ?_;refine MC O$ Ma Pa O$ Ma XC O$ qV ((by first|exact M1 U3 O O gq O|exact M1 U3 O O jg O)) ?_;refine MT O O$ MC O$ Ma Pa O$ Ma XC O ?_;rw[show(s.level:Int)+1=((s.level+1:Nat):Int) by omega];refine Mb O (NT MV O O O jg (by simp)) ?_;rintro w6 ⟨aS,aR⟩;have h6:=h5.set (s':=⟨s.t+1,s.level+1,s.done,p.1⟩) aR (show M7 w6 rr (QU.cs (⟨s.t+1,s.level+1,s.done,p.1⟩:QD) G.k vb) QU.T from aS) O;have EL:=aR.LY gq (by omega);have yU:M7 w6 rr [I ((s.t+1:Nat):Int),I ((s.level+1:Nat):Int),.bool s.done,ptr G.k 0,ptr vb 0,.bool false] 99:=h6.core;refine LX$ Mz.qb (e:=[(1,_),(4,_)]) ?_;refine qN O$ qV ((by first|exact M1 WQ O O EL O|exact M1 WQ O O yU O)) ?_;refine LW O$ qV ((by first|exact MX O|exact Oy O)) ?_;refine MC O$ Ma Pa O$ Ma VV O$ Mb O (NT Sx O O O yU (by simp)) ?_;rintro w7 ⟨bK,aD⟩;refine qM O$ M4 O$ LZ Tryz.func39 O ?_;exact⟨_,rfl,rfl,txt4,g7 (s.level+1) _ O h6 _ bK aD,qq,(bT.trans (aR.Mc λb e=> .inr e)).trans (aD.Mc λb e=> .inr e)⟩
end
section
variable {G:WR}{w w':World}{Q Q':Ol}{txt txt':Int->Bytes}{K K':Nat}{X Y S':Nat->Prop}{rr vb sv:Nat}{s s':QD}
theorem XD (h:OT QU G Q txt K X rr vb sv s w)(hK:K<=800000000000)(oM:s.level<=100000)(ht:s.t<=100000)(hd:s.done=false):Mw Tryz.prog 9 [ptr rr 0] w λv w'=>v= .tuple #[.bool (s.step G.g).done,I 0]/\∃txt',OT QU G Q txt' (K+3200) X rr vb sv (s.step G.g) w'/\(∀y:Int,y<(sv:Int)\/(sv:Int)+1<=y->txt' y=txt y)/\Kp (λb=>¬X b\/b=rr) w w':=by
 have hB:=h.core
 rw[hd] at hB
 refine It (e:=[(0,_)]) Tryz.func9 O Tryz.ntmps9 O O$ qN O$ Me O$ M4 O$ run_seq$ qN O$ LW O$ Mn z96 O (Rx h) ?_
 rintro _ w ⟨rfl,rfl⟩
 refine Me O$ qM O$ LW O$ N9 O O$ LX$ An O$ py$ run_seq$ qN O$ LW O$ MC O$ Ma Pa O$ Ma VV O$ qV (M1 U4 O O hB O) ?_
 refine LX$ An O$ py$ run_seq$ qN O$ LW O$ Mn zgc O (z0B h hK oM ht) ?_
 rintro _ w1 ⟨rfl,txt1,h1,rf,aK⟩
 have aj:=h1.core
 refine Me O$ qM O$ LW O$ N9 O O$ LX$ An O$ py$ qN O$ LW O$ MC O$ Ma Pa O$ Ma VV O$ qV (M1 U4 O O aj O)$ Me O ?_
 refine M4 O$ LZ Tryz.func9 O ?_
 exact⟨_,rfl,rfl,txt1,h1,rf,aK⟩
def crT (s:QD):Bytes:=Q4 4 s.t++[if s.done then 1 else 0]++Q4 4 s.level++T0 4 s.xs
theorem z3a (h:OT QU G Q txt K X rr vb sv s w)(oM:s.level<=1000000)(ht:s.t<=1000000):Mw Tryz.prog 16 [ptr rr 0] w λv w'=>v= .tuple #[S (crT s),I 0]/\OT QU G Q txt K X rr vb sv s w'/\Kp (λb=>¬(X b\/b=G.rb)) w w':=by
 have hB:=h.core
 have md:=h.n
 have hl:s.xs.length=G.g.length:=h.len
 have f9:=Mu 4 s.t
 have fE:=Mu 4 s.level
 have jt:=Qz 4 s.xs
 refine It (e:=[(0,_)]) Tryz.func16 O Tryz.ntmps16 O O$ qN O$ Me O$ M4 O$ run_seq$ qN O$ LW O$ Mn z96 O (Rx h) ?_
 rintro _ w ⟨rfl,rfl⟩
 refine Me O$ qM O$ LW O$ N9 O O$ LX$ An O$ py$ qN O$ LW O$ MC O$ Ma RP O$ qV (M1 U90 O O hB O)$ Mn zfx O (z1U h.g.sp h.g.lt1 h.g.ZE h.vec (.inl h.xr.2)) ?_
 rintro _ w1 ⟨rfl,iN,aK⟩
 have h1:=h.read aK iN
 have aj:=h1.core
 refine LW O$ N5 O O$ N5 O O$ Me O$ M4 O$ run_seq$ qN O$ LW O$ N9 O O ?_
 have aw:=Ext.Mm w1
 obtain⟨xs,pZ⟩:∃xs,QU.xs s=xs:=⟨_,rfl⟩
 have EM:(T0 4 xs).length=xs.length*4:=Qz 4 xs
 have FE:xs.length=G.g.length:=by rw[<-pZ];exact hl
 have Kt:crT s=Q4 4 s.t++[if s.done then 1 else 0]++Q4 4 s.level++T0 4 xs:=by rw[<-pZ];rfl
 rw[pZ]
 refine LX$ An O$ py$ run_seq$ NV (λw'=>Ext w1 w') O$ Mj 0 O O (aw)$ M3 1 O (N4 O) aw$ M3 2 O (My Pa O) aw$ M3 3 O (My z06 O) aw$ qT 4 O (λ_ h=>M1 U3 O O (h.LY aj) O) aw$ Mj 6 O O (aw)$ M3 7 O (N4 O) aw$ M3 8 O (My Pa O) aw$ M3 9 O (My VV O) aw ?_
 refine qT 10 O (λ_ h=>M1 U4 O O (h.LY aj) O) aw$ Mj 13 O O (aw)$ M3 14 O (N4 O) aw$ M3 15 O (My Pa O) aw$ M3 16 O (My XC O) aw$ qT 17 O (λ_ h=>M1 U3 O O (h.LY aj) O) aw$ Mj 20 O O (aw)$ Pm 5 O zeb O (Y5 s.t (by omega) _) ?_
 rintro _ w2 ⟨rfl,af⟩
 refine⟨aw.trans af,?_⟩
 have aa:=aw.trans af
 refine Pm 11 O zgo O (z2o s.done _) ?_
 rintro _ w3 ⟨rfl,rfl⟩
 refine⟨aa,?_⟩
 refine M3 12 O (Sz O O (by rw[f9];cases s.done<;>decide)) aa ?_
 refine Pm 18 O zeb O (Y5 s.level (by omega) _) ?_
 rintro _ w4 ⟨rfl,ay⟩
 refine⟨aa.trans ay,?_⟩
 have ag:=aa.trans ay
 refine M3 19 O (Sz O O (by rw[List.length_append,f9,fE];cases s.done<;>decide)) (aa.trans ay) ?_
 refine M3 21 O (Sz O O (by rw[List.length_append,List.length_append,f9,fE,EM];cases s.done<;>simp<;>omega)) (aa.trans ay) ?_
 refine M3 22 O (NX O) (aa.trans ay)$ M3 23 O (NX O) (aa.trans ay)$ qE$ Mz.qb (e:=[(2,_),(3,_)]) ?_
 refine LZ Tryz.func16 O ?_
 rw[Kt]
 exact⟨_,rfl,rfl,h1.ext ag,aK.trans ag.kp⟩
def nB (t:Bytes):Nat:=valB (Ml t)
def Wm (n:Nat)(t:Bytes):Option QD:=if t.length=9+4*n/\nB (t.take 4)<=2*n+2/\(t.getD 4 0).toNat<=1/\nB ((t.drop 5).take 4)<=n+1 then some ⟨nB (t.take 4),nB ((t.drop 5).take 4),decide ((t.getD 4 0).toNat=1),Qu 4 n (t.drop 9)⟩ else none
theorem zas {t:Bytes}{k:Nat}(h:t.length<=4):nB t<4294967296:=by
 have h1:=NA (Ml t)
 rw[bitsT_length] at h1
 have h2:2^(8*t.length)<=2^32:=Nat.pow_le_pow_right (by decide) (by omega)
 show valB (Ml t)<_
 omega
theorem z2M (h:OT QU G Q txt K X rr vb sv s w)(hK:K<=800000000000)(tx:Bytes):Mw Tryz.prog 17 [ptr rr 0,S tx] w λv w'=>v=I (if(Wm G.g.length tx).isSome then 0 else 4)/\∃txt',OT QU G Q txt' (K+1) X rr vb sv ((Wm G.g.length tx).getD s) w'/\(∀y:Int,y<(sv:Int)\/(sv:Int)+1<=y->txt' y=txt y)/\Kp (λb=>¬X b\/b=rr) w w':=by
 have hB:=h.core
 have md:=h.n
 have hl:s.xs.length=G.g.length:=h.len
 have A1:OT QU G Q txt (K+1) X rr vb sv s w:=h.more (Nat.le_succ _) (by omega)
 refine It (e:=[(0,_),(1,_)]) Tryz.func17 O Tryz.ntmps17 O O$ qN O$ M4 O$ run_seq$ qN O$ LW O$ Mn z96 O (Rx h) ?_
 rintro _ w ⟨rfl,rfl⟩
 refine Me O$ qM O$ LW O$ N9 O O$ LX$ An O$ py$ qN O$ LW O$ MC O$ Ma z2L O$ qV (M1 Ze O O hB O)$ Mn z8S O (WE h.g) ?_
 rintro _ w ⟨rfl,rfl⟩
 refine M4 O$ run_seq$ qN O$ LW O$ qV (Rr U9 O)$ LW O$ qV (SB O O (by omega))$ MT O O ?_
 by_cases aA:tx.length=9+4*G.g.length
 ·refine N9 O O$ ML ?_;have hg:=Ext.Mm w;have mu:(tx.take 4).length=4:=by rw[List.length_take];omega
  have Ku:((tx.drop 5).take 4).length=4:=by rw[List.length_take,List.length_drop];omega
  have bR:=zas (k:=0) (show(tx.take 4).length<=4 by omega);have bY:=zas (k:=0) (show((tx.drop 5).take 4).length<=4 by omega);have ek:=(tx.getD 4 0).toNat_lt;have oa:=λw1=>Zb (tx.take 4) (by omega) w1;have ob:=λw1=>Zb ((tx.drop 5).take 4) (by omega) w1;rw[show valB (Ml (tx.take 4))=nB (tx.take 4) from rfl] at oa;rw[show valB (Ml ((tx.drop 5).take 4))=nB ((tx.drop 5).take 4) from rfl] at ob
  have i8:∀(c:Prop) [Decidable c],c=(nB (tx.take 4)<=2*G.g.length+2/\(tx.getD 4 0).toNat<=1/\nB ((tx.drop 5).take 4)<=G.g.length+1)->Wm G.g.length tx=if c then some ⟨nB (tx.take 4),nB ((tx.drop 5).take 4),decide ((tx.getD 4 0).toNat=1),Qu 4 G.g.length (tx.drop 9)⟩ else none:=λc _ hc=>by
   unfold Wm;by_cases h1:c
   ·rw[if_pos h1,if_pos ⟨aA,hc▸h1⟩]
   ·rw[if_neg h1,if_neg (λe=>h1 (hc▸e.2))]
  obtain⟨N1,jb⟩:∃N1,nB (tx.take 4)=N1:=⟨_,rfl⟩;obtain⟨N2,Kv⟩:∃N2,nB ((tx.drop 5).take 4)=N2:=⟨_,rfl⟩;obtain⟨N3,GG⟩:∃N3,(tx.getD 4 0).toNat=N3:=⟨_,rfl⟩;rw[jb] at oa bR i8;rw[Kv] at ob bY i8;rw[GG] at ek i8;refine LX$ An O$ py$ run_seq$ NV (λw'=>Ext w w') O$ Mj 0 O O (hg)$ M3 1 O (XN U9 O O (by omega)) hg$ Mj 3 O O (hg)$ M3 4 O (zbq U9 O O (by omega)) hg$ Mj 5 O O (hg)$ M3 6 O (zbm U9 O O O (by omega)) hg$ Pm 2 O zcI O (oa _) ?_;rintro _ w1 ⟨rfl,ad⟩;refine⟨hg.trans ad,?_⟩;have aw:=hg.trans ad;rw[GG];refine Pm 7 O zcI O (ob _) ?_;rintro _ w2 ⟨rfl,af⟩;refine⟨aw.trans af,?_⟩;have aa:=aw.trans af;have am:=aa.LY hB;refine M3 8 O (NX O) (aw.trans af)$ M3 9 O (NX O) (aw.trans af)$ M3 10 O (NX O) (aw.trans af)$ qE$ Mz.qb (e:=[(0,_),(1,_),(4,_),(6,_),(7,_),(8,_),(9,_)]) ?_;refine run_seq$ qN O$ Md O O$ qV (SB O O (by omega))$ MT O O$ qV ((by first|exact MQ O U3 Nv (by omega)|exact Ob O U3 Nv)) ?_;by_cases hc:N1<=2*G.g.length+2/\N3<=1/\N2<=G.g.length+1
  ·have oc:=i8 _ O;rw[if_pos hc] at oc;rw[oc];obtain⟨c1,c2,c3⟩:=hc;refine Ng O O$ ML$ Md O O$ Ng O O$ ML$ MN O O$ Md O O$ LW O$ MT O O$ qV ((by first|exact MQ O U3 Nv (by omega)|exact Ob O U3 Nv)) ?_;refine Ng O O$ ML$ MN O O ?_;have ae:=Ext.Mm w2;have de:=aa.trans ae;have yz:=z1V (h.ext de).g.sp (h.ext de).g.lt1 (by omega) (h.ext de).vec (.inl h.xr.2) (s:=tx.drop 9) (by rw[List.length_drop];show _=s.xs.length*4;omega);rw[show R8 (QU.xs s).length (512 / 4)=1 by show R8 s.xs.length 128=1;rw[hl];unfold R8;omega] at yz;rw[show Qu 4 (QU.xs s).length (tx.drop 9)=Qu 4 G.g.length (tx.drop 9) by show Qu 4 s.xs.length _=_;rw[hl]] at yz;refine LX$ An O$ py$ run_seq$ run_seq$ NV (λw'=>Kp (λb=>¬(X b\/b=G.rb)) w2 w') O$ Mj 0 O O (ae.kp)$ M3 1 O (N4 O) (ae.kp)$ M3 2 O (My RP O) (ae.kp)$ qT 3 O (λ_ hS=>M1 U90 O O (hS.LY am (λe=>e (.inl h.xr.1))) O) (ae.kp)$ Mj 4 O O (ae.kp)$ M3 5 O (Ww U9 O O (by omega)) (ae.kp)$ Pm 6 O zg1 O (yz) ?_;rintro _ w3 ⟨rfl,hW⟩;refine⟨ae.kp.trans hW.kpX,?_⟩;obtain⟨txt3,h3,E4,au⟩:=(h.ext de).wrote (s':=s.put (Qu 4 G.g.length (tx.drop 9))) (K':=K+1) (by omega) (λ_ _=>rfl) (by show(Qu 4 G.g.length _).length=s.xs.length;rw[UF,hl]) hW;have ar:=h3.core;refine M3 7 O (NX O) (ae.kp.trans hW.kpX)$ qE$ Mz.qb (e:=[(0,_),(4,_),(7,_),(8,_),(9,_),(10,_)]) ?_;refine qN O$ LW O$ N9 O O$ LX$ An O$ py$ qN O$ Md O O$ qV (MK O Nv U3 (by omega))$ LW O$ qV (MK O Nv U3 (by omega))$ LW O$ O3 O O ?_;rw[show decide ((N3:Int)=1)=decide (N3=1) from decide_eq_decide.2 (by omega)];refine qV (OO (cs:=[_,_,_]) z9i O zgn O O)$ MC O$ Ma Pa O$ Mb O (MO (news:=[I (N1:Int),I (N2:Int),.bool (decide (N3=1))]) z9i O O O O ar (by simp)) ?_;rintro w4 ⟨aH,av⟩;have h4:=h3.set (s':=⟨N1,N2,decide (N3=1),Qu 4 G.g.length (tx.drop 9)⟩) av (show M7 w4 rr (QU.cs (⟨N1,N2,decide (N3=1),Qu 4 G.g.length (tx.drop 9)⟩:QD) G.k vb) QU.T from aH) O;refine qM O$ M4 O$ LZ Tryz.func17 O ?_;exact⟨_,rfl,rfl,txt3,h4,E4,((de.kp.trans au).Mc λb e=> .inl λe2=>e (.inl e2)).trans (av.Mc λb e=> .inr e)⟩
  ·have oc:=i8 _ O;rw[if_neg hc] at oc;rw[oc];have i6:OT QU G Q txt (K+1) X rr vb sv s w2/\Kp (λb=>¬X b\/b=rr) w w2:=⟨A1.ext aa,aa.kp⟩;by_cases c1:N1<=2*G.g.length+2
   ·refine Ng O O$ ML$ Md O O ?_;by_cases c2:N3<=1
    ·have c3:¬N2<=G.g.length+1:=λe=>hc ⟨c1,c2,e⟩;refine Ng O O$ ML$ MN O O$ Md O O$ LW O$ MT O O$ qV ((by first|exact MQ O U3 Nv (by omega)|exact Ob O U3 Nv)) ?_;refine Ng O O$ O4$ MN O O$ LX$ M9 O$ qN O$ M4 O$ LZ Tryz.func17 O ?_;exact⟨_,rfl,rfl,txt,i6.1,λ_ _=>rfl,i6.2⟩
    ·refine Ng O O$ O4$ MN O O$ LW O$ qS$ qS$ qS$ qS$ qS$ NC O O$ LX$ M9 O$ qN O$ M4 O ?_;refine LZ Tryz.func17 O ?_;exact⟨_,rfl,rfl,txt,i6.1,λ_ _=>rfl,i6.2⟩
   ·refine Ng O O$ O4$ LW O$ qS$ qS$ NC O O$ LW O$ qS$ qS$ qS$ qS$ qS$ NC O O$ LX ?_;refine M9 O$ qN O$ M4 O$ LZ Tryz.func17 O ?_;exact⟨_,rfl,rfl,txt,i6.1,λ_ _=>rfl,i6.2⟩
 ·have i8:Wm G.g.length tx=none:=by
   unfold Wm;rw[if_neg (λe=>aA e.1)]
  rw[i8];refine N9 O O$ O4$ LX$ M9 O$ qN O$ M4 O$ LZ Tryz.func17 O ?_;exact⟨_,rfl,rfl,txt,A1,λ_ _=>rfl,Kp.refl _ _⟩
end
section
variable {G:WR}{w w':World}{Q Q':Ol}{txt txt':Int->Bytes}{K K':Nat}{X Y S':Nat->Prop}{rr vb sv:Nat}{s s':QD}
def zfS (s:QD)(k:Nat):List Value:=[I (s.t:Int),I (s.level:Int),.bool s.done,ptr k 0,.pointer none,.bool true]
theorem z1P (h:OT QU G Q txt K X rr vb sv s w)(cY:2<=sv)(hc:Q.L[sv]? =some true):Mw Tryz.prog 12 [ptr rr 0] w λv w'=>v=I 0/\∃txt',OD G (Q.Nr (NU Q.L sv 1 false)) txt' K X w'/\M7 w' rr (zfS s G.k) 99/\(∀y:Int,y<(sv:Int)\/(sv:Int)+1<=y->txt' y=txt y)/\Kp (λb=>¬X b\/b=rr\/b=vb) w w':=by
 have hB:=h.core
 have hd:=h.S4
 have bP:=h.vec.fit
 have md:=h.n
 have hl:s.xs.length=G.g.length:=h.len
 have jt:R8 (QU.xs s).length 128=1:=by
  show R8 s.xs.length 128=1;rw[hl];unfold R8;omega
 obtain⟨n1,n2,n3,n4,n5,n6,n7,n8,n9⟩:=h.ne
 have dN:=z1w h.g.sp h.g.lt1 h.vec (.inl h.xr.2) cY (λi e1 e2=>by rw[show 512 / 4=128 from rfl,jt] at e2;rw[show i=sv by omega];exact hc)
 rw[show 512 / 4=128 from rfl,jt] at dN bP
 refine It (e:=[(0,_)]) Tryz.func12 O Tryz.ntmps12 O O$ qN O$ M4 O$ run_seq$ LU$ qN O$ LW O$ qV (N7 WQ O O)$ M4 O$ An O$ qN O$ LW O$ MC O$ Ma RP O ?_
 refine qV (M1 U90 O O hB O)$ qV (N7 U90 O O)$ M4 O$ An O$ py$ LV$ run_seq$ qN O$ LW O$ MC O$ Ma RP O$ qV (M1 U90 O O hB O)$ Mn zfP O (dN) ?_
 rintro _ w1 ⟨rfl,txt1,iN,rf,aK⟩
 have aj:=aK.LY hB (λe=>e.elim (λe=>e (.inl h.xr.1)) n1)
 refine Me O$ qM O$ LW O$ N9 O O$ LX$ An O$ py$ qN O$ Md O O$ MC O$ Ma RP O$ Mb O (NT zbx O O O aj (by simp)) ?_
 rintro w2 ⟨am,ao⟩
 replace am:M7 w2 rr [I (s.t:Int),I (s.level:Int),.bool s.done,ptr G.k 0,.pointer none,.bool false] 99:=am
 refine MC O$ Ma z7n O$ Mb O (NT Sx O O O am (by simp)) ?_
 rintro w3 ⟨ar,au⟩
 refine LX$ Mz.qb (e:=[(2,_)]) ?_
 refine qN O$ M4 O$ LZ Tryz.func12 O ?_
 have aw:OD G (Q.Nr (NU Q.L sv 1 false)) txt1 K X w1:=h.g.Yj aK (λb e=>e.elim .inl (λe=> .inr (by rw[e];exact⟨h.xr.2,n6,n7,n8,n9⟩))) iN O (NP bP) h.g.ZE (λy h1 h2=>rf y (.inl (by omega)))
 refine⟨_,rfl,rfl,txt1,(aw.own ao (λj e=>by rw[e];exact⟨h.xr.1,n2,n3,n4,n5⟩)).own au (λj e=>by rw[e];exact⟨h.xr.1,n2,n3,n4,n5⟩),ar,rf,?_⟩
 exact((aK.Mc λb e=>e.elim (λe=> .inl λe2=>e (.inl e2)) (λe=> .inr (.inr e))).trans (ao.Mc λb e=> .inr (.inl e))).trans (au.Mc λb e=> .inr (.inl e))
theorem Ti (h:OD G Q txt K X w)(hK:K<=700000000000)(md:G.g.length<=40){a:Nat}(hp:Pre Q.L a)(bP:a+1<=Q.L.length)(Kw:G.st+G.len<=a):Mw Tryz.prog 8 [ptr Q.s 0,ptr G.k 0] w λv w'=>∃rr vb txt',v= .tuple #[ptr rr 0,I 0]/\w.heap.size<=rr/\w.heap.size<=vb/\OT QU G (Q.Nr (NU Q.L a 1 true)) txt' (K+50) (λb=>X b\/b=rr\/b=vb) rr vb a (QD.new G.g) w'/\(∀y:Int,y<(a:Int)\/(a:Int)+1<=y->txt' y=txt y)/\Kp (λb=>¬X b) w w':=by
 have qo:=h.ok.gr
 have tZ:R8 G.g.length 128=1:=by
  unfold R8;omega
 have fd:(NU Q.L a 1 true).length=Q.L.length:=NP bP
 have GH:=z5k h.sp h.lt1 (by omega) hp G.g.length 4 (by omega) (by omega) (by rw[show 512 / 4=128 from rfl,tZ];exact bP)
 rw[show 512 / 4=128 from rfl,tZ] at GH
 refine It (e:=[(0,_),(1,_)]) Tryz.func8 O Tryz.ntmps8 O O$ qN O$ Me O$ M4 O$ run_seq$ qN O$ LW O$ qV (N7 To O O)$ Md O O$ qV (N7 Ze O O)$ MN O O$ LX$ An O$ py ?_
 refine qN O$ Md O O$ Mn z8S O (WE h) ?_
 rintro _ w ⟨rfl,rfl⟩
 refine Mn zgz O (GH) ?_
 rintro _ w1 ⟨vb,txt1,rfl,dh,iN,eT,rf,aK⟩
 have z1:=aK.size
 have lv:=eT.lt
 have bM:∀j,X j->(X j\/j=vb):=λj hj=> .inl hj
 have aw:OD G (Q.Nr (NU Q.L a 1 true)) txt1 (K+1) (λb=>X b\/b=vb) w1:=h.zdO aK (λb e=>e) bM (λj hj=>hj.imp id λe=>by omega) (iN.less λb e=>by rcases e with(e|e)|e;exact .inl (.inl e);exact .inr e;exact .inl (.inr e)) O fd (by omega) (λy h1 h2=>rf y (.inl (by omega)))
 have gz:(List.replicate G.g.length 0).length=G.g.length:=List.length_replicate
 refine LW O$ N5 O O$ N5 O O$ Me O$ M4 O$ run_seq$ qN O$ LW O$ N9 O O$ LX$ An O$ py$ run_seq$ qN O ?_
 refine LW O$ Mn z8S O (WE aw) ?_
 rintro _ w1 ⟨rfl,rfl⟩
 refine LW O$ LX$ LU$ Oh (α:=Nat×List Nat) ((0,List.replicate G.g.length 0)) (λy=>[(1,ptr G.k 0),(6,ptr vb 0),(28,I (G.g.length:Int)),(29,I (y.1:Int))]) (λy w'=>y.1<=G.g.length/\y.2.length=G.g.length/\(∀j,j<y.1->y.2[j]? =some (Mg G.g j).length)/\(∃txt',OD G (Q.Nr (NU Q.L a 1 true)) txt' (K+1+y.1) (λb=>X b\/b=vb) w'/\Sn (Q.Nr (NU Q.L a 1 true)) txt' vb 4 a y.2 w'/\∀y:Int,y<(a:Int)\/(a:Int)+1<=y->txt' y=txt y)/\Kp (λb=>¬X b) w w'/\w1.heap.size<=w'.heap.size) (λy=>G.g.length-y.1) ?hI ?hround
 case hI=>exact⟨Nat.zero_le _,gz,λj hj=>absurd hj (Nat.not_lt_zero _),⟨txt1,aw,eT,rf⟩,aK.Mc λb e e2=>e (.inl e2),Nat.le_refl _⟩
 case hround=>
  rintro⟨i,ys⟩ w2 ⟨hi,qz,zk,⟨txt2,aa,jo,nu⟩,ao,mq⟩ ih;dsimp only at hi qz zk aa jo ih⊢
  try dsimp only
  refine qN O$ Ni O O$ LX$ run_seq$ M8 O (λhq=>?_)$ λhq=>?_
  ·have aU:i<G.g.length:=by omega
   have fT:(Mg G.g i).length<=G.g.length:=by
    unfold Mg;rw[List.getElem?_eq_getElem aU];exact qo.len (List.getElem_mem aU)
   refine py$ run_seq$ LU$ qN O$ LW O$ Me O$ qM O$ Md O O$ Mn zfX O (z5g aa aU) ?_;rintro _ w3 ⟨rfl,ae,au⟩;have um:=jo.kp au (λe=>e (.inr O));have gE:=Vu ae.sp ae.lt1 ae.ZE um (.inl (.inr O)) (i:=i) (x:=(Mg G.g i).length) (by rw[qz];exact aU) (by omega);refine LW O$ N5 O O$ N5 O O$ Me O$ M4 O$ run_seq$ qN O$ LW O$ O3 O O$ LX$ M9 O$ M0 O$ Md O O$ LW O ?_;refine qV ((by first|exact MQ O U3 Nv (by omega)|exact Ob O U3 Nv)) ?_;refine Mn zbG O (gE) ?_;rintro _ w4 ⟨rfl,txt4,iX,mI,qq,av⟩;rw[List.length_set,qz,show 512 / 4=128 from rfl,tZ] at qq;have ag:OD G (Q.Nr (NU Q.L a 1 true)) txt4 (K+1+i+1) (λb=>X b\/b=vb) w4:=ae.Yj av (λb e=> .inl e) iX O O (by omega) (λy h1 h2=>qq y (.inl (by omega)));refine Me O$ qM O$ LW O$ N9 O O$ LX$ An O$ py$ LV$ M0 O$ MT O O$ LW O$ LX ?_;have z3:=au.size;have z4:=av.size;refine(ih (i+1,ys.set i (Mg G.g i).length) _ ⟨by omega,by show(ys.set i _).length=_;rw[List.length_set];exact qz,λj hj=>?_,⟨txt4,ag,mI,λy hy=>by rw[qq y hy];exact nu y hy⟩,(ao.trans (au.Mc λb e e2=>e (.inl e2))).trans (av.Mc λb e e2=>e (.inl (.inl e2))),by omega⟩ (by omega)).qb;show(ys.set i _)[j]? =_;by_cases e:i=j
   ·subst e;rw[List.getElem?_set_self (by omega)]
   ·rw[List.getElem?_set_ne e];have hj:j<i+1:=hj;exact zk j (by omega)
  ·have aU:i=G.g.length:=by omega
   subst aU
   have Kx:ys=G.g.map List.length:=by
    apply List.ext_getElem?;intro j;by_cases hj:j<G.g.length
    ·rw[zk j hj,List.getElem?_map,List.getElem?_eq_getElem hj];unfold Mg;rw[List.getElem?_eq_getElem hj];rfl
    ·rw[List.getElem?_eq_none (by omega),List.getElem?_eq_none (by rw[List.length_map];omega)]
   subst Kx;have lt2:=aa.lt;have lv2:=lt2 vb (.inr O);refine M6 O$ qN O$ Md O O$ qV (OO (cs:=[_,_,_,_,_,_]) zgk O zg0 O O)$ M5 O O (O2 O (cs:=[I 0,I 0,.bool false,ptr G.k 0,ptr vb 0,.bool false]) O) ?_;rintro _ w4 ⟨rr,rfl,lJ,ay,aH⟩;refine Me O$ M4 O$ LZ Tryz.func8 O ?_;have lr:=aH.lt;have ag:=aa.grow ay (Y:=λb=>X b\/b=rr\/b=vb) (λj hj=>by rcases hj with e|e|e;exact .inl (.inl e);exact .inr (by omega);exact .inl (.inr e)) (λj hj=>hj.elim .inl λe=> .inr (.inr e));have aP:=h.lt;have b1:=aP _ h.xk.1;have b2:=aP _ h.xk.2.1;have b3:=aP _ h.xk.2.2.1;have b4:=aP _ h.xk.2.2.2;refine⟨_,rfl,rr,vb,txt2,rfl,by omega,dh,⟨ag.more (by omega) (by omega),aH,jo.ext ay,⟨.inr (.inl O),.inr (.inr O)⟩,⟨by omega,by omega,by omega,by omega,by omega,by omega,by omega,by omega,by omega⟩,Kw,qz,md⟩,nu,ao.trans ay.kp⟩
end
end Go.Proofs.YtfgjaafcgghnoaaGreatDoor
