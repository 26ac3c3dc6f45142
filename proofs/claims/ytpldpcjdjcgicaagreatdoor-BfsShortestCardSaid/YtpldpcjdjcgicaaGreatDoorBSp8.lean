/- Texts StA, VcQ, SumsP, SumsA, StB, StC, StD, StE, StF, Bds, StG, WkG, WkH, VcA, VcB, VcC, VcD, VcE, Bfp, Bfq, PkS, Gws, BfA, LpM, Bfr, one behind the other (what the statement BfsShortest does not use is left out). -/
import Derived.Test.YtpldpcjdjcgicaaGreatDoorBSp2
import Derived.Test.YtpldpcjdjcgicaaGreatDoorBSp7
import Derived.Room.AppendFits
import Derived.Lib.UnsafeStr
import Derived.Test.YtpldpcjdjcgicaaGreatDoorBSp6
import Derived.Test.YtpldpcjdjcgicaaGreatDoorBSp1
set_option maxHeartbeats 16000000
namespace Go.Proofs.YtpldpcjdjcgicaaGreatDoor
open Go Go.RowKit
set_option linter.all false
set_option maxRecDepth 100000
def W9 (n wd k:Nat):List Value:=(List.range wd).map fun i=>if i<k then Oq (UInt8.ofNat (n / 2^(8*(wd-1-i)))) else .int .u8 0
@[simp] theorem beTo_length (n wd k:Nat):(W9 n wd k).length=wd:=by simp[W9]
theorem Xb (n wd:Nat):W9 n wd 0=List.replicate wd (.int .u8 0):=by
 apply List.ext_getElem<;>simp[W9]
theorem YZ (n wd:Nat):W9 n wd wd=(Qg wd n).map Oq:=by
 simp only[W9,Qg,List.map_map]
 apply List.map_congr_left
 intro i hi
 rw[if_pos (by simpa using hi)];rfl
theorem Zo (n wd k:Nat)(h:k<wd):(W9 n wd k).set (0+k*1) (.int .u8 ((n / 2^(8*(wd-1-k))%256:Nat):Int))=W9 n wd (k+1):=by
 apply List.ext_getElem
 ·simp
 ·intro j h1 h2;have hj:j<wd:=by simpa using h2
  simp only[W9,List.getElem_set,List.getElem_map,List.getElem_range];by_cases vU:j=k
  ·subst vU;simp[Oq]
  ·rw[if_neg (by omega)];by_cases aO:j<k
   ·rw[if_pos aO,if_pos (by omega)]
   ·rw[if_neg aO,if_neg (by omega)]
theorem Us (n wd:Nat)(w:World)(hn:n<18446744073709551616)(oa:wd<=8):Lk Tryz.prog 79 [L5 n,I (wd:Int)] w fun v w'=>v=S (Qg wd n)/\Ext w w':=by
 have eL:maxLen=9223372036854775807:=rfl
 refine KJ (e:=[(0,_),(1,_)]) Tryz.func79 rfl Tryz.ntmps79 rfl rfl (qN rfl (KO rfl (qM rfl (An rfl (KU rfl rfl (pmk (c:=wd) (n:=wd) M4 SJ rfl rfl rfl (by omega) (by omega) (by omega)) ?_)))))
 rintro _ w1 ⟨b1,rfl,⟨bS,ad,ai⟩,-⟩
 refine KO rfl (py (run_seq (qN rfl (An rfl (qV (LM M4 rfl) (An rfl (py (KL ?_))))))))
 rw[<-Xb n wd] at ai
 refine MV (α:=Nat) (0) (fun k=>[(0,L5 n),(1,I (wd:Int)),(5,.slice (some ⟨b1,0,none⟩) wd wd),(10,I (wd:Int)),(11,I (k:Int))]) (fun k w'=>k<=wd/\KY w' b1 (W9 n wd k) 5/\Ext w w') (fun k=>wd-k) ?hI ?hround
 case hI=>exact⟨by omega,ai,ad⟩
 case hround=>
  rintro k w2 ⟨hk,ak,af⟩ ih
  try dsimp only
  refine qN rfl (qV (LX rfl rfl) (py (run_seq (KZ rfl (fun aO=>?_) (fun aO=>?_)))))
  ·have D5:k<wd:=by omega
   refine It (run_seq (KL (qN rfl (An rfl (KO rfl (py (KQ rfl (An rfl (An rfl (An rfl (An rfl (qV (Md rfl rfl (by omega)) (An rfl ?_)))))))))))));refine qV (Md rfl rfl (by omega)) (qV (Tu rfl rfl (by omega)) ?_);rw[show(8:Int)*(((wd:Int)-1)-(k:Int))=((8*(wd-1-k):Nat):Int) from by omega];refine qV (Ps (8*(wd-1-k)) (2^(8*(wd-1-k))) rfl rfl (by simp only[IntKind.bits];omega) rfl) ?_;refine qV (z7d rfl Mq U5) (qV (LC M4 SJ rfl rfl (by omega)) (L0 rfl (Mt SJ rfl rfl rfl ak (by simp;omega)) ?_));rintro w3 ⟨ao,au⟩;rw[Zo n wd k D5] at ao;refine py (KM (KQ rfl (LH rfl rfl (An rfl (py ?_)))));exact(ih (k+1) w3 ⟨by omega,ao,af.KK au (fun i hi=>by rw[hi,bS];exact Nat.le_refl _)⟩ (by omega)).qb
  ·have:k=wd:=by omega
   subst this;rw[YZ] at ak;refine KX rfl (qN rfl (An rfl (qV (z3f (l:=Qg k n) M4 U5 U9 rfl ak (by rw[List.drop_zero];exact List.take_of_length_le (by rw[List.length_map,LK];omega)) (by simp[Qg])) ?_)));refine KO rfl (py (KP Tryz.func79 rfl ?_));exact⟨_,rfl,rfl,af⟩
theorem WJ (s:Bytes)(hs:s.length<=8)(w:World):Lk Tryz.prog 80 [S s] w fun v w'=>v=L5 (valB (Lc s))/\Ext w w':=by
 refine KJ (e:=[(0,_)]) Tryz.func80 rfl Tryz.ntmps80 rfl rfl (qN rfl (KO rfl (py (run_seq (qN rfl (An rfl (KU rfl rfl (z4H U9 M4 U5 rfl) ?_)))))))
 rintro _ w1 ⟨b7,c7,rest,rfl,⟨kF,ad,ai⟩,Bn⟩
 refine qV (LM M4 rfl) (An rfl (py (KL (MV (α:=Nat) (0) (fun i=>[(2,L5 (valB (Lc (s.take i)))),(6,.slice (some ⟨b7,0,none⟩) s.length c7),(7,I (s.length:Int)),(8,I (i:Int))]) (fun i w'=>w'=w1/\i<=s.length) (fun i=>s.length-i) ?hI ?hround))))
 case hI=>exact⟨rfl,Nat.zero_le _⟩
 case hround=>
  rintro i w2 ⟨rfl,hi⟩ ih
  try dsimp only
  refine qN rfl (qV (LX rfl rfl) (py (run_seq (KZ rfl (fun h0=>?_) (fun h0=>?_)))))
  ·obtain⟨c,hc⟩:∃c,s[i]? =some c:=⟨_,List.getElem?_eq_getElem (by omega)⟩;have ew:=c.toNat_lt;have mR:=VC hc
   have aO:valB (Lc (s.take i))<72057594037927936:=by
    have h1:=Mv (Lc (s.take i));rw[bitsT_length,List.length_take] at h1;have h2:2^(8*min i s.length)<=2^56:=Nat.pow_le_pow_right (by decide) (by omega);omega
   have bc:w2.cell? ⟨b7,0+i*1,none⟩=some (Oq c):=by
    rw[ai.cell,Nat.zero_add,Nat.mul_one,List.getElem?_append_left (by rw[List.length_map];omega),List.getElem?_map,hc];rfl
   refine It (run_seq (KL (qN rfl (qV (LC M4 SJ rfl rfl (by omega)) (qV (Lm U5 rfl rfl bc) ?_)))))
   generalize valB (Lc (s.take i))=q at mR aO
   refine KO rfl (py (KQ rfl (An rfl (qV (MD 8 256 rfl rfl (by decide) rfl) (An rfl (qV ((by first|exact z39 rfl U5 Mq (by decide)|exact LF rfl U5 Mq (by omega))) ?_))))));refine qV (Vn rfl rfl (by omega) (by omega)) ?_
   have nM:(q*256%18446744073709551616 |||c.toNat)=valB (Lc (s.take (i+1))):=by
    rw[mR,Nat.mod_eq_of_lt (by omega),Nat.mul_comm q];exact(Nat.two_pow_add_eq_or_of_lt (i:=8) ew q).symm
   rw[nM];refine KO rfl (py (KM (KQ rfl (LH rfl rfl (An rfl (py ?_))))));exact(ih (i+1) _ ⟨rfl,by omega⟩ (by omega)).qb
  ·have cO:i=s.length:=by omega
   subst cO;rw[List.take_length];refine KX rfl (qN rfl (An rfl (KO rfl (py (KP Tryz.func80 rfl ?_)))));exact⟨_,rfl,rfl,ad⟩
def vcC (n width each st len s:Nat)(cl:Bool):List Value:=[I (n:Int),I (width:Int),I (each:Int),I (st:Int),I (len:Int),ptr s 0,.bool cl]
def PZ (n each:Nat):Nat:=max 1 ((n+each-1) / each)
structure Tw (Q:N1)(txt:Int->Bytes)(vb width st:Nat)(xs:List Nat)(w:World):Prop where
 KN:KY w vb (vcC xs.length width (512 / width) st (PZ xs.length (512 / width)) Q.s false) 137
 wd:width=1\/width=2\/width=4\/width=8
 t:VcT txt st width (512 / width) xs
 n:xs.length<=4194304
 fit:st+PZ xs.length (512 / width)<=Q.L.length
theorem z0k {n each:Nat}(he:1<=each){i:Nat}(hi:i<n):i / each<PZ n each:=by
 unfold PZ
 have h1:i / each<=(n-1) / each:=Nat.div_le_div_right (by omega)
 have h2:(n+each-1) / each=(n-1) / each+1:=by
  rw[show n+each-1=(n-1)+each by omega,Nat.add_div_right _ (by omega)]
 omega
section
variable {w w':World}{Q Q':N1}{txt txt':Int->Bytes}{vb width st:Nat}{xs ys:List Nat}{S':Nat->Prop}
theorem Tw.e (h:Tw Q txt vb width st xs w):64<=512 / width/\512 / width<=512/\512 / width*width=512/\1<=width/\width<=8:=by
 rcases h.wd with e|e|e|e<;>subst e<;>decide
theorem Tw.kp (h:Tw Q txt vb width st xs w)(hk:Kp S' w w')(hn:¬S' vb):Tw Q txt vb width st xs w':=⟨hk.KN h.KN hn,h.wd,h.t,h.n,h.fit⟩
theorem Tw.ext (h:Tw Q txt vb width st xs w)(hx:Ext w w'):Tw Q txt vb width st xs w':=h.kp (S':=fun _=>False) hx id
theorem Tw.lt (h:Tw Q txt vb width st xs w):vb<w.heap.size:=h.KN.lt
theorem Tw.at_ (h:Tw Q txt vb width st xs w){i:Nat}(hi:i<xs.length):st+i / (512 / width)<Q.L.length/\i%(512 / width)*width+width<=512/\i / (512 / width)<PZ xs.length (512 / width):=by
 obtain⟨h1,h2,h3,h4,h5⟩:=h.e
 have h6:=z0k (each:=512 / width) (by omega) hi
 have h7:=h.fit
 have h8:(i%(512 / width)+1)*width<=512 / width*width:=Nat.mul_le_mul_right _ (Nat.mod_lt _ (by omega))
 rw[Nat.add_mul,Nat.one_mul] at h8
 refine⟨by omega,by omega,h6⟩
theorem Tw.cells (h:Tw Q txt vb width st xs w):KY w vb [I (xs.length:Int),I (width:Int),I ((512 / width:Nat):Int),I (st:Int),I (PZ xs.length (512 / width):Int),ptr Q.s 0,.bool false] 137:=h.KN
def VcW (Q:N1)(txt:Int->Bytes)(K:Nat)(X:Nat->Prop)(vb width st:Nat)(ys:List Nat)(w w':World):Prop:=
 ∃txt',Sp Q txt' K X w'/\Tw Q txt' vb width st ys w'/\(∀y:Int,y<(st:Int)\/(st:Int)+(PZ ys.length (512 / width):Int)<=y->txt' y=txt y)/\Kp (fun b=>¬X b) w w'
end
end Go.Proofs.YtpldpcjdjcgicaaGreatDoor
namespace Go.Proofs.YtpldpcjdjcgicaaGreatDoor.Sums
def bit (c:Nat):Nat:=if c%2=1 then(c / 2)^^^2197175160 else c / 2
def z84 (c:Nat):Nat:=bit (bit (bit (bit (bit (bit (bit (bit c)))))))
def byte (c:Nat)(b:UInt8):Nat:=z84 (c^^^b.toNat)
def raw (c:Nat)(l:List UInt8):Nat:=l.foldl byte c
def neg (c:Nat):Nat:=4294967295^^^c
def on (c:Nat)(l:List UInt8):Nat:=neg (raw (neg c) l)
def crc (l:List UInt8):Nat:=on 0 l
def be4 (n:Nat):List UInt8:=[UInt8.ofNat (n / 16777216),UInt8.ofNat (n / 65536),UInt8.ofNat (n / 256),UInt8.ofNat n]
@[simp] theorem be4_length (n:Nat):(be4 n).length=4:=rfl
def head (k:UInt8)(p:List UInt8):List UInt8:=k::be4 p.length
def frame (k:UInt8)(p:List UInt8):List UInt8:=head k p++be4 (crc (head k p++p))++p
@[simp] theorem head_length (k:UInt8) (p:List UInt8):(head k p).length=5:=rfl
theorem z4N (c:Nat):(c / 2)^^^(2197175160&&&((4294967296-(c&&&1))%4294967296))=bit c:=by
 have h1:c&&&1=c%2:=Nat.and_two_pow_sub_one_eq_mod c 1
 rw[h1]
 unfold bit
 by_cases h:c%2=1
 ·rw[if_pos h,h]
  congr 1
 ·have h0:c%2=0:=by omega
  rw[if_neg h,h0];simp
theorem SV {a b:Nat}(ha:a<4294967296)(hb:b<4294967296):a^^^b<4294967296:=Nat.xor_lt_two_pow (n:=32) ha hb
theorem Qw {c:Nat}(h:c<4294967296):bit c<4294967296:=by
 unfold bit
 split
 ·exact SV (by omega) (by omega)
 ·omega
theorem z4z {c:Nat}(h:c<4294967296):z84 c<4294967296:=Qw (Qw (Qw (Qw (Qw (Qw (Qw (Qw h)))))))
theorem z2F {c:Nat}(h:c<4294967296)(b:UInt8):byte c b<4294967296:=z4z (SV h (by have:=b.toNat_lt;omega))
theorem z4s:∀(l:List UInt8) {c:Nat},c<4294967296->raw c l<4294967296
 |[],_,h=>h
 |b::l,_,h=>z4s l (z2F h b)
theorem z0o {c:Nat}(h:c<4294967296):neg c<4294967296:=SV (by omega) h
theorem z8K {c:Nat}(l:List UInt8)(h:c<4294967296):on c l<4294967296:=z0o (z4s l (z0o h))
theorem z9j (l:List UInt8):crc l<4294967296:=z8K l (by omega)
theorem z0Q (c:Nat)(a b:List UInt8):raw c (a++b)=raw (raw c a) b:=List.foldl_append ..
/-! ### The step is linear -/
/-! ### Linear maps, by their table -/
def iter (L:Nat->Nat):Nat->Nat->Nat
 |0,x=>x
 |n+1,x=>iter L n (L x)
/-! ### Frames -/
@[simp] theorem frame_length (k:UInt8) (p:List UInt8):(frame k p).length=9+p.length:=by simp[frame];omega
/-! ### A byte that is turned is told -/
theorem getD_take (s:List UInt8)(n i:Nat)(h:i<n):(s.take n).getD i 0=s.getD i 0:=by simp[List.getD,h]
def z5r (s:List UInt8)(i:Nat)(d:UInt8):List UInt8:=s.set i (s.getD i 0^^^d)
@[simp] theorem turned_length (s:List UInt8) (i:Nat) (d:UInt8):(z5r s i d).length=s.length:=by simp[z5r]
end Go.Proofs.YtpldpcjdjcgicaaGreatDoor.Sums
namespace Go.Proofs.YtpldpcjdjcgicaaGreatDoor
open Go Go.RowKit
set_option linter.unusedVariables false
abbrev U (n:Nat):Value:= .int .u32 (n:Int)
theorem z4R (c:Nat)(b:UInt8)(p:Nat)(T:TypeId)(w:World)(hB:KY w p [U c] T)(hc:c<4294967296):
  Lk Tryz.prog 111 [Oq b,ptr p 0] w fun v w'=>v= .tuple #[]/\KY w' p [U (Sums.byte c b)] T/\Kp (fun k=>k=p) w w':=by
 have hb:=b.toNat_lt
 have hx:=Sums.SV hc (show b.toNat<4294967296 by omega)
 refine KJ (e:=[(0,_),(1,_)]) Tryz.func111 rfl Tryz.ntmps111 rfl rfl (qN rfl (qV (KS Mk rfl rfl hB rfl) (An rfl (qV ((by first|exact z39 rfl U5 Mk (by decide)|exact z7v rfl U5 Mk (by omega))) ?_))))
 refine qV (z8v rfl rfl (by omega) (by omega)) (L0 rfl (Mt L8 rfl rfl rfl hB (by simp)) ?_)
 rintro w1 ⟨ai,aM⟩
 refine qM rfl (An rfl (py (KL (MV (α:=Nat×Nat) ((0,c^^^b.toNat)) (fun x=>[(0,Oq b),(1,ptr p 0),(7,I (x.1:Int))]) (fun x w'=>x.1<=8/\x.2<4294967296/\Sums.iter Sums.bit (8-x.1) x.2=Sums.byte c b/\KY w' p [U x.2] T/\Kp (fun k=>k=p) w w') (fun x=>8-x.1) ?hI ?hround))))
 case hI=>exact⟨by omega,hx,rfl,ai,aM⟩
 case hround=>
  rintro⟨k,d⟩ w2 ⟨bh,hd,hs,ak,am⟩ ih
  try dsimp only
  refine qN rfl (qV (LX rfl rfl) (py (run_seq (KZ rfl (fun aO=>?_) (fun aO=>?_)))))
  ·have ji:d&&&1<4294967296:=Nat.lt_of_le_of_lt Nat.and_le_right (by omega);have sM:(4294967296-(d&&&1))%4294967296<4294967296:=Nat.mod_lt _ (by omega);have iq:2197175160&&&((4294967296-(d&&&1))%4294967296)<4294967296:=Nat.lt_of_le_of_lt Nat.and_le_left (by omega);refine It (run_seq (KL (KQ rfl (qV (KS Mk rfl rfl ak rfl) (qV (Ps 1 2 rfl rfl (by decide) rfl) (qV (KS Mk rfl rfl ak rfl) (qV (z8w rfl rfl (by omega) (by omega)) (qV (zbQ rfl (by omega)) (qV (z8w rfl rfl (by omega) (by omega)) (qV (z8v rfl rfl (by omega) (by omega)) (L0 rfl (Mt L8 rfl rfl rfl ak (by simp)) ?_)))))))))));rintro w3 ⟨ao,au⟩;refine py (KM (KQ rfl (LH rfl rfl (An rfl (py ?_)))));simp only[List.set_cons_zero] at ao;rw[Sums.z4N] at ao;refine(ih (k+1,Sums.bit d) w3 ⟨by dsimp only at*;omega,Sums.Qw hd,?_,ao,am.trans au⟩ (by dsimp only at*;omega)).qb;have h8:8-k=(8-(k+1))+1:=by dsimp only at*;omega
   dsimp only at hs⊢;rw[h8] at hs;exact hs
  ·refine KX rfl (M8 Tryz.func111 rfl ?_);have hk:k=8:=by dsimp only at*;omega
   subst hk;refine⟨_,rfl,rfl,?_,am⟩;have:d=Sums.byte c b:=hs;rw[<-this];exact ak
theorem z95 {l:List UInt8}{rest:List Value}{k:Nat}(h:k<l.length):(l.map Oq++rest)[0+k*1]? =some (Oq (l.getD k 0)):=by
 rw[Nat.zero_add,Nat.mul_one,List.getElem?_append_left (by simpa using h)]
 simp[h,List.getD]
theorem Wt (c:Nat)(l:List UInt8)(k:Nat)(h:k<l.length):Sums.raw c (l.take (k+1))=Sums.byte (Sums.raw c (l.take k)) (l.getD k 0):=by
 rw[List.take_succ_eq_append_getElem h,Sums.z0Q]
 simp[Sums.raw,List.getD,h]
theorem z5s (c:Nat)(l:List UInt8)(w:World)(hc:c<4294967296)(hl:l.length<=9223372036854775807):
  Lk Tryz.prog 78 [U c,S l] w fun v w'=>v=U (Sums.on c l)/\Ext w w':=by
 refine KJ (e:=[(0,_),(1,_)]) Tryz.func78 rfl Tryz.ntmps78 rfl rfl (qN rfl (KU rfl rfl (MH rfl rfl) ?_))
 rintro _ w1 ⟨b1,rfl,bS,ad,ai⟩
 refine KO rfl (qM rfl (qV (KS Mk rfl rfl ai rfl) (qV (z88 rfl (by omega)) (L0 rfl (Mt L8 rfl rfl rfl ai (by simp)) ?_))))
 rintro w2 ⟨ak,am⟩
 simp only[List.set_cons_zero] at ak
 have af:Ext w w2:=ad.KK am (fun i hi=>by rw[hi,bS];exact Nat.le_refl _)
 refine qM rfl (qV (Zj (first:=[]) (caps:=[.tmp 2]) rfl rfl) (KO rfl (py (run_seq (qN rfl (An rfl (KU rfl rfl (z4H U9 M4 U5 rfl) ?_)))))))
 rintro _ w3 ⟨b3,cap,rest,rfl,⟨dZ,ah,ao⟩,jj⟩
 refine qV (LM M4 rfl) (An rfl (py (KL ?_)))
 have bG:b3≠b1:=by have:=ak.lt;omega
 refine MV (α:=Nat×Nat) ((0,Sums.neg c)) (fun x=>[(2,ptr b1 0),(5,.func (.func 111) #[] #[ptr b1 0]),(12,.slice (some ⟨b3,0,none⟩) l.length cap),(13,I (l.length:Int)),(14,I (x.1:Int))]) (fun x w'=>x.1<=l.length/\x.2<4294967296/\x.2=Sums.raw (Sums.neg c) (l.take x.1)/\KY w' b1 [U x.2] 46/\KY w' b3 (l.map Oq++rest) 5/\Ext w w') (fun x=>l.length-x.1) ?hI ?hround
 case hI=>exact⟨by simp,Sums.z0o hc,rfl,ah.KN ak,ao,af.trans ah⟩
 case hround=>
  rintro⟨k,d⟩ w4 ⟨hk,hd,hs,aJ,aF,aB⟩ ih;dsimp only at hk hd hs aJ
  try dsimp only
  refine qN rfl (qV (LX rfl rfl) (py (run_seq (KZ rfl (fun aO=>?_) (fun aO=>?_)))))
  ·have lQ:k<l.length:=by omega
   refine It (run_seq (KL (qN rfl (qV (LC M4 SJ rfl rfl (by omega)) (qV (KS U5 rfl rfl aF (z95 lQ)) (KO rfl (py (KQ rfl (An rfl (An rfl (Mi rfl rfl (Nk (args:=[.tmp 19]) zcc rfl rfl) (z4R d (l.getD k 0) b1 _ w4 aJ hd) ?_)))))))))));rintro _ w5 ⟨rfl,aN,aT⟩;refine py (KM (KQ rfl (LH rfl rfl (An rfl (py ((ih (k+1,Sums.byte d (l.getD k 0)) w5 ⟨lQ,Sums.z2F hd _,?_,aN,aT.KN aF bG,aB.KK aT (fun i hi=>by rw[hi,bS];exact Nat.le_refl _)⟩ (by dsimp only;omega)).qb))))));rw[Wt _ _ _ lQ,<-hs]
  ·refine KX rfl (qN rfl (qV (KS Mk rfl rfl aJ rfl) (qV (z88 rfl (by omega)) (KO rfl (py (KP Tryz.func78 rfl (⟨_,rfl,?_,aB⟩)))))));have lO:k=l.length:=by omega
   subst lO;rw[List.take_length] at hs;show U (Sums.neg d)=_;rw[hs]
   rfl
theorem z2r (l:List UInt8)(w:World)(hl:l.length<=9223372036854775807):
  Lk Tryz.prog 73 [S l] w fun v w'=>v=U (Sums.crc l)/\Ext w w':=by
 refine KJ (e:=[(0,_)]) Tryz.func73 rfl Tryz.ntmps73 rfl rfl (qN rfl (KO rfl (qM rfl (An rfl (La [.const (Value.int .u32 0),.tmp 3] zce rfl (z5s 0 l _ (by omega) hl) ?_)))))
 rintro _ w1 ⟨rfl,ad⟩
 refine KO rfl (py (KP Tryz.func73 rfl ?_))
 exact⟨_,rfl,rfl,ad⟩
set_option linter.all false
set_option maxRecDepth 100000
theorem Vm (s:Bytes):Lib.strCells ⟨s.toArray⟩=s.map Oq:=by simp[Lib.strCells,Oq]
section
variable {P:Program}{e:Env}{d:Option Nat}{ty t tu tn el:TypeId}{pos:String}{aft:Array Edge}{g:Option (Nat×Bool)}{x y:Operand}{w w':World}{n k:Nat}{v:Value}{cs:List Value}{s:Bytes}{kn:IntKind}{za:Int}
theorem YO (ht:P.underlying t=some (.slice el))(hu:P.underlying tu=some .string)(hs:TI P el (.int .u8 0) 1 1)(hv:Sl w v el 1 n cs)(hb:n+s.length<=140737488355328):
  ∃v' w',(Builtin.append_ #[t,tu] ty #[v,S s]).run P w= .ok v' w'/\Sl w' v' el 1 (n+s.length) (cs++s.map Oq)/\Kp (fun k=>v.ownBlock=some k) w w'/\(∀g,v'.ownBlock=some g->v.ownBlock=some g\/w.heap.size<=g):=by
 have eL:maxLen=9223372036854775807:=rfl
 obtain⟨i,hi,og,jg,pN⟩:=hs
 have e1:=NX s
 have e2:=Vm s
 rcases id hv.2 with⟨rfl,rfl⟩|⟨g,cap,cur,rfl,IC,hg,iY,lY,gB,Ft⟩
 ·have hx:cs=[]:=List.eq_nil_of_length_eq_zero (by simpa using hv.1);subst hx;obtain⟨v',w',hr,ho,hg,-⟩:=Lib.run_append_own_string (P:=P) w w.heap.size t tu ty el i ht hu hi og jg pN (.slice none 0 0) 0 [] (World.ownsRow_nil w w.heap.size el 1) ⟨s.toArray⟩ (by rw[e1];omega) (by rw[e1];exact hb) (Nat.le_refl _);rw[e1,e2] at ho;refine⟨v',w',hr,⟨ho.1,?_⟩,Kp.PH hg,fun g hg=> .inr (World.ownsRow.lt ho g hg).1⟩;rcases ho.2 with ID|⟨g,cap2,cur2,ke,bT,dz⟩
  ·exact .inl ID
  ·exact .inr ⟨g,cap2,cur2,ke,Nat.zero_le _,dz⟩
 ·by_cases eT:n+s.length<=cap
  ·by_cases hc:0<cap
   ·obtain⟨w',hr,ho,cD⟩:=Lib.run_append_fits_string (P:=P) w 0 t tu ty el i ht hu hi jg (some ⟨g,0,none⟩) n cap cs hv ⟨s.toArray⟩ hc (by rw[e1];exact eT);rw[e1,e2] at ho;rw[e1] at hr;exact⟨_,w',hr,ho,Kp.PH cD,fun g' cD=> .inl (by simpa[Value.ownBlock] using cD)⟩
   ·obtain⟨v',w',hr,ho,cD,-⟩:=Lib.run_append_own_string (P:=P) w 0 t tu ty el i ht hu hi og jg pN (.slice (some ⟨g,0,none⟩) n cap) n cs hv ⟨s.toArray⟩ (by rw[e1];omega) (by rw[e1];exact hb) (Nat.zero_le _);have IE:s=[]:=List.eq_nil_of_length_eq_zero (by omega);subst IE;have dz:=Lib.run_append_room_string (P:=P) w t tu ty el i ht hu hi jg g n cap cur hg ⟨[].toArray⟩ (by rw[e1];exact eT) (by rw[e1];simp only[Nat.mul_one] at gB;simp only[List.length_nil];omega);rw[dz] at hr;cases hr;rw[e1,e2] at ho;exact⟨_,_,dz,ho,Kp.PH cD,fun g' cD=> .inl (by simpa[Value.ownBlock] using cD)⟩
  ·obtain⟨v',w',hr,ho,cD,-⟩:=Lib.run_append_own_string (P:=P) w 0 t tu ty el i ht hu hi og jg pN (.slice (some ⟨g,0,none⟩) n cap) n cs hv ⟨s.toArray⟩ (by rw[e1];omega) (by rw[e1];exact hb) (Nat.zero_le _);have dz:=Lib.run_append_grow_string (P:=P) w t tu ty el i (.int .u8 0) ht hu hi og ⟨g,0,none⟩ n cap cs (by rw[jg];exact hv.1) (World.ownsRow.cells hv (g:=g) rfl) ⟨s.toArray⟩ (by rw[e1];omega) (by rw[e1];omega) (by rw[e1];exact growslice_fits (by omega) (by rw[pN];omega));rw[dz] at hr;cases hr;rw[e1,e2] at ho;refine⟨_,_,dz,by rw[<-e1] at ho⊢;exact ho,Kp.PH cD,fun g' cD=> .inr ?_⟩;simp[Value.ownBlock] at cD;omega
theorem zbz (ht:P.underlying t=some (.slice el))(hu:P.underlying tu=some .string)(hs:TI P el (.int .u8 0) 1 1)(hx:look e x=some v)(hy:look e y=some (S s))(hv:Sl w v el 1 n cs)(hb:n+s.length<=140737488355328):
  Yp P e ⟨d,.call ⟨.builtin .append,#[x,y],#[t,tu]⟩,ty,pos,aft,g⟩ w fun v' w'=>Sl w' v' el 1 (n+s.length) (cs++s.map Oq)/\Kp (fun k=>v.ownBlock=some k) w w'/\(∀g,v'.ownBlock=some g->v.ownBlock=some g\/w.heap.size<=g):=by
 obtain⟨v',w',hr,mT⟩:=YO (P:=P) (ty:=ty) ht hu hs hv hb
 refine⟨v',w',fun ρ hρ=>?_,mT⟩
 simp[execOp,resolve,invoke,builtin,hρ _ _ hx,hρ _ _ hy,hr]
theorem Zs (k:Nat):Builtin.zeroCells (Value.int .u8 0).cells k=(Lib.strCells ⟨(zeros k).toArray⟩).toArray:=by
 rw[Vm]
 apply Array.ext'
 rw[Sc (.int .u8 0) k rfl]
 simp[zeros,Oq]
theorem zc0 [qA:Ob za k](ht:P.underlying t=some (.slice el))(hn:P.underlying tn=some (.int kn))(hu:P.underlying tu=some .string)(hs:TI P el (.int .u8 0) 1 1)(hx:look e x=some v)(hy:look e y=some (I za))(hv:Sl w v el 1 n cs)(hb:n+k<=140737488355328):
  Yp P e ⟨d,.call ⟨.builtin .append,#[x,y],#[t,tn]⟩,ty,pos,aft,g⟩ w fun v' w'=>Sl w' v' el 1 (n+k) (cs++(zeros k).map Oq)/\Kp (fun k=>v.ownBlock=some k) w w'/\(∀g,v'.ownBlock=some g->v.ownBlock=some g\/w.heap.size<=g):=by
 obtain⟨rfl⟩:=qA
 have hl:(zeros k).length=k:=by simp[zeros]
 obtain⟨v',w',hr,h1,h2⟩:=YO (P:=P) (ty:=ty) (s:=zeros k) ht hu hs hv (by rw[hl];exact hb)
 rw[hl] at h1
 have he:(Builtin.append_ #[t,tn] ty #[v,I (k:Int)]).run P w= .ok v' w':=by
  rw[<-hr];obtain⟨i,hi,og,jg,pN⟩:=hs;have hw:IntKind.i64.wrap (k:Int)=k:=by rw[IntKind.wrap_i64];omega
  have sM:¬((k:Int)<0):=by omega
  have Fu:¬(281474976710656<(k:Int)*(i.bytes:Int)):=by rw[pN];omega
  have hf:=fun w=>Lib.run_firstCells_string (P:=P) w i.size ⟨(zeros k).toArray⟩;have co:(ByteArray.mk (zeros k).toArray).size=k:=by rw[NX,hl]
  rw[co] at hf
  obtain⟨a,c,IF⟩:∃a c,v= .slice a n c:=by
   rcases hv.2 with⟨rfl,rfl⟩|⟨g,cap,cur,rfl,_⟩
   ·exact⟨_,_,rfl⟩
   ·exact⟨_,_,rfl⟩
  subst IF;have IG:k=0->(Lib.strCells ⟨(zeros k).toArray⟩).toArray=#[]:=fun e=>by subst e;rfl
  have IH:c<=maxLen/\n<=c:=by
   rcases hv.2 with⟨h,h'⟩|⟨g,cap,cur,h,_,_,h1,h2,_⟩
   ·cases h;exact⟨by simp[maxLen],by omega⟩
   ·cases h;exact⟨h2,h1⟩
  have ci:n+k<=c\/¬(281474976710656<Builtin.nextslicecap (n+k) c*i.bytes):=by
   by_cases hr:n+k<=c
   ·exact .inl hr
   ·have:=growslice_fits (need:=n+k) (old:=c) (bytes:=i.bytes) (by omega) (by rw[pN];omega);exact .inr (by omega)
  have D6:¬(9223372036854775807<((n:Int)+(k:Int))):=by omega
  by_cases hk:k=0
  ·subst hk;have e0:=IG rfl;have jn:n<=c:=IH.2;have mh:IntKind.i64.wrap 0=0:=by rw[IntKind.wrap_i64];omega
   have il:=hf w;rw[jg,e0] at il;simp[Builtin.append_,run_underlying ht,run_underlying hn,run_underlying hu,sizeOf,typeInfo,zeroValue,hi,og,jg,asInt,asIntOf,mh,Builtin.lenOf,co,jn,il]
  ·have bK:=Zs k;have qF:∀w,(Builtin.firstCells 1 k (.string ⟨(zeros k).toArray⟩)).run P w= .ok (Builtin.zeroCells (Value.int .u8 0).cells k) w:=fun w=>by rw[bK];have:=hf w;rw[jg] at this;exact this
   have fY:¬(k*i.size=0):=by rw[jg];omega
   by_cases hr:n+k<=c
   ·simp[Builtin.append_,run_underlying ht,run_underlying hn,run_underlying hu,sizeOf,typeInfo,zeroValue,hi,og,jg,asInt,asIntOf,hw,sM,Fu,Builtin.lenOf,co,hr,qF,hk]
   ·have D7:=ci.resolve_left hr;simp[Builtin.append_,run_underlying ht,run_underlying hn,run_underlying hu,sizeOf,typeInfo,zeroValue,hi,og,jg,asInt,asIntOf,hw,sM,Fu,Builtin.lenOf,co,hr,qF,hk,D6,D7]
 refine⟨v',w',fun ρ hρ=>?_,h1,h2⟩
 simp[execOp,resolve,invoke,builtin,hρ _ _ hx,hρ _ _ hy,he]
end
/-! ### Writers -/
def swC (s st len:Nat)(rest:Value)(at' n:Nat)(sum:Nat)(put:Value)(dn:Bool):List Value:=[ptr s 0,I (st:Int),I (len:Int),rest,I (at':Int),I (n:Int),U sum,put,.bool dn]
section
variable {w w':World}{Q:N1}{txt:Int->Bytes}{K:Nat}{X:Nat->Prop}
theorem XA (n:Nat)(hn:n<=2000000)(w:World):Lk Tryz.prog 43 [I 512,I (n:Int)] w fun v w'=>v= .tuple #[I (((n+523) / 512:Nat):Int),I 0]/\w'=w:=by
 refine KJ (e:=[(0,_),(1,_)]) Tryz.func43 rfl Tryz.ntmps43 rfl rfl (qN rfl (KO rfl (KO rfl (py (run_seq (qN rfl (An rfl (qV (LX rfl rfl) (Ly (An rfl (An rfl (qV (LU rfl rfl) (Ly ?_)))))))))))))
 refine qV (Ls rfl rfl) (An rfl (An rfl (qV (yre rfl rfl (by omega)) (qV (M0 rfl rfl) (Ly (qV (Ls rfl rfl) (An rfl (An rfl (qV (LX rfl rfl) (Ly (qV (Ls rfl rfl) (An rfl (An rfl ?_)))))))))))))
 refine An rfl (qV (Tu rfl rfl (by omega)) (qV (Md rfl rfl (by omega)) (qV (LU rfl rfl) (Ly (qV (Ls rfl rfl) (py (Ll.qb (e:=[(0,_),(1,_),(4,_),(5,_),(27,_)]) ?_)))))))
 refine KH rfl (It (qN rfl (An rfl (LH rfl rfl (An rfl (LH rfl rfl (qV (Md rfl rfl (by omega)) (An rfl (qV (RE rfl rfl (by omega)) (KO rfl (KO rfl (py ?_))))))))))))
 rw[show((n:Int)+12+512-1) / 512=(((n+523) / 512:Nat):Int) by omega]
 refine KP Tryz.func43 rfl ?_
 exact⟨_,rfl,rfl,rfl⟩
theorem UA (h:Sp Q txt K X w){st len:Nat}(h1:1<=len)(h2:st+len<=Q.L.length):Lk Tryz.prog 74 [.agg #[ptr Q.s 0,I (st:Int),I (len:Int)]] w fun v w'=>v=I 0/\Ext w w':=by
 have dS:=h.n
 refine KJ (e:=[(0,_)]) Tryz.func74 rfl Tryz.ntmps74 rfl rfl (qN rfl (KU rfl rfl (MH rfl (cs:=[ptr Q.s 0,I (st:Int),I (len:Int)]) rfl) ?_))
 rintro _ w1 ⟨b1,rfl,bS,ad,ai⟩
 have hP:=h.ext' ad
 have hg:=Ext.Lb w1
 have Fv:=(hP.ext' hg).dev
 have Fw:=(hP.ext' hg).blocks
 refine KO rfl (py (run_seq (KL (qN rfl (qV (KT Q4 rfl) (qV (KS S4 rfl rfl ai rfl) (qV (LQ S4 rfl rfl) (KO rfl (py (KH rfl (run_seq (KV (fun w'=>Ext w1 w') (by kernel_rfl) rfl (KR 0 rfl (KT Pa rfl) hg ?_)))))))))))))
 refine KR 1 rfl (KT MS rfl) hg (qT 2 rfl (fun _ h=>KS U3 rfl rfl (h.KN ai) rfl) hg (KR 3 rfl (LX rfl rfl) hg (PA (KR 4 rfl (KW rfl) hg (KR 5 rfl (KT Pa rfl) hg (KR 6 rfl (KT MN rfl) hg (qT 7 rfl (fun _ h=>KS U3 rfl rfl (h.KN ai) rfl) hg (KR 8 rfl (LX rfl rfl) hg (PA (KR 9 rfl (Ls rfl rfl) hg (KR 10 rfl (KW rfl) hg (KR 11 rfl (KT Pa rfl) hg (KR 12 rfl (KT MN rfl) hg ?_)))))))))))))
 refine qT 13 rfl (fun _ h=>KS U3 rfl rfl (h.KN ai) rfl) hg (KR 14 rfl (KT Q4 rfl) hg (qT 15 rfl (fun _ h=>KS S4 rfl rfl (h.KN ai) rfl) hg (O2 16 [.tmp 23] rfl z8f rfl (Fv) ?_)))
 rintro _ w2 ⟨rfl,rfl⟩
 refine⟨hg,?_⟩
 refine O2 17 [.tmp 24] rfl YD rfl (Fw) ?_
 rintro _ w2 ⟨rfl,rfl⟩
 refine⟨hg,?_⟩
 refine KR 18 rfl (Ou rfl rfl) hg (PA (KR 19 rfl (Ls rfl rfl) hg (KR 20 rfl (KW rfl) hg (KR 21 rfl (KT Pa rfl) hg (KR 22 rfl (KT MS rfl) hg (qT 23 rfl (fun _ h=>KS U3 rfl rfl (h.KN ai) rfl) hg (KR 24 rfl (KT Q4 rfl) hg (qT 25 rfl (fun _ h=>KS S4 rfl rfl (h.KN ai) rfl) hg (KR 28 rfl (KT Pa rfl) hg (KR 29 rfl (KT MN rfl) hg (qT 30 rfl (fun _ h=>KS U3 rfl rfl (h.KN ai) rfl) hg (O2 26 [.tmp 33] rfl z8f rfl (Fv) ?_))))))))))))
 rintro _ w2 ⟨rfl,rfl⟩
 refine⟨hg,?_⟩
 refine O2 27 [.tmp 34] rfl YD rfl (Fw) ?_
 rintro _ w2 ⟨rfl,rfl⟩
 refine⟨hg,?_⟩
 refine KR 31 rfl (Md rfl rfl (by omega)) hg (KR 32 rfl (LU rfl rfl) hg (PA (KR 33 rfl (Ls rfl rfl) hg (KR 34 rfl (MO rfl) hg (qE (Ll.qb (e:=[(2,_),(7,_)]) ?_))))))
 refine KH rfl (It (KM (qN rfl (KO rfl (py (KP Tryz.func74 rfl ?_))))))
 exact⟨_,rfl,rfl,ad.trans hg⟩
theorem Wi (h:Sp Q txt K X w){st len:Nat}(h2:len<=100000):Lk Tryz.prog 81 [.agg #[ptr Q.s 0,I (st:Int),I (len:Int)]] w fun v w'=>v=I ((len:Int)*512-12)/\Ext w w':=by
 refine KJ (e:=[(0,_)]) Tryz.func81 rfl Tryz.ntmps81 rfl rfl (qN rfl (KU rfl rfl (MH rfl (cs:=[ptr Q.s 0,I (st:Int),I (len:Int)]) rfl) ?_))
 rintro _ w1 ⟨b1,rfl,bS,ad,ai⟩
 have hP:=h.ext' ad
 have hg:=Ext.Lb w1
 have II:=(hP.ext' hg).size
 refine KO rfl (py (run_seq (KV (fun w'=>Ext w1 w') (by kernel_rfl) rfl (KR 0 rfl (KT Pa rfl) hg (KR 1 rfl (KT MS rfl) hg (qT 2 rfl (fun _ h=>KS U3 rfl rfl (h.KN ai) rfl) hg (KR 3 rfl (KT Q4 rfl) hg (qT 4 rfl (fun _ h=>KS S4 rfl rfl (h.KN ai) rfl) hg (O2 5 [.tmp 7] rfl YT rfl (II) ?_)))))))))
 rintro _ w2 ⟨rfl,rfl⟩
 refine⟨hg,?_⟩
 refine KR 6 rfl (Tu rfl rfl (by omega)) hg (KR 7 rfl (Md rfl rfl (by omega)) hg (KR 8 rfl (MO rfl) hg (qE (KP Tryz.func81 rfl ?_))))
 exact⟨_,rfl,rfl,ad.trans hg⟩
theorem SL {wb s st len at' n sum:Nat}{rest put:Value}(hB:KY w wb (swC s st len rest at' n sum put false) 175):Lk Tryz.prog 76 [ptr wb 0] w fun v w'=>v=I 0/\w'=w:=by
 replace hB:KY w wb [ptr s 0,I (st:Int),I (len:Int),rest,I (at':Int),I (n:Int),U sum,put,.bool false] 175:=hB
 refine KJ (e:=[(0,_)]) Tryz.func76 rfl Tryz.ntmps76 rfl rfl (qN rfl (KO rfl (py (run_seq (KL (qN rfl (An rfl (qV (LQ Re rfl rfl) (KO rfl (py (KH rfl (qN rfl (An rfl ?_)))))))))))))
 refine qV (L6 rfl) (qV (KT T9 rfl) (qV (KS U4 rfl rfl hB rfl) (KO rfl (py (KH rfl (It (KM (qN rfl (KO rfl (py (KP Tryz.func76 rfl ?_)))))))))))
 exact⟨_,rfl,rfl,rfl⟩
theorem ZA (h:Sp Q txt K X w){wb st len at' n sum:Nat}{rest put:Value}(h2:len<=100000)(hn:n<=100000000)(hB:KY w wb (swC Q.s st len rest at' n sum put false) 175):Lk Tryz.prog 77 [ptr wb 0] w fun v w'=>v=I ((len:Int)*512-12-(n:Int))/\Ext w w':=by
 replace hB:KY w wb [ptr Q.s 0,I (st:Int),I (len:Int),rest,I (at':Int),I (n:Int),U sum,put,.bool false] 175:=hB
 have hg:=Ext.Lb w
 have IJ:=Wi (h.ext' hg) (st:=st) h2
 refine KJ (e:=[(0,_)]) Tryz.func77 rfl Tryz.ntmps77 rfl rfl (qN rfl (KO rfl (py (run_seq (qN rfl (An rfl (qV (LQ Re rfl rfl) (An rfl (An rfl (qV (L6 rfl) (qV (KT T9 rfl) (qV (KS U4 rfl rfl hB rfl) (qV (Ls rfl rfl) ?_)))))))))))))
 refine py (KH rfl (It (run_seq (KV (fun w'=>Ext w w') (by kernel_rfl) rfl (KR 0 rfl (KW rfl) hg (KR 1 rfl (L6 rfl) hg (KR 2 rfl (KT Rw rfl) hg (qT 3 rfl (fun _ h=>Lj z6h rfl Rv rfl (KY.cells (n:=3) (h.KN hB) (news:=[_,_,_]) rfl) rfl) hg (KR 5 rfl (KW rfl) hg (KR 6 rfl (L6 rfl) hg (KR 7 rfl (KT UO rfl) hg (qT 8 rfl (fun _ h=>KS U3 rfl rfl (h.KN hB) rfl) hg (O2 4 [.tmp 14] rfl zaF rfl (IJ) ?_)))))))))))))
 rintro _ w2 ⟨rfl,af⟩
 refine⟨(hg.trans af),?_⟩
 refine KR 9 rfl (Md rfl rfl (by omega)) ((hg.trans af)) (KR 10 rfl (MO rfl) ((hg.trans af)) (qE (KP Tryz.func77 rfl ?_)))
 exact⟨_,rfl,rfl,hg.trans af⟩
end
def Vu (bs bx bw:Nat):Value:= .func (.func 75) #[] #[ptr bs 0,ptr bx 0,ptr bw 0]
structure Yd (s st len wb bs bx bw:Nat)(rest:Value)(at' n sum:Nat)(w:World):Prop where
 wr:KY w wb (swC s st len rest at' n sum (Vu bs bx bw) false) 175
 sb:KY w bs [ptr s 0] 27
 xb:KY w bx [I (st:Int),I (len:Int)] 97
 pb:KY w bw [ptr wb 0] 118
 ne:bs≠wb/\bx≠wb/\bw≠wb
section
variable {w w':World}{Q:N1}{txt:Int->Bytes}{K:Nat}{X S':Nat->Prop}{s st len wb bs bx bw at' n sum:Nat}{rest:Value}
theorem Yd.kp (h:Yd s st len wb bs bx bw rest at' n sum w)(hk:Kp S' w w')(h1:¬S' wb)(h2:¬S' bs)(h3:¬S' bx)(h4:¬S' bw):Yd s st len wb bs bx bw rest at' n sum w':=
 ⟨hk.KN h.wr h1,hk.KN h.sb h2,hk.KN h.xb h3,hk.KN h.pb h4,h.ne⟩
theorem Yd.ext (h:Yd s st len wb bs bx bw rest at' n sum w)(hx:Ext w w'):Yd s st len wb bs bx bw rest at' n sum w':=h.kp (S':=fun _=>False) hx id id id id
theorem Yd.re {rest2:Value}{at2 n2 sum2:Nat}(h:Yd s st len wb bs bx bw rest at' n sum w)(hk:Kp (fun b=>b=wb) w w')(hB:KY w' wb (swC s st len rest2 at2 n2 sum2 (Vu bs bx bw) false) 175):Yd s st len wb bs bx bw rest2 at2 n2 sum2 w':=
 ⟨hB,hk.KN h.sb h.ne.1,hk.KN h.xb h.ne.2.1,hk.KN h.pb h.ne.2.2,h.ne⟩
theorem Yd.cells (h:Yd s st len wb bs bx bw rest at' n sum w):KY w wb [ptr s 0,I (st:Int),I (len:Int),rest,I (at':Int),I (n:Int),U sum,Vu bs bx bw,.bool false] 175:=h.wr
theorem TV (hP:Sp Q txt K X w)(hX:∀b,X b->b<w.heap.size)(hK:K<1000000000000)(h:Yd Q.s st len wb bs bx bw rest at' n sum w)(aW:X wb/\X bs/\X bx/\X bw)(zi:st+at'<Q.L.length)(t:Bytes)(ht:t.length=512):
  Lk Tryz.prog 75 [S t,ptr bs 0,ptr bx 0,ptr bw 0] w fun v w'=>v=I 0/\Sp Q (TJ txt ((st+at':Nat):Int) (some t)) (K+1) X w'/\Yd Q.s st len wb bs bx bw rest (at'+1) n sum w'/\Kp (fun b=>¬X b\/b=wb) w w':=by
 have dS:=hP.n
 have jd:=h.sb
 have g7:=h.xb
 have jf:=h.pb
 have hB:=h.cells
 have hg:=Ext.Lb w
 refine KJ (e:=[(0,_),(1,_),(2,_),(3,_)]) Tryz.func75 rfl Tryz.ntmps75 rfl rfl (qN rfl (KO rfl (py (run_seq (KV (fun w'=>Kp (fun b=>¬X b) w w') (by kernel_rfl) rfl (qT 0 rfl (fun _ hS=>(by first|exact KS S4 rfl rfl (hS.KN jd (fun e=>e aW.2.1)) rfl|exact KS S4 rfl rfl (hS.KN g7 (fun e=>e aW.2.2.1)) rfl|exact KS S4 rfl rfl (hS.KN jf (fun e=>e aW.2.2.2)) rfl|exact KS S4 rfl rfl (hS.KN hB (fun e=>e aW.1)) rfl)) (hg.kp) ?_))))))
 refine KR 1 rfl (KT MN rfl) (hg.kp) (qT 2 rfl (fun _ hS=>(by first|exact KS U3 rfl rfl (hS.KN jd (fun e=>e aW.2.1)) rfl|exact KS U3 rfl rfl (hS.KN g7 (fun e=>e aW.2.2.1)) rfl|exact KS U3 rfl rfl (hS.KN jf (fun e=>e aW.2.2.2)) rfl|exact KS U3 rfl rfl (hS.KN hB (fun e=>e aW.1)) rfl)) (hg.kp) ?_)
 refine qT 3 rfl (fun _ hS=>(by first|exact KS Re rfl rfl (hS.KN jd (fun e=>e aW.2.1)) rfl|exact KS Re rfl rfl (hS.KN g7 (fun e=>e aW.2.2.1)) rfl|exact KS Re rfl rfl (hS.KN jf (fun e=>e aW.2.2.2)) rfl|exact KS Re rfl rfl (hS.KN hB (fun e=>e aW.1)) rfl)) (hg.kp) ?_
 refine KR 4 rfl (L6 rfl) (hg.kp) (KR 5 rfl (KT SY rfl) (hg.kp) (qT 6 rfl (fun _ hS=>(by first|exact KS U3 rfl rfl (hS.KN jd (fun e=>e aW.2.1)) rfl|exact KS U3 rfl rfl (hS.KN g7 (fun e=>e aW.2.2.1)) rfl|exact KS U3 rfl rfl (hS.KN jf (fun e=>e aW.2.2.2)) rfl|exact KS U3 rfl rfl (hS.KN hB (fun e=>e aW.1)) rfl)) (hg.kp) ?_))
 refine KR 7 rfl (PM rfl rfl (by omega)) (hg.kp) (KR 8 rfl (KW rfl) (hg.kp) ?_)
 rw[show(st:Int)+(at':Int)=((st+at':Nat):Int) by omega]
 refine O2 9 [.tmp 7,.tmp 14,.tmp 15] rfl z96 rfl ((hP.ext' hg).write (fun b hb=>by have:=hX b hb;have:=hg.size;omega) hK (no:=((st+at':Nat):Int)) (by omega) (by omega) t ht) ?_
 rintro _ w1 ⟨rfl,kA,aM⟩
 refine⟨hg.kp.trans aM,?_⟩
 have i6:Kp (fun b=>¬X b) w w1:=hg.kp.trans aM
 have h1:=h.kp i6 (fun e=>e aW.1) (fun e=>e aW.2.1) (fun e=>e aW.2.2.1) (fun e=>e aW.2.2.2)
 have ai:=h1.cells
 have xE:=h1.pb
 have ky:∀b,X b->b<w1.heap.size:=fun b hb=>by have:=hX b hb;have:=i6.size;omega
 refine KR 10 rfl (MO rfl) (hg.kp.trans aM) (qE (qN rfl (qV ((by first|exact KS Re rfl rfl xE rfl|exact KS Re rfl rfl ai rfl)) ?_)))
 refine qV (L6 rfl) (qV (KT SY rfl) (qV ((by first|exact KS U3 rfl rfl xE rfl|exact KS U3 rfl rfl ai rfl)) ?_))
 refine LH rfl rfl (qV (L6 rfl) (qV (KT SY rfl) (L0 rfl (Mt LG rfl rfl rfl ai (by simp)) ?_)))
 rintro w2 ⟨ak,am⟩
 have dy:KY w2 wb (swC Q.s st len rest (at'+1) n sum (Vu bs bx bw) false) 175:=ak
 have h2:=h1.re am dy
 have pB:=h2.cells
 have sN:=h2.pb
 have aa:=Ext.Lb w2
 have eu:=kA.own am (fun b e=>by rw[e];exact aW.1)
 refine py (run_seq (Le [11] (fun w'=>Ext w2 w') (by kernel_rfl) rfl (qL [9,10,11] 0 rfl (fun _ h=>(by first|exact KS Re rfl rfl (h.KN sN) rfl|exact KS Re rfl rfl (h.KN pB) rfl)) aa ?_)))
 refine qL [2,3,4,5,6,7,8,9,10,11] 1 rfl (fun _ h=>(by first|exact KS Re rfl rfl (h.KN sN) rfl|exact KS Re rfl rfl (h.KN pB) rfl)) aa ?_
 refine qL [3,4,5,6,7,8,9,10,11] 2 rfl (fun _ h=>L6 rfl) aa (qL [4,5,6,7,8,9,10,11] 3 rfl (fun _ h=>KT T9 rfl) aa (qL [5,6,7,8,9,10,11] 4 rfl (fun _ h=>(by first|exact KS U4 rfl rfl (h.KN sN) rfl|exact KS U4 rfl rfl (h.KN pB) rfl)) aa ?_))
 refine qL [6,7,8,9,10,11] 5 rfl (fun _ h=>KW rfl) aa (qL [7,8,9,10,11] 6 rfl (fun _ h=>KW rfl) aa (qL [8,9,10,11] 7 rfl (fun _ h=>M0 rfl rfl) aa (qL [9,10,11] 8 rfl (fun _ h=>Ls rfl rfl) aa (qL [10,11] 9 rfl (fun _ h=>L6 rfl) aa (qL [11] 10 rfl (fun _ h=>KT T9 rfl) aa (LD [11] (by kernel_rfl) (by kernel_rfl) ?_))))))
 have ao:=aa.KN pB
 refine qO 11 (Lv (i:=11) rfl rfl (Mt QX rfl rfl rfl ao (by simp)) ?_)
 rintro w3 ⟨i9,au⟩
 refine⟨trivial,?_⟩
 refine qE (Ll.qb (e:=[(5,_),(6,_)]) ?_)
 refine qN rfl (An rfl (KO rfl (py (KP Tryz.func75 rfl ?_))))
 have h3:=(h2.ext aa).re au (show KY w3 wb (swC Q.s st len rest (at'+1) n sum (Vu bs bx bw) false) 175 from i9)
 exact⟨_,rfl,rfl,(eu.ext' aa).own au (fun b e=>by rw[e];exact aW.1),h3,((i6.L2 fun b e=> .inl e).trans (am.L2 fun b e=> .inr e)).trans (aa.kp.trans (au.L2 fun b e=> .inr e))⟩
end
section
variable {P:Program}{e:Env}{d:Option Nat}{ty t t' el:TypeId}{pos:String}{aft:Array Edge}{g:Option (Nat×Bool)}{x:Operand}{w:World}{l:Bytes}{v:Value}
theorem z8R (hs:P.underlying t=some (.slice el))(he:P.underlying el=some (.int .u8))(hd:P.underlying t'=some .string)(hx:look e x=some v)(hr:Rd w v 1 l.length (l.map Oq))(hl:0<l.length):
  Y P e ⟨d,.convert t t' x,ty,pos,aft,g⟩ (S l) w w:=fun ρ hρ=>by
 rcases hr.2 with⟨⟨ca,c⟩,hv,h0⟩|⟨b,off,cap,hv,hc⟩
 ·omega
 ·subst hv;have hr:=run_convert_bytes_back (P:=P) w t t' el ⟨b,off,none⟩ cap l hs he hd (fun j hj=>by rw[ME];exact hc j _ (by simp[hj,Oq]));simp[execOp,hρ _ _ hx,hr]
end
section
variable {w w':World}{Q:N1}{txt:Int->Bytes}{K:Nat}{X S':Nat->Prop}{s st len wb bs bx bw at' n sum:Nat}{rest:Value}
theorem XS (hP:Sp Q txt K X w){st len:Nat}(h1:1<=len)(h2:st+len<=Q.L.length):
  Lk Tryz.prog 46 [ptr Q.s 0,.agg #[I (st:Int),I (len:Int)]] w fun v w'=>∃wb bs bx bw sum,v= .tuple #[ptr wb 0,I 0]/\sum<4294967296/\Yd Q.s st len wb bs bx bw (.slice none 0 0) 0 0 sum w'/\(w.heap.size<=wb/\w.heap.size<=bs/\w.heap.size<=bx/\w.heap.size<=bw)/\Ext w w':=by
 have tD:Sums.crc []<4294967296:=Sums.z9j _
 obtain⟨c0,sO⟩:∃c0,Sums.crc []=c0:=⟨_,rfl⟩
 rw[sO] at tD
 refine KJ (e:=[(0,_),(1,_)]) Tryz.func46 rfl Tryz.ntmps46 rfl rfl (qN rfl (KU rfl rfl (MH rfl (cs:=[ptr Q.s 0]) rfl) ?_))
 rintro _ w1 ⟨bs,rfl,vE,ad,jd⟩
 refine KU rfl rfl (MH rfl (cs:=[I (st:Int),I (len:Int)]) rfl) ?_
 rintro _ w2 ⟨bx,rfl,f9,af,g7⟩
 have iS:=af.KN jd
 have IK:=hP.ext' (ad.trans af)
 have aq:=Ext.Lb w2
 have bK:=aq.size
 refine KO rfl (KO rfl (py (run_seq (Lx (fun e' w'=>∃wb bw,e'=[(2,ptr bs 0),(3,ptr bx 0),(6,ptr bw 0)]/\KY w' wb [ptr Q.s 0,I (st:Int),I (len:Int),.slice none 0 0,I 0,I 0,U c0,.nilFunc,.bool false] 175/\KY w' bw [ptr wb 0] 118/\Ext w2 w'/\w2.heap.size<=wb/\w2.heap.size<=bw/\wb≠bw) ?cq (fun cq=>?cJ)))))
 case cq=>
  rintro e' w3 ⟨wb,bw,rfl,ao,kX,ah,mP,D8,bG⟩;have lbs:=jd.lt;have lbx:=g7.lt;have dO:=af.size;have fi:=IK.ext' ah;refine run_seq (qN rfl (qV ((by first|exact KS Re rfl rfl kX rfl|exact KS Re rfl rfl ao rfl)) ?_));refine qV (L6 rfl) (qV (KT Rw rfl) (qV ((by first|exact Lj z6h rfl Rv rfl (KY.cells (n:=3) kX (news:=[_,_,_]) rfl) rfl|exact Lj z6h rfl Rv rfl (KY.cells (n:=3) ao (news:=[_,_,_]) rfl) rfl)) ?_));refine La [.tmp 17] zbm rfl (UA fi h1 h2) ?_;rintro _ w4 ⟨rfl,aB⟩;have kW:=aB.KN kX;have aJ:=aB.KN ao;refine KO rfl (qM rfl (An rfl (qV (M0 rfl rfl) (py (KH rfl (It (qN rfl (qV ((by first|exact KS Re rfl rfl kW rfl|exact KS Re rfl rfl aJ rfl)) ?_))))))));refine qV (Zj (first:=[]) (caps:=[.tmp 2,.tmp 3,.tmp 6]) rfl rfl) (qV (L6 rfl) (qV (KT UK rfl) (L0 rfl (Mt z8T rfl rfl rfl aJ (by simp)) ?_)));rintro w5 ⟨aF,aj⟩;have yR:=aj.KN kW (fun e=>bG e.symm);refine qM rfl (qV (KS Re rfl rfl yR rfl) (KO rfl (KO rfl (py (KP Tryz.func46 rfl ?_)))));have gW:Ext w2 w5:=(ah.trans aB).KK aj (fun j e=>by omega);refine⟨_,rfl,wb,bs,bx,bw,c0,rfl,tD,⟨aF,gW.KN iS,gW.KN g7,yR,⟨by omega,by omega,fun e=>bG e.symm⟩⟩,⟨by omega,by omega,by omega,by omega⟩,(ad.trans af).trans gW⟩
 case cJ=>
 refine Le [7] (fun w'=>Ext w2 w') (by kernel_rfl) rfl (qL [2,4,5,7] 0 rfl (fun _ h=>(by first|exact KS S4 rfl rfl (h.KN iS) rfl|exact KS S4 rfl rfl (h.KN g7) rfl)) aq ?_)
 refine qL [2,4,5,7] 1 rfl (fun _ hS=>(by first|exact Lj YE rfl Nh rfl (KY.cells (n:=2) (hS.KN iS) (news:=[_,_]) rfl) rfl|exact Lj YE rfl Nh rfl (KY.cells (n:=2) (hS.KN g7) (news:=[_,_]) rfl) rfl)) aq ?_
 refine qL [4,5,7] 2 rfl (fun _ h=>NA (parts:=[(0,.tmp 8),(1,.tmp 9)]) (cs:=[_,_,_]) Rv rfl z7Y rfl rfl) aq (S8 (i:=3) (j:=6) (by kernel_rfl) ?_ ?_)
 ·refine N6 (i:=3) rfl rfl rfl (yc (args:=[.const (Value.string (⟨#[]⟩))]) zbY rfl) (z2r [] _ (by simp)) ?_;rintro _ w3 ⟨rfl,ah⟩;refine⟨aq.trans ah,?_⟩;rw[sO];have aq:=aq.trans ah
  try have aN:=ah.KN aN
  have bK:=Nat.le_trans bK ah.size;refine qL [5,7] 4 rfl (fun _ h=>NA (parts:=[(0,.tmp 10),(4,.tmp 11)]) (cs:=[_,_,_,_,_,_,_,_,_]) z8i rfl z8a rfl rfl) aq (S8 (i:=5) (j:=6) (by kernel_rfl) ?_ ?_)
  ·refine LZ (i:=5) rfl rfl rfl (MH rfl (cs:=[ptr Q.s 0,I (st:Int),I (len:Int),.slice none 0 0,I 0,I 0,U c0,.nilFunc,.bool false]) rfl) ?_;rintro _ w5 ⟨wb,rfl,mP,aR,aF⟩;refine⟨aq.trans aR,?_⟩;have aq:=aq.trans aR
   try have aN:=aR.KN aN
   have rL:w2.heap.size<=wb:=by omega
   have bK:=Nat.le_trans bK aR.size;refine MB (i:=6) (by kernel_rfl) (LZ (i:=6) rfl rfl rfl (N3 (cs:=[_]) Xe rfl) ?_);rintro _ w6 ⟨bw,rfl,D8,aG,aN⟩;refine⟨aq.trans aG,?_⟩;have aq:=aq.trans aG
   try have aF:=aG.KN aF
   have xF:w2.heap.size<=bw:=by omega
   have bK:=Nat.le_trans bK aG.size;refine LD [7] (by kernel_rfl) (by kernel_rfl) (qO 7 (Lv (i:=7) rfl rfl (Mt Xe rfl rfl rfl aN (by simp)) ?_));rintro w7 ⟨bE,aA⟩;refine⟨trivial,?_⟩;refine qE ?_;replace bE:KY w7 bw [ptr wb 0] 118:=bE
   have iT:wb≠bw:=by
    intro e;have h5:=aF;rw[e] at h5;obtain⟨fz,h5,-⟩:=h5;obtain⟨fz6,h6,-⟩:=aN;rw[h5] at h6;cases h6
   have jm:=aA.KN aF iT;exact(cq _ _ ⟨wb,bw,rfl,jm,bE,aq.KK aA (fun j e=>by omega),rL,xF,iT⟩).qb
  ·refine LZ (i:=6) rfl rfl rfl (N3 (cs:=[_]) Xe rfl) ?_;rintro _ w6 ⟨bw,rfl,D8,aG,aN⟩;refine⟨aq.trans aG,?_⟩;have aq:=aq.trans aG
   try have aF:=aG.KN aF
   have xF:w2.heap.size<=bw:=by omega
   have bK:=Nat.le_trans bK aG.size;refine MB (i:=5) (by kernel_rfl) (LZ (i:=5) rfl rfl rfl (MH rfl (cs:=[ptr Q.s 0,I (st:Int),I (len:Int),.slice none 0 0,I 0,I 0,U c0,.nilFunc,.bool false]) rfl) ?_);rintro _ w5 ⟨wb,rfl,mP,aR,aF⟩;refine⟨aq.trans aR,?_⟩;have aq:=aq.trans aR
   try have aN:=aR.KN aN
   have rL:w2.heap.size<=wb:=by omega
   have bK:=Nat.le_trans bK aR.size;refine LD [7] (by kernel_rfl) (by kernel_rfl) (qO 7 (Lv (i:=7) rfl rfl (Mt Xe rfl rfl rfl aN (by simp)) ?_));rintro w7 ⟨bE,aA⟩;refine⟨trivial,?_⟩;refine qE ?_;replace bE:KY w7 bw [ptr wb 0] 118:=bE
   have iT:wb≠bw:=by
    intro e;have h5:=aF;rw[e] at h5;obtain⟨fz,h5,-⟩:=h5;obtain⟨fz6,h6,-⟩:=aN;rw[h5] at h6;cases h6
   have jm:=aA.KN aF iT;exact(cq _ _ ⟨wb,bw,rfl,jm,bE,aq.KK aA (fun j e=>by omega),rL,xF,iT⟩).qb
 ·refine LZ (i:=6) rfl rfl rfl (N3 (cs:=[_]) Xe rfl) ?_;rintro _ w6 ⟨bw,rfl,D8,aG,aN⟩;refine⟨aq.trans aG,?_⟩;have aq:=aq.trans aG
  try have aF:=aG.KN aF
  have xF:w2.heap.size<=bw:=by omega
  have bK:=Nat.le_trans bK aG.size;refine MB (i:=3) (by kernel_rfl) (N6 (i:=3) rfl rfl rfl (yc (args:=[.const (Value.string (⟨#[]⟩))]) zbY rfl) (z2r [] _ (by simp)) ?_);rintro _ w3 ⟨rfl,ah⟩;refine⟨aq.trans ah,?_⟩;rw[sO];have aq:=aq.trans ah
  try have aN:=ah.KN aN
  have bK:=Nat.le_trans bK ah.size;refine qL [5,7] 4 rfl (fun _ h=>NA (parts:=[(0,.tmp 10),(4,.tmp 11)]) (cs:=[_,_,_,_,_,_,_,_,_]) z8i rfl z8a rfl rfl) aq (MB (i:=5) (by kernel_rfl) (LZ (i:=5) rfl rfl rfl (MH rfl (cs:=[ptr Q.s 0,I (st:Int),I (len:Int),.slice none 0 0,I 0,I 0,U c0,.nilFunc,.bool false]) rfl) ?_));rintro _ w5 ⟨wb,rfl,mP,aR,aF⟩;refine⟨aq.trans aR,?_⟩;have aq:=aq.trans aR
  try have aN:=aR.KN aN
  have rL:w2.heap.size<=wb:=by omega
  have bK:=Nat.le_trans bK aR.size;refine LD [7] (by kernel_rfl) (by kernel_rfl) (qO 7 (Lv (i:=7) rfl rfl (Mt Xe rfl rfl rfl aN (by simp)) ?_));rintro w7 ⟨bE,aA⟩;refine⟨trivial,?_⟩;refine qE ?_;replace bE:KY w7 bw [ptr wb 0] 118:=bE
  have iT:wb≠bw:=by
   intro e;have h5:=aF;rw[e] at h5;obtain⟨fz,h5,-⟩:=h5;obtain⟨fz6,h6,-⟩:=aN;rw[h5] at h6;cases h6
  have jm:=aA.KN aF iT;exact(cq _ _ ⟨wb,bw,rfl,jm,bE,aq.KK aA (fun j e=>by omega),rL,xF,iT⟩).qb
end
section
variable {w w':World}{Q:N1}{txt:Int->Bytes}{K:Nat}{X S':Nat->Prop}{st len wb bs bx bw at' n sum:Nat}{rest:Value}{T:Bytes}
theorem z3U (T:Bytes)(k:Nat):((T.drop (512*k)).map Oq).drop 512=(T.drop (512*(k+1))).map Oq:=by
 rw[<-List.map_drop,List.drop_drop]
 congr 2
def SwI (Q:N1)(txt:Int->Bytes)(K:Nat)(X:Nat->Prop)(st len wb bs bx bw:Nat)(T:Bytes)(sum:Nat)(w:World)(k:Nat)(w':World):Prop:=
 ∃txt' rest,Sp Q txt' (K+k) (fun b=>X b\/rest.ownBlock=some b) w'/\Yd Q.s st len wb bs bx bw rest k T.length sum w'/\Sl w' rest 5 1 (T.length-512*k) ((T.drop (512*k)).map Oq)/\(∀j,j<k->txt' ((st+j:Nat):Int)=(T.drop (512*j)).take 512)/\(∀y:Int,y<(st:Int)\/(st:Int)+(k:Int)<=y->txt' y=txt y)/\Kp (fun b=>¬X b\/b=wb) w w'/\(∀b,rest.ownBlock=some b->w.heap.size<=b)
theorem Zg (hP:Sp Q txt K X w)(hX:∀b,X b->b<w.heap.size)(hK:K<=100000000000)(h:Yd Q.s st len wb bs bx bw (.slice none 0 0) 0 0 sum w)(gl:sum<4294967296)(aW:X wb/\X bs/\X bx/\X bw)(ci:st+len<=Q.L.length)(h1:1<=len)(hT:T.length<=len*512-12):
  Lk Tryz.prog 47 [ptr wb 0,S T] w fun v w'=>v=I 0/\∃sum',sum'<4294967296/\SwI Q txt K X st len wb bs bx bw T sum' w (T.length / 512) w':=by
 have eL:maxLen=9223372036854775807:=rfl
 have dS:=hP.n
 refine KJ (e:=[(0,_),(1,_)]) Tryz.func47 rfl Tryz.ntmps47 rfl rfl (qN rfl (KO rfl (py (run_seq (qN rfl (An rfl (La [.tmp 8] z9Z rfl (SL h.wr) ?_)))))))
 rintro _ w ⟨rfl,rfl⟩
 refine KO rfl (qM rfl (An rfl (qV (M0 rfl rfl) (py (KH rfl (It (run_seq (qN rfl (An rfl (qV (R1 U9 rfl) (An rfl (La [.tmp 15] zdf rfl (ZA hP (by omega) (by omega) h.wr) ?_))))))))))))
 rintro _ w1 ⟨rfl,ad⟩
 have kA:=hP.ext' ad
 have dC:=h.ext ad
 have ai:=dC.cells
 refine qV (LU rfl rfl) (Ly (py (KH rfl (It (qN rfl (An rfl (qV (L6 rfl) (qV (KT UO rfl) (qV (KS U3 rfl rfl ai rfl) (An rfl (qV (R1 U9 rfl) (LH rfl rfl (qV (L6 rfl) ?_)))))))))))))
 refine qV (KT UO rfl) ?_
 rw[show((0:Nat):Int)+(T.length:Int)=(T.length:Int) by omega]
 refine L0 rfl (Mt LG rfl rfl rfl ai (by simp)) ?_
 rintro w2 ⟨ak,am⟩
 have cP:=dC.re am (show KY w2 wb (swC Q.s st len (.slice none 0 0) 0 T.length sum (Vu bs bx bw) false) 175 from ak)
 have eu:=kA.own am (fun b e=>by rw[e];exact aW.1)
 have dy:=cP.cells
 refine qM rfl (An rfl (An rfl (qV (L6 rfl) (qV (KT Y1 rfl) (qV (KS Mk rfl rfl dy rfl) (An rfl (La [.tmp 31,.tmp 32] zce rfl (z5s sum T _ gl (by omega)) ?_)))))))
 rintro _ w3 ⟨rfl,ah⟩
 have qv:=Sums.z8K T gl
 obtain⟨sum3,ie⟩:∃sum3,Sums.on sum T=sum3:=⟨_,rfl⟩
 rw[ie] at qv⊢
 have o2:=cP.ext ah
 have ao:=o2.cells
 refine qV (L6 rfl) (qV (KT Y1 rfl) (L0 rfl (Mt L8 rfl rfl rfl ao (by simp)) ?_))
 rintro w4 ⟨aJ,aw⟩
 have tE:=o2.re aw (show KY w4 wb (swC Q.s st len (.slice none 0 0) 0 T.length sum3 (Vu bs bx bw) false) 175 from aJ)
 have kN:=(eu.ext' ah).own aw (fun b e=>by rw[e];exact aW.1)
 have en:=tE.cells
 refine py (Ll.qb (e:=[(0,_),(1,_),(4,_)]) ?_)
 refine qN rfl (An rfl (An rfl (qV (L6 rfl) (qV (KT NT rfl) (qV (KS M4 rfl rfl en rfl) (An rfl (KU rfl rfl (zbz M4 U9 SJ rfl rfl (Sl.nil w4 _ 1) (by omega)) ?_)))))))
 rintro v5 w5 ⟨gd,aj,rD⟩
 simp only[List.nil_append,Nat.zero_add] at gd
 replace aj:Ext w4 w5:=aj.L2 (fun b e=>by cases e)
 have sP:∀b,v5.ownBlock=some b->w4.heap.size<=b:=fun b e=>(rD b e).elim (fun e=>by cases e) id
 obtain⟨a5,c5,rfl,-⟩:=gd.rd.shape
 have nR:=tE.ext aj
 have aF:=nR.cells
 have bB:Kp (fun b=>¬X b\/b=wb) w w5:=(((ad.kp.trans (am.L2 fun b e=> .inr e)).trans ah.kp).trans (aw.L2 fun b e=> .inr e)).trans aj.kp
 have z4:w.heap.size<=w4.heap.size:=by have:=ad.size;have:=am.size;have:=ah.size;have:=aw.size;omega
 have lwb:=aF.lt
 have lwb0:=hX _ aW.1
 refine qV (L6 rfl) (qV (KT NT rfl) (L0 rfl (Mt S6 rfl rfl rfl aF (by simp)) ?_))
 rintro w6 ⟨aN,aT⟩
 have CB:=nR.re aT (show KY w6 wb (swC Q.s st len (.slice a5 T.length c5) 0 T.length sum3 (Vu bs bx bw) false) 175 from aN)
 have pC:Sp Q txt K (fun b=>X b\/(Value.slice a5 T.length c5).ownBlock=some b) w6:=(kN.ext aj (fun b e=>e.imp id (sP b))).own aT (fun b e=> .inl (by rw[e];exact aW.1))
 have iI:=gd.kp aT (fun b hb e=>by have:=sP b hb;omega)
 have mb:=CB.cells
 have gZ:=bB.trans (aT.L2 fun b e=>Or.inr e)
 refine qM rfl (An rfl (qV (L6 rfl) (qV (KT Rw rfl) (qV (KT Q4 rfl) (qV (KS S4 rfl rfl mb rfl) (La [.tmp 49] YT rfl (pC.size) ?_))))))
 rintro _ w6 ⟨rfl,rfl⟩
 refine KO rfl (py (run_seq (KL (MV (α:=Nat) (0) (fun k=>[(0,ptr wb 0),(6,I 512)]) (fun k w'=>k<=T.length / 512/\SwI Q txt K X st len wb bs bx bw T sum3 w k w') (fun k=>T.length / 512-k) ?hI ?hround))))
 case hI=>exact⟨Nat.zero_le _,txt,_,pC,CB,iI,fun j hj=>by omega,fun y hy=>rfl,gZ,fun b hb=>by have:=sP b hb;omega⟩
 case hround=>
  rintro k w8 ⟨hk,txt1,rest,o6,uP,ez,io,zj,bh,lP⟩ ih;obtain⟨a8,c8,rfl,-⟩:=ez.rd.shape;have bZ:=uP.cells;have Er:=bh.size
  try dsimp only
  refine run_seq (qN rfl (An rfl (qV (L6 rfl) (qV (KT NT rfl) (qV (KS M4 rfl rfl bZ rfl) (qV (LM M4 rfl) (An rfl (qV (Ou rfl rfl) (py (KZ rfl (fun h0=>?_) (fun h0=>?_)))))))))))
  ·have IL:512*k+512<=T.length:=by omega
   rcases ez.shape with⟨e,tR⟩|⟨gb,cc,e,CO⟩
   ·omega
   cases e;have HY:=lP gb rfl;have hg:=Ext.Lb w8;have ev:((T.drop (512*k)).take 512).length=512:=by rw[List.length_take,List.length_drop];omega
   have D9:Rd w8 (.slice (some ⟨gb,0,none⟩) 512 c8) 1 ((T.drop (512*k)).take 512).length (((T.drop (512*k)).take 512).map Oq):=by
    rw[ev,List.map_take];exact Q0 ez.rd (by omega)
   have IM:∀b,(X b\/(Value.slice (some ⟨gb,0,none⟩) (T.length-512*k) c8).ownBlock=some b)->b<w8.heap.size:=fun b hb=>by
    rcases hb with e| e
    ·have:=hX b e;omega
    ·exact ez.lt e
   refine It (KL (run_seq (run_seq (Le [11,12] (fun w'=>Ext w8 w') (by kernel_rfl) rfl (qL [1,2,3,11,12] 0 rfl (fun _ h=>KW rfl) hg (qL [2,3,11,12] 1 rfl (fun _ h=>L6 rfl) hg (qL [3,11,12] 2 rfl (fun _ h=>KT UK rfl) hg (qL [11,12] 3 rfl (fun _ h=>KS U62 rfl rfl (h.KN bZ) rfl) hg (qL [5,6,7,9,10,11,12] 4 rfl (fun _ h=>KW rfl) hg (qL [6,7,9,10,11,12] 5 rfl (fun _ h=>L6 rfl) hg (qL [7,9,10,11,12] 6 rfl (fun _ h=>KT NT rfl) hg (qL [9,10,11,12] 7 rfl (fun _ h=>KS M4 rfl rfl (h.KN bZ) rfl) hg (qL [9,10,11,12] 8 rfl (fun _ h=>KW rfl) hg ?_)))))))))))));refine qL [10,11,12] 9 rfl (fun _ h=>z6P M4 SJ rfl rfl (by omega)) hg (qL [11,12] 10 rfl (fun _ hS=>z8R (l:=(T.drop (512*k)).take 512) M4 U5 U9 rfl (D9.ext hS) (by omega)) hg (LD [11] (by kernel_rfl) (by kernel_rfl) (qO 11 (Rj (i:=11) rfl rfl rfl (Nk (args:=[.tmp 68]) z9c rfl rfl) (TV (o6.ext' hg) (fun b hb=>by have:=IM b hb;have:=hg.size;omega) (by omega) (uP.ext hg) ⟨.inl aW.1,.inl aW.2.1,.inl aW.2.2.1,.inl aW.2.2.2⟩ (by omega) ((T.drop (512*k)).take 512) ev) ?_))));rintro _ w9 ⟨rfl,qw,zg,aL⟩;refine⟨trivial,?_⟩;refine KR 12 rfl (MO rfl) trivial (qE (qN rfl (An rfl (qV (M0 rfl rfl) ?_))));have cC:=zg.cells;have sQ:=hg.kp.trans aL
   have um:=ez.kp sQ (fun b hb e=>by
    rcases e with e| e
    ·exact e (.inr hb)
    ·have e1:gb=b:=ML hb
     omega)
   have Es:=sQ.size;refine py (KH rfl (It (KQ rfl (An rfl (An rfl (qV (L6 rfl) (qV (KT NT rfl) (qV (KS M4 rfl rfl cC rfl) (An rfl (qV (Ta M4 SJ rfl rfl (by omega) (by omega)) (KU rfl rfl (pap M4 SJ rfl (by decide) rfl rfl (Sl.nil w9 _ 1) (OO (i:=512) um.rd (by omega) (by omega)) (fun c hc=>by obtain⟨z,-,rfl⟩:=List.mem_map.1 (List.mem_of_mem_drop hc);rfl) (by omega) (by omega)) ?_)))))))))));rintro v10 w10 ⟨c6,ax,cb,-⟩;rw[List.nil_append,z3U,Nat.zero_add,show T.length-512*k-512=T.length-512*(k+1) by omega] at c6;replace ax:Ext w9 w10:=ax.L2 (fun b e=>by cases e);have nw:∀b,v10.ownBlock=some b->w9.heap.size<=b:=fun b e=>(cb b e).elim (fun e=>by cases e) id;obtain⟨a10,c10,rfl,-⟩:=c6.rd.shape;have xG:=zg.ext ax;have dK:=xG.cells;refine qV (L6 rfl) (qV (KT NT rfl) (L0 rfl (Mt S6 rfl rfl rfl dK (by simp)) ?_));rintro w11 ⟨aH,aP⟩;have Da:=xG.re aP (show KY w11 wb (swC Q.s st len (.slice a10 (T.length-512*(k+1)) c10) (k+1) T.length sum3 (Vu bs bx bw) false) 175 from aH);have Db:Sp Q (TJ txt1 ((st+k:Nat):Int) (some ((T.drop (512*k)).take 512))) (K+k+1) (fun b=>X b\/(Value.slice a10 (T.length-512*(k+1)) c10).ownBlock=some b) w11:=(qw.ext ax (fun b e=>e.elim (fun e=> .inl (.inl e)) (fun e=> .inr (nw b e)))).own aP (fun b e=> .inl (by rw[e];exact aW.1));have rh:=c6.kp aP (fun b hb e=>by have:=nw b hb;omega);refine py (KM ((ih (k+1) w11 ⟨by omega,_,_,Db,Da,rh,fun j hj=>?_,fun y hy=>?_,?_,fun b hb=>by have:=nw b hb;omega⟩ (by omega)).qb))
   ·by_cases e:j=k
    ·subst e;exact Nd _ _ _
    ·rw[MJ _ _ (by omega)];exact io j (by omega)
   ·rw[MJ _ _ (by omega)];exact zj y (by omega)
   ·refine(bh.KK sQ fun b e=>?_).trans (ax.kp.trans (aP.L2 fun b e=> .inr e));rcases e with e| e
    ·by_cases hb:X b
     ·exact absurd (.inl hb) e
     ·exact .inr (.inl hb)
    ·exact .inr (.inr e)
  ·have IN:k=T.length / 512:=by omega
   subst IN;refine KX rfl (qN rfl (KO rfl (py (KP Tryz.func47 rfl ?_))));exact⟨_,rfl,rfl,sum3,qv,txt1,_,o6,uP,ez,io,zj,bh,lP⟩
end
section
variable {w w':World}{Q:N1}{txt:Int->Bytes}{K:Nat}{X S':Nat->Prop}{st len wb bs bx bw at' n sum:Nat}{rest:Value}{T:Bytes}
def Sh (n sum:Nat):Bytes:=Qg 8 n++Qg 4 sum
theorem XV (n sum:Nat):(Sh n sum).length=12:=by simp[Sh,LK]
theorem ZM (hP:Sp Q txt K (fun b=>X b\/rest.ownBlock=some b) w)(hX:∀b,X b->b<w.heap.size)(hK:K<=200000000000)(h:Yd Q.s st len wb bs bx bw rest (T.length / 512) T.length sum w)(gl:sum<4294967296)(aW:X wb/\X bs/\X bx/\X bw)(ci:st+len<=Q.L.length)(aD:len=(T.length+523) / 512)
  (hS:Sl w rest 5 1 (T.length%512) ((T.drop (512*(T.length / 512))).map Oq)) (bG:∀b,rest.ownBlock=some b->¬X b) (io:∀j,j<T.length / 512->txt ((st+j:Nat):Int)=(T.drop (512*j)).take 512):
  Lk Tryz.prog 48 [ptr wb 0] w fun v w'=>v=I 0/\∃txt',Sp Q txt' (K+2) X w'/\(∀j,512*j<T.length->∃z,txt' ((st+j:Nat):Int)=(T.drop (512*j)).take 512++z)/\(∃z,txt' ((st+(len-1):Nat):Int)=z++Sh T.length sum/\z.length=500)/\(∀y:Int,y<(st:Int)\/(st:Int)+(len:Int)<=y->txt' y=txt y)/\Kp (fun b=>¬X b\/b=wb) w w':=by
 have eL:maxLen=9223372036854775807:=rfl
 have dS:=hP.n
 obtain⟨a0,c0,rfl,-⟩:=hS.rd.shape
 have hB:=h.cells
 have IP:∀b,(Value.slice a0 (T.length%512) c0).ownBlock=some b->b<w.heap.size:=fun b hb=>hS.lt hb
 have hg:=Ext.Lb w
 refine KJ (e:=[(0,_)]) Tryz.func48 rfl Tryz.ntmps48 rfl rfl (qN rfl (KO rfl (py (run_seq (qN rfl (An rfl (La [.tmp 8] z9Z rfl (SL h.wr) ?_)))))))
 rintro _ w ⟨rfl,rfl⟩
 refine KO rfl (qM rfl (An rfl (qV (M0 rfl rfl) (py (KH rfl (It (qN rfl (An rfl (qV (L6 rfl) (qV (KT Rw rfl) (qV (KT Q4 rfl) (qV (KS S4 rfl rfl hB rfl) (La [.tmp 17] YT rfl (hP.size) ?_)))))))))))))
 rintro _ w ⟨rfl,rfl⟩
 refine KO rfl (py (run_seq (run_seq (Lx (fun e' w'=>∃q,e'=[(0,ptr wb 0),(4,I 512),(38,.bool q)]/\(q=true↔T.length / 512<len-1)/\Ext w w') ?ey (fun ey=>?fk)))))
 case ey=>
  rintro e' w1 ⟨q,rfl,hq,ad⟩;have kA:=hP.ext' ad;have h1:=h.ext ad;have jc:=hS.ext ad;have ai:=h1.cells;have m4:=ad.size;refine Lx (fun e' w'=>e'=[(0,ptr wb 0),(4,I 512)]/\∃txt1 rest1 at1 l,Sp Q txt1 (K+1) (fun b=>X b\/rest1.ownBlock=some b) w'/\Yd Q.s st len wb bs bx bw rest1 at1 T.length sum w'/\Sl w' rest1 5 1 l.length (l.map Oq)/\l.length<=500/\(∀b,rest1.ownBlock=some b->¬X b)/\l=T.drop (512*(len-1))/\(∀j,j<len-1->512*j<T.length->∃z,txt1 ((st+j:Nat):Int)=(T.drop (512*j)).take 512++z)/\(∀y:Int,y<(st:Int)\/(st:Int)+(len:Int)<=y->txt1 y=txt y)/\Kp (fun b=>¬X b\/b=wb) w w') ?ar (fun ar=>?dJ)
  case ar=>
   rintro e' w2 ⟨rfl,txt1,rest1,at1,l,eu,h2,cL,ED,eW,hl,Dc,Dd,am⟩;obtain⟨a2,c2,rfl,-⟩:=cL.rd.shape;have ak:=h2.cells;have aa:=Ext.Lb w2;have nO:=am.size;refine run_seq (KV (fun w'=>Kp (fun b=>(Value.slice a2 l.length c2).ownBlock=some b) w2 w') (by kernel_rfl) rfl (KR 0 rfl (KW rfl) (aa.kp) (KR 1 rfl (L6 rfl) (aa.kp) (KR 2 rfl (KT NT rfl) (aa.kp) (qT 3 rfl (fun _ h=>KS M4 rfl rfl (h.KN ak (fun e=>eW _ e aW.1)) rfl) (aa.kp) (KR 4 rfl (KW rfl) (aa.kp) (KR 5 rfl (Md rfl rfl (by omega)) (aa.kp) (KR 6 rfl (KW rfl) (aa.kp) (KR 7 rfl (L6 rfl) (aa.kp) (KR 8 rfl (KT NT rfl) (aa.kp) (qT 9 rfl (fun _ h=>KS M4 rfl rfl (h.KN ak (fun e=>eW _ e aW.1)) rfl) (aa.kp) (KR 10 rfl (LM M4 rfl) (aa.kp) (KR 11 rfl (Md rfl rfl (by omega)) (aa.kp) ?_)))))))))))));rw[show(512:Int)-12-(l.length:Int)=((500-l.length:Nat):Int) by omega];refine qO 12 (Um (i:=12) rfl rfl rfl (zc0 M4 U3 U9 SJ rfl rfl (cL.ext aa) (by omega)) ?_);rintro v3 w3 ⟨cM,au,oQ⟩;refine⟨aa.kp.trans au,?_⟩;have xH:l.length+(500-l.length)=500:=by omega
   rw[xH,<-List.map_append] at cM;obtain⟨a3,c3,rfl,-⟩:=cM.rd.shape;have dt:=aa.kp.trans au
   have eE:∀b,(Value.slice a3 500 c3).ownBlock=some b->¬X b:=fun b hb e=>by
    rcases oQ b hb with e2|e2
    ·exact eW b e2 e
    ·have:=hX b e;have:=aa.size;omega
   have fi:Sp Q txt1 (K+1) (fun b=>X b\/(Value.slice a3 500 c3).ownBlock=some b) w3:=eu.step dt (fun b e=> .inr e) (fun b e=>e.elim (fun e=> .inl (.inl e)) (fun e=>(oQ b e).imp .inr (fun e=>by have:=aa.size;omega)));have h3:=h2.kp dt (fun e=>eW _ e aW.1) (fun e=>eW _ e aW.2.1) (fun e=>eW _ e aW.2.2.1) (fun e=>eW _ e aW.2.2.2);have ao:=h3.cells;have cm:Kp (fun b=>¬X b\/b=wb) w w3:=am.KK dt (fun b e=> .inr (.inl (eW b e)));refine KR 13 rfl (MO rfl) (aa.kp.trans au) (qE (qN rfl (An rfl (An rfl (qV (L6 rfl) (qV (KT Rw rfl) (qV (KT Pa rfl) (qV (KT MS rfl) (qV (KS U3 rfl rfl ao rfl) (qV (Md rfl rfl (by omega)) (qV (L6 rfl) (qV (KT SY rfl) ?_))))))))))));rw[show(len:Int)-1=((len-1:Nat):Int) by omega];refine L0 rfl (Mt LG rfl rfl rfl ao (by simp)) ?_;rintro w4 ⟨aJ,aw⟩;have h4:=h3.re aw (show KY w4 wb (swC Q.s st len (.slice a2 l.length c2) (len-1) T.length sum (Vu bs bx bw) false) 175 from aJ);have kN:=fi.own aw (fun b e=> .inl (by rw[e];exact aW.1));have dU:=cM.kp aw (fun b hb e=>eE b hb (by rw[e];exact aW.1));have en:=h4.cells;have ae:=Ext.Lb w4;have jM:=cm.trans (aw.L2 fun b e=>Or.inr e);have j0:=LK 8 T.length;have gh:=LK 4 sum;have qx:(l++zeros (500-l.length)).length=500:=by rw[List.length_append,show(zeros (500-l.length)).length=500-l.length by simp[zeros]];omega
   rw[List.length_append] at qx;refine py (Ll.qb (e:=[(0,_),(6,_)]) ?_);refine run_seq (Le [20,21] (fun w'=>Ext w4 w') (by kernel_rfl) rfl (qL [1,2,3,20,21] 0 rfl (fun _ h=>KW rfl) ae (qL [2,3,20,21] 1 rfl (fun _ h=>L6 rfl) ae (qL [3,20,21] 2 rfl (fun _ h=>KT UK rfl) ae (qL [20,21] 3 rfl (fun _ h=>KS U62 rfl rfl (h.KN en) rfl) ae (qL [5,12,19,20,21] 4 rfl (fun _ h=>KW rfl) ae (qL [7,8,9,10,11,12,18,19,20,21] 6 rfl (fun _ h=>KW rfl) ae (qL [8,9,10,11,12,18,19,20,21] 7 rfl (fun _ h=>L6 rfl) ae (qL [9,10,11,12,18,19,20,21] 8 rfl (fun _ h=>KT UO rfl) ae (qL [10,11,12,18,19,20,21] 9 rfl (fun _ h=>KS U3 rfl rfl (h.KN en) rfl) ae (qL [11,12,18,19,20,21] 10 rfl (fun _ h=>(by first|exact LF rfl U3 Mq (by omega)|exact N0 rfl U3 Mq)) ae ?_)))))))))));refine qL [14,15,16,17,18,19,20,21] 13 rfl (fun _ h=>KW rfl) ae (qL [15,16,17,18,19,20,21] 14 rfl (fun _ h=>L6 rfl) ae (qL [16,17,18,19,20,21] 15 rfl (fun _ h=>KT Y1 rfl) ae (qL [17,18,19,20,21] 16 rfl (fun _ h=>KS Mk rfl rfl (h.KN en) rfl) ae (qL [18,19,20,21] 17 rfl (fun _ h=>LF rfl Mk Mq (by omega)) ae (qL [12,19,20,21] 5 rfl (fun _ h=>z8R (l:=l++zeros (500-l.length)) M4 U5 U9 rfl (by rw[List.length_append,qx];exact dU.rd.ext h) (by rw[List.length_append];omega)) ae ?_)))));refine MB (i:=11) (by kernel_rfl) (N6 (i:=11) rfl rfl rfl (yc (args:=[.tmp 96,.const (Value.int .i64 8)]) zaK rfl) (Us T.length 8 _ (by omega) (by omega)) ?_);rintro _ w5 ⟨rfl,aR⟩;refine⟨ae.trans aR,?_⟩;refine qL [19,20,21] 12 rfl (fun _ h=>T3 rfl rfl (by first|omega|(simp;done)|(simp;omega))) (ae.trans aR) ?_;refine MB (i:=18) (by kernel_rfl) (N6 (i:=18) rfl rfl rfl (yc (args:=[.tmp 103,.const (Value.int .i64 4)]) zaK rfl) (Us sum 4 _ (by omega) (by omega)) ?_);rintro _ w6 ⟨rfl,aG⟩;refine⟨(ae.trans aR).trans aG,?_⟩;have cF:=(ae.trans aR).trans aG
   have jU:∀b,(X b\/(Value.slice a3 500 c3).ownBlock=some b)->b<w6.heap.size:=fun b hb=>by
    have:=cF.size;have:=aw.size;have:=dt.size;rcases hb with e| e
    ·have:=hX b e;omega
    ·have:=cM.lt e;omega
   refine qL [20,21] 19 rfl (fun _ h=>T3 rfl rfl (by first|omega|(simp;done)|(simp;omega))) ((ae.trans aR).trans aG) ?_;refine LD [20] (by kernel_rfl) (by kernel_rfl) ?_;have kR:(l++zeros (500-l.length)++Qg 8 T.length++Qg 4 sum).length=512:=by rw[List.length_append,List.length_append,List.length_append,qx,LK,LK]
   refine qO 20 (Rj (i:=20) rfl rfl rfl (Nk (args:=[.tmp 105]) z9c rfl rfl) (TV (kN.ext' cF) jU (by omega) (h4.ext cF) ⟨.inl aW.1,.inl aW.2.1,.inl aW.2.2.1,.inl aW.2.2.2⟩ (by omega) _ kR) ?_);rintro _ w7 ⟨rfl,xI,h7,aA⟩;refine⟨trivial,?_⟩;have bE:=h7.cells;refine KR 21 rfl (MO rfl) trivial (qE (qN rfl (An rfl (qV (L6 rfl) (qV (KT T9 rfl) (L0 rfl (Mt QX rfl rfl rfl bE (by simp)) ?_))))));rintro w8 ⟨bZ,bh⟩;have o6:=(xI.own bh (fun b e=> .inl (by rw[e];exact aW.1))).less (Y:=X) (fun b e=> .inl e);refine py (Ll.qb (e:=[(7,_)]) ?_);refine qN rfl (An rfl (KO rfl (py (KP Tryz.func48 rfl (⟨_,rfl,rfl,_,o6,fun j hj=>?_,⟨l++zeros (500-l.length),?_,by rw[List.length_append,qx]⟩,fun y hy=>?_,?_⟩)))))
   ·by_cases e:j=len-1
    ·subst e;refine⟨zeros (500-l.length)++Qg 8 T.length++Qg 4 sum,?_⟩;rw[Nd];show l++_++_++_=_;rw[<-hl,List.take_of_length_le (by omega)];simp only[List.append_assoc]
    ·obtain⟨z,hz⟩:=Dc j (by omega) hj;exact⟨z,by rw[MJ _ _ (by omega)];exact hz⟩
   ·rw[Nd];show _++_++_=_;unfold Sh;simp only[List.append_assoc]
   ·rw[MJ _ _ (by omega)];exact Dd y hy
   ·refine((jM.trans cF.kp).KK aA fun b e=>?_).trans (bh.L2 fun b e=> .inr e);rcases e with e| e
    ·by_cases hb:X b
     ·exact absurd (.inl hb) e
     ·exact .inr (.inl hb)
    ·exact .inr (.inr e)
  case dJ=>
   refine LO rfl (fun fE=>?_) (fun fE=>?_)
   ·have vQ:=hq.1 fE;have hr:500<T.length%512/\T.length / 512=len-2/\2<=len:=by omega
    have bj:=Ext.Lb w1;refine run_seq (run_seq (Le [17,18] (fun w'=>Kp (fun b=>(Value.slice a0 (T.length%512) c0).ownBlock=some b) w1 w') (by kernel_rfl) rfl (qL [1,2,3,17,18] 0 rfl (fun _ h=>KW rfl) (bj.kp) (qL [2,3,17,18] 1 rfl (fun _ h=>L6 rfl) (bj.kp) (qL [3,17,18] 2 rfl (fun _ h=>KT UK rfl) (bj.kp) (qL [17,18] 3 rfl (fun _ h=>KS U62 rfl rfl (h.KN ai (fun e=>bG _ e aW.1)) rfl) (bj.kp) (qL [5,6,7,15,16,17,18] 4 rfl (fun _ h=>KW rfl) (bj.kp) (qL [6,7,15,16,17,18] 5 rfl (fun _ h=>L6 rfl) (bj.kp) (qL [7,15,16,17,18] 6 rfl (fun _ h=>KT NT rfl) (bj.kp) (qL [15,16,17,18] 7 rfl (fun _ h=>KS M4 rfl rfl (h.KN ai (fun e=>bG _ e aW.1)) rfl) (bj.kp) (qL [14,15,16,17,18] 8 rfl (fun _ h=>KW rfl) (bj.kp) (qL [10,11,12,13,14,15,16,17,18] 9 rfl (fun _ h=>KW rfl) (bj.kp) (qL [11,12,13,14,15,16,17,18] 10 rfl (fun _ h=>L6 rfl) (bj.kp) ?_)))))))))))));refine qL [12,13,14,15,16,17,18] 11 rfl (fun _ h=>KT NT rfl) (bj.kp) (qL [13,14,15,16,17,18] 12 rfl (fun _ h=>KS M4 rfl rfl (h.KN ai (fun e=>bG _ e aW.1)) rfl) (bj.kp) (qL [14,15,16,17,18] 13 rfl (fun _ h=>LM M4 rfl) (bj.kp) (qL [15,16,17,18] 14 rfl (fun _ h=>Md rfl rfl (by omega)) (bj.kp) ?_)));rw[show(512:Int)-((T.length%512:Nat):Int)=((512-T.length%512:Nat):Int) by omega];refine MB (i:=15) (by kernel_rfl) (LZ (i:=15) rfl rfl rfl (zc0 M4 U3 U9 SJ rfl rfl (jc.ext bj) (by omega)) ?_);rintro v2 w2 ⟨cL,am,qF⟩;refine⟨bj.kp.trans am,?_⟩;rw[show T.length%512+(512-T.length%512)=512 by omega,<-List.map_append] at cL;have qx:(T.drop (512*(T.length / 512))++zeros (512-T.length%512)).length=512:=by rw[List.length_append,List.length_drop,show(zeros (512-T.length%512)).length=512-T.length%512 by simp[zeros]];omega
    refine MB (i:=16) (by kernel_rfl) (z8o (i:=16) rfl rfl rfl (z8R (l:=T.drop (512*(T.length / 512))++zeros (512-T.length%512)) M4 U5 U9 rfl (by rw[qx];exact cL.rd) (by omega)) (bj.kp.trans am) ?_);have aU:=bj.kp.trans am;have eu:Sp Q txt K X w2:=kA.step aU (fun b e=> .inr e) (fun b e=> .inl (.inl e));have h2:=h1.kp aU (fun e=>bG _ e aW.1) (fun e=>bG _ e aW.2.1) (fun e=>bG _ e aW.2.2.1) (fun e=>bG _ e aW.2.2.2);have nO:=aU.size;refine LD [17] (by kernel_rfl) (by kernel_rfl) (qO 17 (Rj (i:=17) rfl rfl rfl (Nk (args:=[.tmp 55]) z9c rfl rfl) (TV eu (fun b hb=>by have:=hX b hb;omega) (by omega) h2 aW (by omega) _ qx) ?_));rintro _ w3 ⟨rfl,fi,h3,au⟩;refine⟨trivial,?_⟩;have ao:=h3.cells;refine KR 18 rfl (MO rfl) trivial (qE (qN rfl (An rfl (qV (M0 rfl rfl) (py (KH rfl (It (KQ rfl (An rfl (qV (L6 rfl) (qV (KT NT rfl) (L0 rfl (Mt S6 rfl rfl rfl ao (by simp)) ?_))))))))))));rintro w4 ⟨aJ,aw⟩;have h4:=h3.re aw (show KY w4 wb (swC Q.s st len (.slice none 0 0) (T.length / 512+1) T.length sum (Vu bs bx bw) false) 175 from aJ);have kN:=fi.own aw (fun b e=>by rw[e];exact aW.1);have jX:(T.drop (512*(T.length / 512))).take 512=T.drop (512*(T.length / 512)):=List.take_of_length_le (by rw[List.length_drop];omega);refine py (Ll.qb (e:=[(0,_),(4,_)]) ?_);refine(ar _ _ ⟨rfl,_,.slice none 0 0,_,[],kN.less (fun b e=>e.elim id (fun e=>by cases e)),h4,Sl.nil w4 _ 1,Nat.zero_le _,(fun b e=>by cases e),(List.drop_of_length_le (by omega)).symm,fun j hj kf=>?_,fun y hy=>?_,?_⟩).qb
    ·by_cases e:j=T.length / 512
     ·subst e;exact⟨zeros (512-T.length%512),by rw[Nd,jX];rfl⟩
     ·exact⟨[],by rw[MJ _ _ (by omega),List.append_nil];exact io j (by omega)⟩
    ·rw[MJ _ _ (by omega)]
    ·refine((ad.kp.KK aU fun b e=> .inr (.inl (bG b e))).trans au).trans (aw.L2 fun b e=> .inr e)
   ·have vQ:¬T.length / 512<len-1:=fun e=>by rw[hq.2 e] at fE;cases fE
    have IQ:T.length / 512=len-1:=by omega
    have eO:(T.drop (512*(T.length / 512))).length=T.length%512:=by rw[List.length_drop];omega
    refine It ((ar _ _ ⟨rfl,txt,.slice a0 (T.length%512) c0,T.length / 512,T.drop (512*(T.length / 512)),kA.more (by omega),h1,by rw[eO];exact jc,by omega,bG,by rw[IQ],fun j hj kf=>⟨[],by rw[List.append_nil];exact io j (by omega)⟩,fun y hy=>rfl,ad.kp⟩).qb)
 case fk=>
  refine KV (fun w'=>Ext w w') (by kernel_rfl) rfl (KR 0 rfl (KW rfl) hg (KR 1 rfl (L6 rfl) hg (KR 2 rfl (KT SY rfl) hg (qT 3 rfl (fun _ h=>KS U3 rfl rfl (h.KN hB) rfl) hg (KR 4 rfl (KW rfl) hg (KR 5 rfl (L6 rfl) hg (KR 6 rfl (KT Rw rfl) hg (KR 7 rfl (KT Pa rfl) hg (KR 8 rfl (KT MS rfl) hg (qT 9 rfl (fun _ h=>KS U3 rfl rfl (h.KN hB) rfl) hg (KR 10 rfl (Md rfl rfl (by omega)) hg ?_)))))))))));rw[show(len:Int)-1=((len-1:Nat):Int) by omega];rcases Nat.lt_or_ge (T.length / 512) (len-1) with hq|hq
  ·refine KR 11 rfl (LX rfl rfl) hg (OL (KR 12 rfl (KW rfl) hg (KR 13 rfl (KW rfl) hg (KR 14 rfl (L6 rfl) hg (KR 15 rfl (KT NT rfl) hg (qT 16 rfl (fun _ h=>KS M4 rfl rfl (h.KN hB) rfl) hg (KR 17 rfl (LM M4 rfl) hg (KR 18 rfl (LU rfl rfl) hg (OL (KR 19 rfl (LR rfl rfl) hg (qE (Ll.qb (e:=[(0,_),(2,_),(4,_),(38,_)]) ?_))))))))))));exact(ey _ _ ⟨true,rfl,⟨fun _=>hq,fun _=>rfl⟩,hg⟩).qb
  ·refine KR 11 rfl (LX rfl rfl) hg (PA (KR 12 rfl (KW rfl) hg (qJ 13 rfl (hg) (qJ 14 rfl (hg) (qJ 15 rfl (hg) (qJ 16 rfl (hg) (qJ 17 rfl (hg) (qJ 18 rfl (hg) (KR 19 rfl (Ls rfl rfl) hg (qE (Ll.qb (e:=[(0,_),(2,_),(4,_),(38,_)]) ?_)))))))))));exact(ey _ _ ⟨false,rfl,⟨fun e=>(by cases e),fun e=>by omega⟩,hg⟩).qb
end
end Go.Proofs.YtpldpcjdjcgicaaGreatDoor
namespace Go.Proofs.YtpldpcjdjcgicaaGreatDoor
open Go Go.RowKit Go.Shelf
set_option linter.all false
set_option maxRecDepth 100000
def BdM (w:World)(b:Nat)(l:Bytes)(v:Value):Prop:=(∃p,(p= .pointer none\/p=ptr b 0)/\KY w b [p,v] 157)/\Sl w v 5 1 l.length (l.map Oq)/\v.ownBlock≠some b
section
variable {w w':World}{b:Nat}{l s:Bytes}{v:Value}{S':Nat->Prop}
theorem BdM.kp (h:BdM w b l v)(hk:Kp S' w w')(h1:¬S' b)(h2:∀g,v.ownBlock=some g->¬S' g):BdM w' b l v:=by
 obtain⟨⟨p,hp,hB⟩,hS,hn⟩:=h
 exact⟨⟨p,hp,hk.KN hB h1⟩,hS.kp hk h2,hn⟩
theorem BdM.new (h:KY w b [.pointer none,.slice none 0 0] 157):BdM w b [] (.slice none 0 0):=⟨⟨_,.inl rfl,h⟩,Sl.nil w _ 1,fun e=>by cases e⟩
theorem KY.shape {cs:List Value}{T:TypeId}(h:KY w b cs T):w.shape? b=some (T,cs.length):=by
 obtain⟨fz,hb,-⟩:=h
 simp[World.shape?,hb]
theorem z68 (h:BdM w b l v):Lk Tryz.prog 95 [ptr b 0] w fun r w'=>r= .tuple #[]/\BdM w' b l v/\Kp (fun k=>k=b) w w':=by
 obtain⟨⟨p,hp,hB⟩,hS,hn⟩:=h
 rcases hp with rfl|rfl
 ·refine Calls.mono (Any.Builder_copyCheck_fresh {z8P with} z9b.toX72 b w (hB.cell 0) hB.shape (hB.free (i:=0) (by simp))) fun _ _ ⟨he,hw⟩=>⟨_,he,rfl,?_,?_⟩
  ·rw[hw];have hk:=OC w b 0 (ptr b 0);exact⟨⟨_,.inr rfl,Ro hB 0 (ptr b 0)⟩,hS.kp hk (fun g hg e=>hn (e▸hg)),hn⟩
  ·rw[hw];exact OC w b 0 _
 ·exact Calls.mono (Any.Builder_copyCheck_used {z8P with} z9b.toX72 b w (hB.cell 0)) fun _ _ ⟨he,hw⟩=>⟨_,he,rfl,by rw[hw];exact⟨⟨_,.inr rfl,hB⟩,hS,hn⟩,by rw[hw];exact Kp.refl _ _⟩
theorem z5V (h:BdM w b l v)(s:Bytes)(hl:l.length+s.length<=140737488355328):Lk Tryz.prog 64 [ptr b 0,S s] w fun _ w'=>∃v',BdM w' b (l++s) v'/\Kp (fun k=>k=b\/v.ownBlock=some k) w w'/\(∀g,v'.ownBlock=some g->v.ownBlock=some g\/w.heap.size<=g):=by
 refine KJ (e:=[(0,_),(1,_)]) Tryz.func64 rfl Tryz.ntmps64 rfl rfl (qN rfl (KO rfl (KO rfl (qM rfl (An rfl (La [.tmp 6] zea rfl (z68 h) ?_))))))
 rintro _ w1 ⟨rfl,⟨⟨p,hp,ai⟩,jc,cG⟩,aM⟩
 have m4:=aM.size
 have l1:=ai.lt
 refine qM rfl (An rfl (An rfl (qV (L6 rfl) (qV (KT UH rfl) (qV (KS M4 rfl rfl ai rfl) (An rfl (KU rfl rfl (zbz M4 U9 SJ rfl rfl jc hl) ?_)))))))
 rintro v2 w2 ⟨cL,am,tT⟩
 have ak:=am.KN ai cG
 have nO:=am.size
 have j5:v2.ownBlock≠some b:=fun e=>by
  rcases tT b e with e| e
  ·exact cG e
  ·omega
 refine qV (L6 rfl) (qV (KT UH rfl) (L0 rfl (Mt S6 rfl rfl (RR cL) ak (by simp)) ?_))
 rintro w3 ⟨ao,au⟩
 refine qM rfl (An rfl (qV (R1 U9 rfl) (KO rfl (KO rfl (py (KP Tryz.func64 rfl ?_))))))
 rw[<-List.length_append,<-List.map_append] at cL
 refine⟨_,rfl,v2,⟨⟨p,hp,ao⟩,cL.kp au (fun g hg e=>j5 (e▸hg)),j5⟩,((aM.L2 fun k e=> .inl e).trans (am.L2 fun k e=> .inr e)).trans (au.L2 fun k e=> .inl e),fun g hg=>(tT g hg).imp id fun e=>by omega⟩
theorem z3E (w:World)(a:Addr)(n:Nat):Kp (fun k=>k=a.block) w (w.freeze a n):=by
 by_cases h0:n=0
 ·subst h0;rw[show w.freeze a 0=w by simp[World.freeze]];exact Kp.refl _ w
 ·unfold World.freeze;rw[if_neg h0]
  exact⟨rfl,rfl,rfl,by simp,fun k _ hn=>by
   simp only[Array.getElem?_modify]
   rw[if_neg (fun h=>hn h.symm)]⟩
section
variable {P:Program}{e:Env}{d:Option Nat}{ty t it el:TypeId}{pos:String}{aft:Array Edge}{g:Option (Nat×Bool)}{x y:Operand}{n c:Nat}{a:Option Addr}
theorem zeg (hx:look e x=some (.slice a n c))(hc:a≠none->c≠0):Y P e ⟨d,.call ⟨.builtin .unsafeSliceData,#[x],#[t]⟩,ty,pos,aft,g⟩ (.pointer a) w w:=fun ρ hρ=>by
 have hr:∀w,(Builtin.unsafeSliceData_ #[t] ty #[.slice a n c]).run P w= .ok (.pointer a) w:=fun w=>by
  cases a with
  |none=>rfl
  |some a=>exact Lib.run_unsafeSliceData_row (P:=P) w #[t] ty a n c (hc (by simp))
 simp[execOp,resolve,invoke,builtin,hρ _ _ hx,hr]
theorem zdq (hp:P.underlying t=some (.pointer el))(hc:P.cellsOf el=1)(hx:look e x=some (.pointer a))(hy:look e y=some (I (l.length:Int)))(hS:Sl w (.slice a l.length c) el 1 l.length (l.map Oq))(D6:l.length<=9223372036854775807)(h0:l=[]\/∃g,a=some ⟨g,0,none⟩):
  Yp P e ⟨d,.call ⟨.builtin .unsafeString,#[x,y],#[t,it]⟩,ty,pos,aft,g⟩ w fun r w'=>r=S l/\Kp (fun k=>(Value.slice a l.length c).ownBlock=some k) w w':=by
 by_cases hl:l=[]
 ·subst hl;have hr:=Lib.run_unsafeString_none (P:=P) w t it ty a;refine⟨_,w,fun ρ hρ=>?_,rfl,Kp.refl _ _⟩;have h1:=hρ _ _ hx;have h2:ρ y= .int .i64 0:=hρ _ _ hy;simp[execOp,resolve,invoke,builtin,h1,h2,hr]
  rfl
 ·obtain⟨b,rfl⟩:=h0.resolve_left hl;obtain⟨cur,jh,iY,lY,aD,m5⟩:=hS.row;have bc:=World.ownsRow.cells hS (g:=b) rfl;simp only[Nat.mul_one] at aD m5
  have hr:=Lib.run_unsafeString_row (P:=P) w t it ty el hp hc b cur.length (by unfold PN at jh;simp[World.shape?,jh]) l hl (by omega) D6 (fun j x hj=>by
   have:=bc j (Oq x) (by rw[List.getElem?_map,hj];rfl)
   exact this)
  refine⟨_,_,fun ρ hρ=>?_,rfl,(z3E w ⟨b,0,none⟩ l.length).L2 fun k e=>by rw[show k=b from e];rfl⟩;simp[execOp,resolve,invoke,builtin,hρ _ _ hx,hρ _ _ hy,hr]
end
theorem z4p (h:BdM w b l v)(h0:l=[]->v= .slice none 0 0)(hl:l.length<=140737488355328):Lk Tryz.prog 65 [ptr b 0] w fun r w'=>r=S l/\Kp (fun k=>v.ownBlock=some k) w w':=by
 obtain⟨⟨p,hp,hB⟩,hS,hn⟩:=h
 obtain⟨a,c,rfl,ha⟩:=hS.rd.shape
 have hg:=Ext.Lb w
 have yX:l=[]\/∃g,a=some ⟨g,0,none⟩:=by
  rcases hS.shape with⟨e,h1⟩|⟨g,cap,e,h1⟩
  ·exact .inl (List.eq_nil_of_length_eq_zero h1)
  ·cases e;exact .inr ⟨g,rfl⟩
 have tD:a≠none->c≠0:=fun e=>by
  by_cases ru:l=[]
  ·have:=h0 ru
   injection this with e1 _ _
   exact absurd e1 e
  ·have qp:l.length≠0:=by simpa using ru
   rcases hS.shape with⟨_,h1⟩|⟨g,cap,e2,h1⟩
   ·omega
   ·cases e2;omega
 refine KJ (e:=[(0,_)]) Tryz.func65 rfl Tryz.ntmps65 rfl rfl (qN rfl (KO rfl (py (run_seq (Le [10,11] (fun w'=>Ext w w') (by kernel_rfl) rfl (qL [1,2,3,4,10,11] 0 rfl (fun _ h=>KW rfl) hg (qL [2,3,4,10,11] 1 rfl (fun _ h=>L6 rfl) hg (qL [3,4,10,11] 2 rfl (fun _ h=>KT UH rfl) hg (qL [4,10,11] 3 rfl (fun _ h=>KS M4 rfl rfl (h.KN hB) rfl) hg (qL [6,7,8,9,10,11] 5 rfl (fun _ h=>KW rfl) hg (qL [7,8,9,10,11] 6 rfl (fun _ h=>L6 rfl) hg (qL [8,9,10,11] 7 rfl (fun _ h=>KT UH rfl) hg (qL [9,10,11] 8 rfl (fun _ h=>KS M4 rfl rfl (h.KN hB) rfl) hg ?_)))))))))))))
 refine qL [10,11] 9 rfl (fun _ h=>LM M4 rfl) hg (qL [10,11] 4 rfl (fun _ h=>zeg rfl tD) hg (LD [10] (by kernel_rfl) (by kernel_rfl) (qO 10 (Um (i:=10) rfl rfl rfl (zdq zdN (by kernel_rfl) rfl rfl (hS.ext hg) (by omega) yX) ?_))))
 rintro _ w1 ⟨rfl,aM⟩
 refine⟨trivial,?_⟩
 refine KR 11 rfl (MO rfl) trivial (qE (KP Tryz.func65 rfl ?_))
 exact⟨_,rfl,rfl,hg.kp.trans aM⟩
end
end Go.Proofs.YtpldpcjdjcgicaaGreatDoor
namespace Go.Proofs.YtpldpcjdjcgicaaGreatDoor
open Go Go.RowKit
set_option linter.all false
set_option maxRecDepth 100000
def srC (s st len n sum:Nat):List Value:=[ptr s 0,I (st:Int),I (len:Int),I (n:Int),U sum]
section
variable {w w':World}{Q:N1}{txt:Int->Bytes}{K:Nat}{X S':Nat->Prop}{st len n sum rb:Nat}{T:Bytes}
theorem z11 (hP:Sp Q txt K X w)(hX:∀b,X b->b<w.heap.size)(hK:K<1000000000000)(h1:1<=len)(ci:st+len<=Q.L.length)(hn:n<=len*512-12)(gl:sum<4294967296)(hf:∃z,txt ((st+(len-1):Nat):Int)=z++Sh n sum/\z.length=500):
  Lk Tryz.prog 49 [ptr Q.s 0,.agg #[I (st:Int),I (len:Int)]] w fun v w'=>∃rb,v= .tuple #[ptr rb 0,I 0]/\KY w' rb (srC Q.s st len n sum) 179/\w.heap.size<=rb/\Sp Q txt K (fun b=>X b\/b=rb) w'/\Kp (fun b=>¬X b) w w':=by
 have dS:=hP.n
 obtain⟨z,hz,uJ⟩:=hf
 have kR:=XV n sum
 refine KJ (e:=[(0,_),(1,_)]) Tryz.func49 rfl Tryz.ntmps49 rfl rfl (qN rfl (KU rfl rfl (MH rfl (cs:=[I (st:Int),I (len:Int)]) rfl) ?_))
 rintro _ w1 ⟨bx,rfl,f9,ad,g7⟩
 refine KO rfl (KO rfl (qM rfl (An rfl (qV (Lj (news:=[I (st:Int),I (len:Int)]) YE rfl Nh rfl (g7.cells (n:=2) rfl) rfl) (qV (NA (parts:=[(0,.tmp 12),(1,.tmp 13)]) (cs:=[_,_,_]) Rv rfl z7Y rfl rfl) (qV (NA (parts:=[(0,.tmp 14)]) (cs:=[_,_,_,_,_]) zaw rfl zcl rfl rfl) (KU rfl rfl (MH rfl (cs:=[ptr Q.s 0,I (st:Int),I (len:Int),I 0,U 0]) rfl) ?_)))))))
 rintro _ w2 ⟨rb,rfl,As,af,ak⟩
 have aI:=ad.trans af
 have De:=af.KN g7
 have z1:=ad.size
 have z2:=af.size
 have eu:Sp Q txt K (fun b=>X b\/b=rb) w2:=hP.ext aI (fun b e=>e.imp id fun e=>by omega)
 refine KO rfl (py (run_seq (qN rfl (An rfl (qV (L6 rfl) (qV (KT Te rfl) (qV (Lj z6h rfl Rv rfl (KY.cells (n:=3) ak (news:=[_,_,_]) rfl) rfl) (La [.tmp 20] zbm rfl (UA eu h1 ci) ?_))))))))
 rintro _ w3 ⟨rfl,ah⟩
 have fi:=eu.ext' ah
 have ao:=ah.KN ak
 have xJ:=ah.KN De
 have z3:=ah.size
 have l2:=ak.lt
 have ee:=fi.read (fun b hb=>by
  rcases hb with e| e
  ·have:=hX b e;omega
  ·omega) hK (no:=((st+(len-1):Nat):Int)) (by omega) (by omega)
 rw[hz] at ee
 refine KO rfl (qM rfl (An rfl (qV (M0 rfl rfl) (py (KH rfl (It (qN rfl (An rfl (qV (KT MN rfl) (qV (KS U3 rfl rfl xJ rfl) (qV (KT MS rfl) (qV (KS U3 rfl rfl xJ rfl) (LH rfl rfl ?_)))))))))))))
 refine qV (Md rfl rfl (by omega)) ?_
 rw[show(st:Int)+(len:Int)-1=((st+(len-1):Nat):Int) by omega]
 refine La [.tmp 26,.tmp 32] z6N rfl (ee) ?_
 rintro _ w4 ⟨rfl,kN,aw⟩
 have aJ:=aw.KN ao (fun e=>e (.inr rfl))
 refine An rfl (qV (Lu rfl rfl) (qV (Lu rfl rfl) (KO rfl (KO rfl (py (Ll.qb (e:=[(4,_),(5,_),(6,_),(8,_),(9,_)]) ?_))))))
 refine run_seq (qN rfl (An rfl (qV (M0 rfl rfl) (py (KH rfl (It (qN rfl (An rfl (An rfl (qV (R1 U9 rfl) ?_))))))))))
 rw[show((z++Sh n sum).length:Int)=512 by rw[List.length_append,kR,uJ];rfl]
 refine qV (Md rfl rfl (by omega)) ?_
 rw[show(512:Int)-12=((500:Nat):Int) by omega]
 refine qV (VJ (m:=500) U9 rfl rfl (by rw[List.length_append,kR,uJ];omega)) ?_
 rw[show(z++Sh n sum).drop 500=Sh n sum from List.drop_left' uJ]
 refine KO rfl (qM rfl (An rfl (qV (Zc (m:=8) U9 rfl rfl (by rw[kR];omega)) ?_)))
 rw[show(Sh n sum).take 8=Qg 8 n from List.take_left' (LK _ _)]
 have qH:valB (Lc (Qg 8 n))=n:=XC (by omega)
 have Df:valB (Lc (Qg 4 sum))=sum:=XC (by omega)
 have j0:=LK 8 n
 have gh:=LK 4 sum
 refine La [.tmp 45] zbc rfl (WJ (Qg 8 n) (by omega) _) ?_
 rintro _ w5 ⟨rfl,aR⟩
 rw[qH]
 have aF:=aR.KN aJ
 have gE:=kN.ext' aR
 refine KO rfl (py (run_seq (qN rfl (An rfl (An rfl (qV (L6 rfl) (qV (KT Te rfl) (qV (Lj z6h rfl Rv rfl (KY.cells (n:=3) aF (news:=[_,_,_]) rfl) rfl) (La [.tmp 51] zaF rfl (Wi gE (by omega)) ?_)))))))))
 rintro _ w6 ⟨rfl,aG⟩
 have aN:=aG.KN aF
 have pC:=gE.ext' aG
 refine qV ((by first|exact LF rfl U3 Mq (by omega)|exact N0 rfl U3 Mq)) ?_
 refine qV (LU rfl rfl) (Ly (py (Ll.qb (e:=[(4,_),(5,_),(6,_),(10,_),(11,_),(54,_)]) ?_)))
 refine KH rfl (It (qN rfl (An rfl (An rfl (An rfl (qV (Lw rfl Mq U3 (by omega)) (An rfl (qV (VJ (m:=8) U9 rfl rfl (by rw[kR];omega)) ?_))))))))
 rw[show(Sh n sum).drop 8=Qg 4 sum from List.drop_left' (LK _ _)]
 refine La [.tmp 60] zbc rfl (WJ (Qg 4 sum) (by omega) _) ?_
 rintro _ w7 ⟨rfl,bL⟩
 rw[Df]
 have bE:=bL.KN aN
 refine qV (Zv rfl Mq Mk) (qV (L6 rfl) (qV (KT UY rfl) (L0 rfl (Mt LG rfl rfl rfl bE (by simp)) ?_)))
 rintro w8 ⟨bZ,bh⟩
 replace bZ:KY w8 rb [ptr Q.s 0,I (st:Int),I (len:Int),I (n:Int),U 0] 179:=bZ
 refine qV (L6 rfl) (qV (KT z7e rfl) ?_)
 rw[Nat.mod_eq_of_lt (show sum<2^32 by omega)]
 refine L0 rfl (Mt L8 rfl rfl rfl bZ (by simp)) ?_
 rintro w9 ⟨cC,aL⟩
 refine qM rfl (An rfl (KO rfl (KO rfl (py (KP Tryz.func49 rfl ?_)))))
 have qw:=(((pC.ext' bL).own bh (fun b e=> .inr e)).own aL (fun b e=> .inr e))
 refine⟨_,rfl,rb,rfl,cC,by omega,qw,?_⟩
 have Dg:Kp (fun b=>¬X b) w w4:=((aI.trans ah).kp (S:=fun b=>¬X b)).trans (aw.L2 fun b e e2=>e (.inl e2))
 refine(((Dg.trans (aR.trans (aG.trans bL)).kp).KK bh fun b e=> .inl (by omega)).KK aL fun b e=> .inl (by omega))
theorem z3k (hB:KY w rb (srC Q.s st len n sum) 179):Lk Tryz.prog 261 [ptr rb 0] w fun v w'=>v=I (n:Int)/\w'=w:=by
 replace hB:KY w rb [ptr Q.s 0,I (st:Int),I (len:Int),I (n:Int),U sum] 179:=hB
 refine KJ (e:=[(0,_)]) Tryz.func261 rfl Tryz.ntmps261 rfl rfl (qN rfl (KO rfl (py (run_seq (qN rfl (An rfl (qV (LQ z6E rfl rfl) (py (KH rfl (It (qN rfl (An rfl (qV (L6 rfl) ?_)))))))))))))
 refine qV (KT UY rfl) (qV (KS U3 rfl rfl hB rfl) (KO rfl (py (KP Tryz.func261 rfl ?_))))
 exact⟨_,rfl,rfl,rfl⟩
theorem z5i (hP:Sp Q txt K (fun b=>X b\/b=rb) w)(hX:∀b,X b->b<w.heap.size)(pD:¬X rb)(hK:K<1000000000000)(ci:st+len<=Q.L.length)(hL:Laid txt st T)(hB:KY w rb (srC Q.s st len T.length sum) 179)(hT:T.length<=len*512)(off n:Nat)(ho:off+n<=T.length):
  Lk Tryz.prog 262 [ptr rb 0,I (off:Int),I (n:Int)] w fun v w'=>v= .tuple #[S ((T.drop off).take n),I 0]/\Sp Q txt K (fun b=>X b\/b=rb) w'/\KY w' rb (srC Q.s st len T.length sum) 179/\Kp (fun b=>¬X b) w w':=by
 have dS:=hP.n
 have lrb:=hB.lt
 replace hB:KY w rb [ptr Q.s 0,I (st:Int),I (len:Int),I (T.length:Int),U sum] 179:=hB
 refine KJ (e:=[(0,_),(1,_),(2,_)]) Tryz.func262 rfl Tryz.ntmps262 rfl rfl (qN rfl (KO rfl (KO rfl (py (run_seq (KL (qN rfl (An rfl (qV (LQ z6E rfl rfl) (KO rfl (py (KH rfl (qN rfl ?_)))))))))))))
 refine An rfl (qV (LX rfl rfl) (Ly (An rfl (An rfl (qV (LX rfl rfl) (Ly (qV (Ls rfl rfl) (An rfl (An rfl (An rfl (qV (L6 rfl) (qV (KT UY rfl) (qV (KS U3 rfl rfl hB rfl) ?_)))))))))))))
 refine qV (LU rfl rfl) (Ly (qV (Ls rfl rfl) (An rfl (An rfl (An rfl (qV (L6 rfl) (qV (KT UY rfl) (qV (KS U3 rfl rfl hB rfl) (An rfl (qV (Md rfl rfl (by omega)) (qV (LU rfl rfl) (Ly (qV (Ls rfl rfl) ?_)))))))))))))
 refine KO rfl (py (Ll.qb (e:=[(0,_),(1,_),(2,_),(6,_),(7,_),(15,_)]) ?_))
 refine KH rfl (It (KM (qN rfl (An rfl (qV (L6 rfl) (qV (KT Te rfl) (qV (KT Q4 rfl) (qV (KS S4 rfl rfl hB rfl) (La [.tmp 44] YT rfl (hP.size) ?_)))))))))
 rintro _ w ⟨rfl,rfl⟩
 refine KO rfl (qM rfl (KU rfl rfl (N3 (cs:=[_,_]) za9 rfl) ?_))
 rintro _ w1 ⟨bb,rfl,uj,ad,zd⟩
 have Dh:=BdM.new zd
 have z1:=ad.size
 refine py (run_seq (KL (MV (α:=Nat×Value) ((0,Value.slice none 0 0)) (fun y=>[(0,ptr rb 0),(1,I ((off+y.1:Nat):Int)),(2,I ((n-y.1:Nat):Int)),(8,I 512),(9,ptr bb 0)]) (fun y w'=>y.1<=n/\BdM w' bb ((T.drop off).take y.1) y.2/\(y.1=0->y.2= .slice none 0 0)/\(∀g,y.2.ownBlock=some g->w.heap.size<=g)/\Sp Q txt K (fun b=>(X b\/b=rb)\/b=bb\/y.2.ownBlock=some b) w'/\Kp (fun b=>¬(X b\/b=rb)) w w') (fun y=>n-y.1) ?hI ?hround)))
 case hI=>exact⟨Nat.zero_le _,Dh,fun _=>rfl,fun g hg=>(by cases hg),hP.ext ad (fun b e=>e.imp id fun e=>e.elim (fun e=>by omega) (fun e=>by cases e)),ad.kp⟩
 case hround=>
  rintro⟨m,v⟩ w2 ⟨hm,nj,Fx,eU,eu,am⟩ ih;dsimp only at hm nj Fx eU eu ih⊢;have ak:=am.KN hB (fun e=>e (.inr rfl));have hg:=Ext.Lb w2;have z2:=am.size;have lbb:bb<w2.heap.size:=by obtain⟨⟨p,hp,hb⟩,-,-⟩:=nj;exact hb.lt
  have oh:∀b,((X b\/b=rb)\/b=bb\/v.ownBlock=some b)->b<w2.heap.size:=fun b hb=>by
   rcases hb with(e|e)|e| e
   ·have:=hX b e;omega
   ·omega
   ·omega
   ·exact nj.2.1.lt e
  try dsimp only
  refine run_seq (qN rfl (An rfl (qV (LU rfl rfl) (py (KZ rfl (fun h0=>?_) (fun h0=>?_))))))
  ·obtain⟨q,hq⟩:∃q,min (n-m) (512-(off+m)%512)=q:=⟨_,rfl⟩;have ev:=eu.W8 (x:=((st+(off+m) / 512:Nat):Int)) (by omega) (by omega);have kE:=hL.piece (off:=off+m) (n:=q) (by omega) (by omega);have ee:=(eu.ext' hg).read (fun b hb=>by have:=oh b hb;have:=hg.size;omega) hK (no:=((st+(off+m) / 512:Nat):Int)) (by omega) (by omega);obtain⟨t,ht⟩:∃t,txt ((st+(off+m) / 512:Nat):Int)=t:=⟨_,rfl⟩;rw[ht] at ev kE ee;refine It (KL (run_seq (KV (fun w'=>Kp (fun b=>¬((X b\/b=rb)\/b=bb\/v.ownBlock=some b)) w2 w') (by kernel_rfl) rfl (KR 0 rfl (KW rfl) (hg.kp) (KR 1 rfl (L6 rfl) (hg.kp) (KR 2 rfl (KT Te rfl) (hg.kp) (KR 3 rfl (KT Q4 rfl) (hg.kp) (qT 4 rfl (fun _ hS=>KS S4 rfl rfl (hS.KN ak (fun e=>e (.inl (.inr rfl)))) rfl) (hg.kp) (KR 5 rfl (KW rfl) (hg.kp) (KR 6 rfl (L6 rfl) (hg.kp) (KR 7 rfl (KT Te rfl) (hg.kp) (KR 8 rfl (KT Pa rfl) (hg.kp) (KR 9 rfl (KT MN rfl) (hg.kp) ?_)))))))))))));refine qT 10 rfl (fun _ hS=>KS U3 rfl rfl (hS.KN ak (fun e=>e (.inl (.inr rfl)))) rfl) (hg.kp) (KR 11 rfl (KW rfl) (hg.kp) (KR 12 rfl (KW rfl) (hg.kp) (KR 13 rfl (RE rfl rfl (by omega)) (hg.kp) (KR 14 rfl (PM rfl rfl (by omega)) (hg.kp) ?_))));rw[show(st:Int)+((off+m:Nat):Int) / 512=((st+(off+m) / 512:Nat):Int) by omega];refine O2 15 [.tmp 53,.tmp 63] rfl z6N rfl (ee) ?_;rintro _ w3 ⟨rfl,fi,au⟩;refine⟨hg.kp.trans au,?_⟩;have dt:=hg.kp.trans au;have Di:=nj.kp dt (fun e=>e (.inr (.inl rfl))) (fun g hg e=>e (.inr (.inr hg)));refine KR 16 rfl (KW rfl) (hg.kp.trans au) (KR 17 rfl (Lu rfl rfl) (hg.kp.trans au) (KR 18 rfl (Lu rfl rfl) (hg.kp.trans au) (KR 19 rfl (MO rfl) (hg.kp.trans au) (KR 20 rfl (MO rfl) (hg.kp.trans au) (qE (run_seq (qN rfl (An rfl (qV (M0 rfl rfl) (py (KH rfl (It (qN rfl ?_)))))))))))));refine An rfl (An rfl (An rfl (qV (yre rfl rfl (by omega)) ?_)));rw[show((off+m:Nat):Int)%512=(((off+m)%512:Nat):Int) by omega];refine qV (VJ U9 rfl rfl (by omega)) (KO rfl (qM rfl (An rfl (An rfl (An rfl (qV (R1 U9 rfl) (qV (ymi rfl rfl) ?_)))))));rw[show min ((n-m:Nat):Int) ((t.drop ((off+m)%512)).length:Int)=((q:Nat):Int) by rw[List.length_drop];omega];refine qV (Zc (m:=q) U9 rfl rfl (by rw[List.length_drop];omega)) ?_;rw[kE];have Bw:((T.drop (off+m)).take q).length=q:=by rw[List.length_take,List.length_drop];omega
   have gL:((T.drop off).take m).length<=m:=by rw[List.length_take];omega
   refine KO rfl (qM rfl (An rfl (La [.tmp 9,.tmp 81] zdb rfl (z5V Di ((T.drop (off+m)).take q) (by omega)) ?_)));rintro _ w4 ⟨v4,Dj,aw,tF⟩;have z3:=dt.size;refine qM rfl (An rfl (An rfl (qV (R1 U9 rfl) ?_)));rw[Bw];refine LH rfl rfl (KO rfl (py (KQ rfl (An rfl (An rfl (qV (R1 U9 rfl) ?_))))));rw[Bw];refine qV (Md rfl rfl (by omega)) (KO rfl (py (KM ?_)));rw[show((off+m:Nat):Int)+(q:Int)=((off+(m+q):Nat):Int) by omega,show((n-m:Nat):Int)-(q:Int)=((n-(m+q):Nat):Int) by omega];refine(ih (m+q,v4) _ ⟨by dsimp only;omega,?_,fun e=>by dsimp only at e;omega,fun g hg=>(tF g hg).elim (eU g) (fun e=>by omega),?_,?_⟩ (by dsimp only;omega)).qb
   ·dsimp only;rw[List.take_add,List.drop_drop];exact Dj
   ·exact fi.step aw (fun b e=> .inr e) (fun b e=>by
     rcases e with e|e| e
     ·exact .inl (.inl e)
     ·exact .inl (.inr (.inl e))
     ·exact(tF b e).imp (fun e=> .inr (.inr e)) id)
   ·refine(am.trans (dt.L2 fun b e e2=>e (.inl e2))).KK aw fun b e=> .inl ?_;rcases e with e| e
    ·omega
    ·exact eU b e
  ·have IR:m=n:=by omega
   subst IR;refine KX rfl (qN rfl (La [.tmp 9] zdD rfl (z4p nj (fun e=>Fx (by have:=congrArg List.length e;rw[List.length_take,List.length_drop,List.length_nil] at this;omega)) (by rw[List.length_take,List.length_drop];omega)) ?_));rintro _ w3 ⟨rfl,au⟩;refine KO rfl (KO rfl (py (KP Tryz.func262 rfl ?_)));have cm:Kp (fun b=>¬(X b\/b=rb)) w w3:=am.KK au (fun b e=> .inl (eU b e));exact⟨_,rfl,rfl,eu.step au (fun b e=> .inr (.inr e)) (fun b e=> .inl (.inl e)),cm.KN hB (fun e=>e (.inr rfl)),cm.L2 fun b e e2=>e (.inl e2)⟩
end
section
variable {t:TypeId}{u:Value}{p:LW}{g:List (List Nat)}{E:List (Nat×Nat)}{R:Src t u (Sy p g E)}{k x:Nat}{X Y S:Nat->Prop}{w w':World}
theorem z1C (k v:Nat)(w:World):Lk Tryz.prog 62 [ptr k 0,I (v:Int)] w fun r w'=>∃bk bi,r= .func (.func 93) #[] #[ptr bk 0,ptr bi 0]/\KY w' bk [ptr k 0] 28/\KY w' bi [I (v:Int)] 3/\w.heap.size<=bk/\w.heap.size<=bi/\Ext w w':=by
 refine KJ (e:=[(0,_),(1,_)]) Tryz.func62 rfl Tryz.ntmps62 rfl rfl (qN rfl (KU rfl rfl (MH rfl (cs:=[ptr k 0]) rfl) ?_))
 rintro _ w1 ⟨bk,rfl,fX,ad,tM⟩
 refine KU rfl rfl (MH rfl (cs:=[I (v:Int)]) rfl) ?_
 rintro _ w2 ⟨bi,rfl,tX,af,Dk⟩
 refine KO rfl (qM rfl (qV (Zj (first:=[]) (caps:=[.tmp 2,.tmp 3]) rfl rfl) (KO rfl (py (KP Tryz.func62 rfl ?_)))))
 have:=ad.size
 exact⟨_,rfl,bk,bi,rfl,af.KN tM,Dk,by omega,by omega,ad.trans af⟩
theorem z0g {l bk bi v:Nat}(iH:g.length<50)(hv:v<g.length)(h:PL R k x X w)(fX:KY w bk [ptr k 0] 28)(tX:KY w bi [I (v:Int)] 3)(Z:Nat->Prop)(hZ:∀j,Z j->X j)(J:(Nat->Prop)->Nat->World->Prop)(F:World->Prop)
  (h0:∀(Y:Nat->Prop) (w':World),(∀j,X j->Y j)->(∀j,Y j->X j\/w.heap.size<=j)->PL R k x Y w'->Kp (fun j=>¬X j) w w'->J Y 0 w')
  (hround:∀(Y:Nat->Prop) (i s:Nat) (w':World),(∀j,X j->Y j)->(∀j,Y j->X j\/w.heap.size<=j)->(L9 g v)[i]? =some s->J Y i w'->Xs Tryz.prog l [Lp s,I 0] w' fun r w''=>(r= .bool true/\J Y (i+1) w''/\Kp (fun j=>¬Y j\/Z j) w' w'')\/(r= .bool false/\F w'')):
  Lk Tryz.prog 93 [.func (.yield l) #[] #[],ptr bk 0,ptr bi 0] w fun r w'=>r= .tuple #[]/\((∃Y,(∀j,X j->Y j)/\(∀j,Y j->X j\/w.heap.size<=j)/\J Y (L9 g v).length w')\/F w'):=by
 have aO:=h.lt
 have gm:(L9 g v).length<=g.length:=by
  unfold L9;rw[List.getElem?_eq_getElem hv];exact h.ok.gr.len (List.getElem_mem hv)
 refine KJ (e:=[(0,_),(1,_),(2,_)]) Tryz.func93 rfl Tryz.ntmps93 rfl rfl (qN rfl (qV ((by first|exact KS Z6 rfl rfl fX rfl|exact KS Z6 rfl rfl tX rfl)) ?_))
 refine qV ((by first|exact KS U3 rfl rfl fX rfl|exact KS U3 rfl rfl tX rfl)) ?_
 refine La [.tmp 9,.tmp 10] zdV rfl (z0I iH hv h) ?_
 rintro _ w1 ⟨vv,rfl,jc,il,h1,aM⟩
 have ee:=jc.rd
 obtain⟨a,c,rfl,ha⟩:=ee.shape
 refine An rfl (qV (Lu (v:= .slice a (L9 g v).length c) rfl rfl) (qV (Lu (v:=I 0) rfl rfl) (KO rfl (KO rfl (py (run_seq (qN rfl (An rfl (qV (M0 rfl rfl) (py (KH rfl (It (qN rfl ?_)))))))))))))
 refine An rfl (qV (LM Li rfl) (An rfl (py (KL ?_))))
 obtain⟨Y,hY⟩:∃Y:Nat->Prop,(fun j=>X j\/(Value.slice a (L9 g v).length c).ownBlock=some j)=Y:=⟨_,rfl⟩
 rw[hY] at h1
 have bV:∀j,X j->Y j:=fun j hj=>by rw[<-hY];exact .inl hj
 have kB:∀j,Y j->X j\/w.heap.size<=j:=fun j hj=>by
  rw[<-hY] at hj;exact hj.imp id (il j)
 have Fy:∀j,(Value.slice a (L9 g v).length c).ownBlock=some j->Y j/\¬Z j:=fun j hj=>⟨by rw[<-hY];exact .inr hj,fun e=>by have h2:=il j hj;have h3:=aO j (hZ j e);omega⟩
 refine MV (α:=Nat) (0) (fun i=>[(0,.func (.yield l) #[] #[]),(19,.slice a (L9 g v).length c),(20,I ((L9 g v).length:Int)),(21,I (i:Int))]) (fun i w'=>i<=(L9 g v).length/\J Y i w'/\Rd w' (.slice a (L9 g v).length c) 1 (L9 g v).length ((L9 g v).map Lp)) (fun i=>(L9 g v).length-i) ?hI ?hround
 case hI=>exact⟨Nat.zero_le _,h0 Y w1 bV kB h1 aM,ee⟩
 case hround=>
  rintro i w2 ⟨hi,hJ,xK⟩ ih
  try dsimp only
  refine qN rfl (qV (LX rfl rfl) (py (run_seq (KZ rfl (fun hq=>?_) (fun hq=>?_)))))
  ·obtain⟨s,hs⟩:∃s,(L9 g v)[i]? =some s:=⟨_,List.getElem?_eq_getElem (by omega)⟩;rcases xK.2 with⟨⟨ca,cc⟩,iv,tR⟩|⟨b,off,cap,iv,hc⟩
   ·omega
   cases iv;have bc:w2.cell? ⟨b,off+i*1,none⟩=some (Lp s):=hc (i*1) _ (by rw[Nat.mul_one,List.getElem?_map,hs];rfl);refine It (run_seq (KL (qN rfl (qV (LC Li L8 rfl rfl (by omega)) (qV (Lm Mk rfl rfl bc) (KO rfl (qM rfl (An rfl (An rfl (z1B rfl rfl (yy (args:=[.tmp 26,.const (Value.int .i64 0)]) rfl rfl) (hround Y i s w2 bV kB hs hJ) ?_))))))))));rintro r w3 gB;rcases gB with⟨rfl,IS,au⟩|⟨rfl,hF⟩
   ·refine qV ((by first|exact LN rfl|exact Na rfl)) ?_;refine py (KH rfl (It (KM (KQ rfl (LH rfl rfl (An rfl (py ?_)))))));exact(ih (i+1) _ ⟨by omega,IS,xK.kp au (fun j hj e=>e.elim (fun e=>e (Fy j hj).1) (Fy j hj).2)⟩ (by omega)).qb
   ·refine qV ((by first|exact LN rfl|exact Na rfl)) ?_;refine py (L3 rfl (KP Tryz.func93 rfl ?_));exact⟨_,rfl,rfl,.inr hF⟩
  ·have cO:i=(L9 g v).length:=by omega
   subst cO;refine KX rfl (M8 Tryz.func93 rfl ?_);exact⟨_,rfl,rfl,.inl ⟨Y,bV,kB,hJ⟩⟩
end
structure StO (Q:N1)(txt:Int->Bytes)(K st len:Nat)(T:Bytes):Prop where
 k:K<1000000000000
 fit:st+len<=Q.L.length
 laid:Laid txt st T
 len:T.length<=len*512
def z3F {Q:N1}{txt:Int->Bytes}{K st len:Nat}{T:Bytes}(o:StO Q txt K st len T)(rb sum:Nat):Src 121 (ptr rb 0) T where
 inv X w:=Sp Q txt K (fun b=>X b\/b=rb) w/\KY w rb (srC Q.s st len T.length sum) 179/\¬X rb
 fl:=261
 fr:=262
 cl:=zbj
 cr:=zc7
 ml:=by kernel_rfl
 mr:=by kernel_rfl
 ext:=fun h hx hY=>⟨h.1.ext hx fun b e=>e.elim (fun e=>(hY b e).elim (fun e=> .inl (.inl e)) .inr) (fun e=> .inl (.inr e)),hx.KN h.2.1,fun e=>(hY _ e).elim h.2.2 (fun e=>by have:=h.2.1.lt;omega)⟩
 step:=fun h hk hS hY=>⟨h.1.step hk (fun b e=> .inl (hS b e)) fun b e=>e.elim (fun e=>(hY b e).elim (fun e=> .inl (.inl e)) .inr) (fun e=> .inl (.inr e)),hk.KN h.2.1 (fun e=>h.2.2 (hS _ e)),fun e=>(hY _ e).elim h.2.2 (fun e=>by have:=h.2.1.lt;omega)⟩
 len:=fun h=>(z3k (Q:=Q) h.2.1).mono fun v w' ⟨hv,hw⟩=>⟨hv,by rw[hw];exact Ext.refl _⟩
 rd:=fun off n h hX yW=>(z5i h.1 hX h.2.2 o.k o.fit o.laid h.2.1 o.len off n yW).mono fun v w' ⟨hv,h1,h2,h3⟩=>⟨hv,⟨h1,h2,h.2.2⟩,h3⟩
section
variable {t:TypeId}{u:Value}{p:LW}{g:List (List Nat)}{E:List (Nat×Nat)}{k x:Nat}{X Y S:Nat->Prop}{w w':World}
theorem PL.re {R R':Src t u (Sy p g E)}(h:PL R k x X w)(hk:Kp S w w')(hS:∀j,S j->j≠k/\j≠x/\j≠1/\j≠2)(hI:R'.inv X w'):PL R' k x X w':=
 ⟨h.ok,hk.KN h.KN (fun e=>(hS _ e).1 rfl),hk.KN h.ix (fun e=>(hS _ e).2.1 rfl),h.xk,h.xx,hI,fun j hj=>by have:=h.lt j hj;have:=hk.size;omega,h.x1,h.x2,hk.KN h.gam (fun e=>(hS _ e).2.2.1 rfl),hk.KN h.una (fun e=>(hS _ e).2.2.2 rfl)⟩
theorem z1j {Q:N1}{txt:Int->Bytes}{K st len rb sum:Nat}(hp:NY p g E)(o:StO Q txt K st len (Sy p g E))(hI:(z3F o rb sum).inv X w)(hX:∀j,X j->j<w.heap.size)(x1:X 1)(x2:X 2)(hG:KY w 1 (NM .gamma) 298)(hU:KY w 2 (NM .unary) 298):
  Lk Tryz.prog 50 [ptr rb 0] w fun v w'=>∃k x,v= .tuple #[ptr k 0,I 0]/\w.heap.size<=k/\w.heap.size<=x/\PL (z3F o rb sum) k x (fun j=>X j\/j=x\/j=k) w'/\Kp (fun j=>¬X j) w w':=by
 refine KJ (e:=[(0,_)]) Tryz.func50 rfl Tryz.ntmps50 rfl rfl (qN rfl (KO rfl (KO rfl (py (run_seq (qN rfl (An rfl (qV (LQ z6E rfl rfl) (py (KH rfl (It (qN rfl (An rfl ?_)))))))))))))
 refine qV (zbr z6E (fun _ h=>by cases h) rfl) ?_
 refine La [.tmp 7] zde rfl (z0G hp (z3F o rb sum) hI hX) ?_
 rintro _ w1 ⟨k,x,rfl,ai,ak,hx,hk,bG,lw,aM⟩
 refine qV (Lu rfl rfl) (qV (Lu rfl rfl) (KO rfl (KO rfl (py (KP Tryz.func50 rfl ?_)))))
 have z1:=aM.size
 have l1:=ai.lt
 have l2:=ak.lt
 refine⟨_,rfl,k,x,rfl,hk,hx,⟨hp,ai,ak,.inr (.inr rfl),.inr (.inl rfl),lw,fun j hj=>?_,.inl x1,.inl x2,aM.KN hG (fun e=>e x1),aM.KN hU (fun e=>e x2)⟩,aM⟩
 rcases hj with e|e| e
 ·have:=hX j e;omega
 ·omega
 ·omega
end
theorem z7c {n each:Nat}(he:1<=each):max (1:Int) (((n:Int)+(each:Int)-1) / (each:Int))=((PZ n each:Nat):Int):=by
 unfold PZ
 rw[show(n:Int)+(each:Int)-1=((n+each-1:Nat):Int) by omega]
 have h:((n+each-1:Nat):Int) / (each:Int)=(((n+each-1) / each:Nat):Int):=rfl
 rw[h]
 generalize (n+each-1) / each=q
 omega
section
variable {w w':World}{Q:N1}{txt:Int->Bytes}{K:Nat}{X:Nat->Prop}{vb width st each n:Nat}{xs:List Nat}
abbrev shV (n width each:Nat):Value:= .agg #[I (n:Int),I (width:Int),I (each:Int)]
theorem Tf (n width each:Nat)(he:1<=each/\each<=512)(hn:n<=4194304)(w:World):Lk Tryz.prog 51 [shV n width each] w fun v w'=>v=I (PZ n each:Int)/\Ext w w':=by
 refine KJ (e:=[(0,_)]) Tryz.func51 rfl Tryz.ntmps51 rfl rfl (qN rfl (KU rfl rfl (MH rfl (cs:=[I (n:Int),I (width:Int),I (each:Int)]) rfl) ?_))
 rintro _ w1 ⟨b1,rfl,bS,ad,ai⟩
 refine KO rfl (qM rfl (qV (KT Xu rfl) (qV (KS U3 rfl rfl ai rfl) (qV (KT Tt rfl) (qV (KS U3 rfl rfl ai rfl) (LH rfl rfl (qV (Md rfl rfl (by omega)) (qV (KT Tt rfl) (qV (KS U3 rfl rfl ai rfl) (qV (RE rfl rfl (by omega)) (qV (yma rfl rfl) (KO rfl (py ?_)))))))))))))
 rw[z7c he.1]
 refine KP Tryz.func51 rfl ?_
 exact⟨_,rfl,rfl,ad⟩
theorem Vp (n width each x:Nat)(hw:width=1\/width=2\/width=4\/width=8)(hx:x<2^(8*width))(w:World):Lk Tryz.prog 54 [shV n width each,L5 x] w fun v w'=>v= .bool true/\Ext w w':=by
 refine KJ (e:=[(0,_),(1,_)]) Tryz.func54 rfl Tryz.ntmps54 rfl rfl (qN rfl (KU rfl rfl (MH rfl (cs:=[I (n:Int),I (width:Int),I (each:Int)]) rfl) ?_))
 rintro _ w1 ⟨b1,rfl,bS,ad,ai⟩
 refine KO rfl (qM rfl (qV (KT QL rfl) (qV (KS U3 rfl rfl ai rfl) ?_)))
 by_cases h8:width=8
 ·refine qV (Mr rfl rfl) (MR (An rfl (qS (qS (qS (qS (qS (qS (qV (LR rfl rfl) (KO rfl (py (KP Tryz.func54 rfl ?_))))))))))));exact⟨_,rfl,rfl,ad⟩
 ·have IT:8*width<=32:=by omega
  have hp:1*2^(8*width)%18446744073709551616=2^(8*width):=by
   have:=Nat.pow_le_pow_right (show 0<2 by decide) IT;rw[Nat.one_mul,Nat.mod_eq_of_lt (by omega)]
  refine qV (Mr rfl rfl) (Ly (An rfl (An rfl (qV (KT QL rfl) (qV (KS U3 rfl rfl ai rfl) (qV (Tu rfl rfl (by omega)) ?_))))));rw[show(8:Int)*(width:Int)=((8*width:Nat):Int) by omega];refine qV (MD (8*width) (2^(8*width)) rfl rfl (by omega) rfl) ?_;rw[hp]
  generalize 2^(8*width)=P at hx⊢
  refine qV (LX rfl rfl) (MR (qV (Ls rfl rfl) (KO rfl (py (KP Tryz.func54 rfl ?_)))));exact⟨_,rfl,rfl,ad⟩
theorem Sz (n width each x:Nat)(hw:width<=8)(hx:x<18446744073709551616)(w:World):Lk Tryz.prog 56 [shV n width each,L5 x] w fun v w'=>v=S (Qg width x)/\Ext w w':=by
 have eL:maxLen=9223372036854775807:=rfl
 refine KJ (e:=[(0,_),(1,_)]) Tryz.func56 rfl Tryz.ntmps56 rfl rfl (qN rfl (KU rfl rfl (MH rfl (cs:=[I (n:Int),I (width:Int),I (each:Int)]) rfl) ?_))
 rintro _ w0 ⟨b0,rfl,wU,jb,j3⟩
 refine KO rfl (qM rfl (qV (KT QL rfl) (qV (KS U3 rfl rfl j3 rfl) (KU rfl rfl (pmk (c:=width) (n:=width) M4 SJ rfl rfl rfl (by omega) (by omega) (by omega)) ?_))))
 rintro _ w1 ⟨b1,rfl,⟨bS,ad,ai⟩,-⟩
 refine KO rfl (py (run_seq (qN rfl (An rfl (qV (LM M4 rfl) (An rfl (py (KL ?_))))))))
 rw[<-Xb x width] at ai
 have l0:=j3.lt
 refine MV (α:=Nat) (0) (fun k=>[(1,L5 x),(2,ptr b0 0),(5,.slice (some ⟨b1,0,none⟩) width width),(11,I (width:Int)),(12,I (k:Int))]) (fun k w'=>k<=width/\KY w' b1 (W9 x width k) 5/\KY w' b0 [I (n:Int),I (width:Int),I (each:Int)] 135/\Ext w0 w') (fun k=>width-k) ?hI ?hround
 case hI=>exact⟨by omega,ai,ad.KN j3,ad⟩
 case hround=>
  rintro k w2 ⟨hk,ak,xL,af⟩ ih
  try dsimp only
  refine qN rfl (qV (LX rfl rfl) (py (run_seq (KZ rfl (fun aO=>?_) (fun aO=>?_)))))
  ·have D5:k<width:=by omega
   refine It (run_seq (KL (qN rfl (An rfl (KO rfl (py (KQ rfl (An rfl (An rfl (An rfl (qV (KT QL rfl) (qV (KS U3 rfl rfl xL rfl) (qV (Md rfl rfl (by omega)) ?_)))))))))))));refine An rfl (qV (Md rfl rfl (by omega)) (qV (Tu rfl rfl (by omega)) ?_));rw[show(8:Int)*(((width:Int)-1)-(k:Int))=((8*(width-1-k):Nat):Int) from by omega];refine qV (Ps (8*(width-1-k)) (2^(8*(width-1-k))) rfl rfl (by simp only[IntKind.bits];omega) rfl) ?_;refine qV (z7d rfl Mq U5) (qV (LC M4 SJ rfl rfl (by omega)) (L0 rfl (Mt SJ rfl rfl rfl ak (by simp;omega)) ?_));rintro w3 ⟨ao,au⟩;rw[Zo x width k D5] at ao;refine py (KM (KQ rfl (LH rfl rfl (An rfl (py ?_)))));exact(ih (k+1) w3 ⟨by omega,ao,au.KN xL (by omega),af.KK au (fun i hi=>by rw[hi,bS];exact Nat.le_refl _)⟩ (by omega)).qb
  ·have:k=width:=by omega
   subst this;rw[YZ] at ak;refine KX rfl (qN rfl (An rfl (qV (z3f (l:=Qg k x) M4 U5 U9 rfl ak (by rw[List.drop_zero];exact List.take_of_length_le (by rw[List.length_map,LK];omega)) (by simp[Qg])) ?_)));refine KO rfl (py (KP Tryz.func56 rfl ?_));exact⟨_,rfl,rfl,jb.trans af⟩
theorem PY (h:Tw Q txt vb width st xs w):Lk Tryz.prog 53 [ptr vb 0] w fun v w'=>v=I 0/\w'=w:=by
 have hB:=h.cells
 refine KJ (e:=[(0,_)]) Tryz.func53 rfl Tryz.ntmps53 rfl rfl (qN rfl (KO rfl (py (run_seq (KL (qN rfl (An rfl (qV (LQ U80 rfl rfl) (KO rfl (py (KH rfl (qN rfl (An rfl ?_)))))))))))))
 refine qV (L6 rfl) (qV (KT z2p rfl) (qV (KS U4 rfl rfl hB rfl) (KO rfl (py (KH rfl (It (KM (qN rfl (KO rfl (py (KP Tryz.func53 rfl ?_)))))))))))
 exact⟨_,rfl,rfl,rfl⟩
theorem Yo (h:Tw Q txt vb width st xs w){i:Nat}(hi:i<xs.length)(hn:Q.L.length<=4096):Lk Tryz.prog 59 [ptr vb 0,I (i:Int)] w fun v w'=>v= .tuple #[I ((st+i / (512 / width):Nat):Int),I ((i%(512 / width)*width:Nat):Int)]/\Ext w w':=by
 have hB:=h.cells
 have hg:=Ext.Lb w
 obtain⟨e1,e2,e3,e4,e5⟩:=h.e
 obtain⟨a1,a2,a3⟩:=h.at_ hi
 have nx:=h.n
 have hd:((i:Nat):Int) / ((512 / width:Nat):Int)=((i / (512 / width):Nat):Int):=rfl
 have hm:((i:Nat):Int)%((512 / width:Nat):Int)=((i%(512 / width):Nat):Int):=rfl
 have CD:((i%(512 / width):Nat):Int)*(width:Int)=((i%(512 / width)*width:Nat):Int):=by rw[Int.natCast_mul]
 have mR:(st:Int)+((i / (512 / width):Nat):Int)=((st+i / (512 / width):Nat):Int):=by rw[Int.natCast_add]
 generalize i / (512 / width)=q at*
 generalize i%(512 / width)=r at*
 generalize 512 / width=each at*
 refine KJ (e:=[(0,_),(1,_)]) Tryz.func59 rfl Tryz.ntmps59 rfl rfl (qN rfl (KO rfl (KO rfl (py (run_seq (KV (fun w'=>Ext w w') (by kernel_rfl) rfl (KR 0 rfl (KW rfl) hg (KR 1 rfl (L6 rfl) hg (KR 2 rfl (KT UL rfl) hg (KR 3 rfl (KT MN rfl) hg (qT 4 rfl (fun _ h=>KS U3 rfl rfl (h.KN hB) rfl) hg (KR 5 rfl (KW rfl) hg (KR 6 rfl (KW rfl) hg ?_)))))))))))))
 refine KR 7 rfl (L6 rfl) hg (KR 8 rfl (KT Ni rfl) hg (KR 9 rfl (KT Tt rfl) hg (qT 10 rfl (fun _ h=>KS U3 rfl rfl (h.KN hB) rfl) hg (KR 13 rfl (KW rfl) hg (KR 14 rfl (KW rfl) hg (KR 15 rfl (L6 rfl) hg (KR 16 rfl (KT Ni rfl) hg (KR 17 rfl (KT Tt rfl) hg (qT 18 rfl (fun _ h=>KS U3 rfl rfl (h.KN hB) rfl) hg (KR 20 rfl (KW rfl) hg (KR 21 rfl (L6 rfl) hg (KR 22 rfl (KT Ni rfl) hg (KR 23 rfl (KT QL rfl) hg ?_)))))))))))))
 refine qT 24 rfl (fun _ h=>KS U3 rfl rfl (h.KN hB) rfl) hg (KR 11 rfl (RE rfl rfl (by omega)) hg ?_)
 rw[hd]
 refine KR 12 rfl (PM rfl rfl (by omega)) hg (KR 26 rfl (MO rfl) hg ?_)
 rw[mR]
 refine KR 19 rfl (yre rfl rfl (by omega)) hg ?_
 rw[hm]
 refine KR 25 rfl (Tu rfl rfl (by rw[CD];omega)) hg ?_
 rw[CD]
 refine KR 27 rfl (MO rfl) hg (qE (Ll.qb (e:=[(4,_),(5,_)]) ?_))
 refine KP Tryz.func59 rfl ?_
 exact⟨_,rfl,rfl,hg⟩
end
section
variable {w w':World}{Q:N1}{txt:Int->Bytes}{K:Nat}{X:Nat->Prop}{vb width st each n:Nat}{xs:List Nat}
theorem Tw.zbt (h:Tw Q txt vb width st xs w){i x:Nat}(hi:xs[i]? =some x):x<2^(8*width)/\x<18446744073709551616:=by
 have h1:=(h.t i x hi).2
 have:=Nat.pow_le_pow_right (show 0<2 by decide) (show 8*width<=64 by have:=h.e;omega)
 exact⟨h1,by omega⟩
theorem TK (hP:Sp Q txt K X w)(hX:∀b,X b->b<w.heap.size)(hK:K<1000000000000)(hv:Tw Q txt vb width st xs w)(ep:X vb){i x:Nat}(hi:xs[i]? =some x):
  Lk Tryz.prog 34 [ptr vb 0,I (i:Int)] w fun v w'=>v= .tuple #[L5 x,I 0]/\Sp Q txt K X w'/\Kp (fun b=>¬X b) w w':=by
 have dS:=hP.n
 have aW:i<xs.length:=by
  rcases Nat.lt_or_ge i xs.length with h| h
  ·exact h
  ·rw[List.getElem?_eq_none h] at hi;cases hi
 have zi:=Yo hv aW dS
 obtain⟨a1,a2,a3⟩:=hv.at_ aW
 have sR:=(hv.t i x hi).1
 have lE:=(hv.zbt hi).1
 have ev:=hP.W8 (x:=((st+i / (512 / width):Nat):Int)) (Int.natCast_nonneg _) (Int.ofNat_lt.2 a1)
 have nx:=hv.n
 have Ko:=hv.e.2.2.2.2
 have ny:∀w1,Ext w w1->Lk Tryz.prog 60 [ptr Q.s 0,I ((st+i / (512 / width):Nat):Int)] w1 fun v w'=>v= .tuple #[S (txt ((st+i / (512 / width):Nat):Int)),I 0]/\Sp Q txt K X w'/\Kp (fun b=>¬X b) w1 w':=fun w1 ad=>(hP.ext' ad).read (fun b hb=>by have:=hX b hb;have:=ad.size;omega) hK (Int.natCast_nonneg _) (Int.ofNat_lt.2 a1)
 generalize i / (512 / width)=q at*
 generalize i%(512 / width)=r at*
 generalize ho:r*width=o at*
 obtain⟨t,ht⟩:∃t,txt ((st+q:Nat):Int)=t:=⟨_,rfl⟩
 rw[ht] at sR ev ny
 have hB:=hv.cells
 refine KJ (e:=[(0,_),(1,_)]) Tryz.func34 rfl Tryz.ntmps34 rfl rfl (qN rfl (KO rfl (KO rfl (py (run_seq (qN rfl (An rfl (La [.tmp 14] z7A rfl (PY hv) ?_))))))))
 rintro _ w ⟨rfl,rfl⟩
 refine KO rfl (qM rfl (An rfl (qV (M0 rfl rfl) (py (KH rfl (It (run_seq (qN rfl (An rfl (qV (LX rfl rfl) (Ly (An rfl (An rfl ?_)))))))))))))
 refine An rfl (qV (L6 rfl) (qV (KT Ni rfl) (qV (KT Xu rfl) (qV (KS U3 rfl rfl hB rfl) (qV (Ou rfl rfl) (Ly (qV (Ls rfl rfl) (py (KH rfl (It (qN rfl (An rfl (An rfl ?_)))))))))))))
 refine La [.tmp 31,.tmp 32] z9N rfl (zi) ?_
 rintro _ w1 ⟨rfl,ad⟩
 have ai:=ad.KN hB
 refine An rfl (qV (Lu rfl rfl) (qV (Lu rfl rfl) (KO rfl (KO rfl (py (Ll.qb (e:=[(0,_),(4,_),(5,_),(7,_),(8,_)]) ?_))))))
 refine qN rfl (An rfl (qV (L6 rfl) (qV (KT RI rfl) (qV (KS S4 rfl rfl ai rfl) (An rfl (La [.tmp 40,.tmp 41] z6N rfl (ny w1 ad) ?_))))))
 rintro _ w2 ⟨rfl,eu,am⟩
 have ak:=am.KN ai (fun e=>e ep)
 refine An rfl (qV (Lu rfl rfl) (qV (Lu rfl rfl) (KO rfl (KO rfl (py (run_seq (qN rfl (An rfl (qV (M0 rfl rfl) (py (KH rfl (It (qN rfl ?_)))))))))))))
 refine KO rfl (py (run_seq (qN rfl (An rfl (An rfl (An rfl (An rfl (qV (L6 rfl) (qV (KT Ni rfl) (qV (KT QL rfl) (qV (KS U3 rfl rfl ak rfl) (LH rfl rfl ?_))))))))))))
 rw[show(o:Int)+(width:Int)=((o+width:Nat):Int) by omega]
 refine qV (zdo (m:=o) (n:=o+width) U9 rfl rfl rfl (by omega)) ?_
 rw[show o+width-o=width by omega,sR]
 have eN:=LK width x
 obtain⟨s,hs⟩:∃s,Qg width x=s:=⟨_,rfl⟩
 have mA:valB (Lc s)=x:=by rw[<-hs];exact XC lE
 rw[hs] at eN⊢
 refine KU rfl rfl (z4H U9 M4 U5 rfl) ?_
 rintro _ w3 ⟨b7,c7,rest,rfl,⟨kF,ah,ao⟩,Bn⟩
 refine qV (LM M4 rfl) (An rfl (py (Ll.qb (e:=[(4,_),(5,_),(11,_),(58,_),(59,_),(60,_)]) ?_)))
 refine KL (MV (α:=Nat) (0) (fun i=>[(11,L5 (valB (Lc (s.take i)))),(58,.slice (some ⟨b7,0,none⟩) s.length c7),(59,I (s.length:Int)),(60,I (i:Int))]) (fun i w'=>w'=w3/\i<=s.length) (fun i=>s.length-i) ?hI ?hround)
 case hI=>exact⟨rfl,Nat.zero_le _⟩
 case hround=>
  rintro i w4 ⟨rfl,hi⟩ ih
  try dsimp only
  refine qN rfl (qV (LX rfl rfl) (py (run_seq (KZ rfl (fun h0=>?_) (fun h0=>?_)))))
  ·obtain⟨c,hc⟩:∃c,s[i]? =some c:=⟨_,List.getElem?_eq_getElem (by omega)⟩;have ew:=c.toNat_lt;have mR:=VC hc
   have aO:valB (Lc (s.take i))<72057594037927936:=by
    have h1:=Mv (Lc (s.take i));rw[bitsT_length,List.length_take] at h1;have h2:2^(8*min i s.length)<=2^56:=Nat.pow_le_pow_right (by decide) (by omega);omega
   have bc:w4.cell? ⟨b7,0+i*1,none⟩=some (Oq c):=by
    rw[ao.cell,Nat.zero_add,Nat.mul_one,List.getElem?_append_left (by rw[List.length_map];omega),List.getElem?_map,hc];rfl
   refine It (run_seq (KL (qN rfl (qV (LC M4 SJ rfl rfl (by omega)) (qV (Lm U5 rfl rfl bc) ?_)))))
   generalize valB (Lc (s.take i))=q at mR aO
   refine KO rfl (py (KQ rfl (An rfl (qV (MD 8 256 rfl rfl (by decide) rfl) (An rfl (qV ((by first|exact z39 rfl U5 Mq (by decide)|exact LF rfl U5 Mq (by omega))) ?_))))));refine qV (Vn rfl rfl (by omega) (by omega)) ?_
   have nM:(q*256%18446744073709551616 |||c.toNat)=valB (Lc (s.take (i+1))):=by
    rw[mR,Nat.mod_eq_of_lt (by omega),Nat.mul_comm q];exact(Nat.two_pow_add_eq_or_of_lt (i:=8) ew q).symm
   rw[nM];refine KO rfl (py (KM (KQ rfl (LH rfl rfl (An rfl (py ?_))))));exact(ih (i+1) _ ⟨rfl,by omega⟩ (by omega)).qb
  ·have cO:i=s.length:=by omega
   subst cO;rw[List.take_length,mA];refine KX rfl (qN rfl (An rfl (KO rfl (KO rfl (py (KP Tryz.func34 rfl ?_))))));exact⟨_,rfl,rfl,eu.ext' ah,(ad.kp.trans am).trans ah.kp⟩
theorem Xk (hP:Sp Q txt K X w)(hX:∀b,X b->b<w.heap.size)(hK:K<1000000000000)(hv:Tw Q txt vb width st xs w)(ep:X vb){i x:Nat}(hi:i<xs.length)(hx:x<2^(8*width)):
  Lk Tryz.prog 30 [ptr vb 0,I (i:Int),L5 x] w fun v w'=>v=I 0/\VcW Q txt (K+1) X vb width st (xs.set i x) w w':=by
 have dS:=hP.n
 have zi:∀w1,Ext w w1->Lk Tryz.prog 59 [ptr vb 0,I (i:Int)] w1 fun v w'=>v= .tuple #[I ((st+i / (512 / width):Nat):Int),I ((i%(512 / width)*width:Nat):Int)]/\Ext w1 w':=fun w1 ad=>Yo (hv.ext ad) hi dS
 obtain⟨a1,a2,a3⟩:=hv.at_ hi
 obtain⟨e1,e2,e3,e4,e5⟩:=hv.e
 have lE:x<18446744073709551616:=by
  have:=Nat.pow_le_pow_right (show 0<2 by decide) (show 8*width<=64 by omega);omega
 have ev:=hP.W8 (x:=((st+i / (512 / width):Nat):Int)) (Int.natCast_nonneg _) (Int.ofNat_lt.2 a1)
 have nx:=hv.n
 obtain⟨t,ht⟩:∃t,txt ((st+i / (512 / width):Nat):Int)=t:=⟨_,rfl⟩
 have g8:=hv.t.set (by omega) hx hi ht (by rw[ht] at ev;omega)
 have ny:∀w1,Ext w w1->Lk Tryz.prog 60 [ptr Q.s 0,I ((st+i / (512 / width):Nat):Int)] w1 fun v w'=>v= .tuple #[S (txt ((st+i / (512 / width):Nat):Int)),I 0]/\Sp Q txt K X w'/\Kp (fun b=>¬X b) w1 w':=fun w1 ad=>(hP.ext' ad).read (fun b hb=>by have:=hX b hb;have:=ad.size;omega) hK (Int.natCast_nonneg _) (Int.ofNat_lt.2 a1)
 have j4:(xs.set i x).length=xs.length:=by simp
 have hB:=hv.cells
 have oa:=hv.wd
 have ci:=hv.fit
 rw[ht] at ev ny
 have Dl:∀w',KY w' vb [I (xs.length:Int),I (width:Int),I ((512 / width:Nat):Int),I (st:Int),I (PZ xs.length (512 / width):Int),ptr Q.s 0,.bool false] 137->Tw Q (TJ txt ((st+i / (512 / width):Nat):Int) (some (t.take (i%(512 / width)*width)++Qg width x++t.drop (i%(512 / width)*width+width)))) vb width st (xs.set i x) w':=fun w' hb=>⟨by rw[j4];exact hb,oa,g8,by rw[j4];exact nx,by rw[j4];exact ci⟩
 clear g8
 have lV:st+i / (512 / width)<Q.L.length:=a1
 generalize i / (512 / width)=q at*
 generalize i%(512 / width)=r at*
 generalize ho:r*width=o at*
 have eN:=LK width x
 have pd:(t.take o++Qg width x++t.drop (o+width)).length=512:=by rw[List.length_append,List.length_append,List.length_take,List.length_drop,eN];omega
 refine KJ (e:=[(0,_),(1,_),(2,_)]) Tryz.func30 rfl Tryz.ntmps30 rfl rfl (qN rfl (KO rfl (py (run_seq (qN rfl (An rfl (La [.tmp 12] z7A rfl (PY hv) ?_)))))))
 rintro _ w ⟨rfl,rfl⟩
 refine KO rfl (qM rfl (An rfl (qV (M0 rfl rfl) (py (KH rfl (It (run_seq (qN rfl (An rfl (qV (LX rfl rfl) (Ly (An rfl (An rfl ?_)))))))))))))
 refine An rfl (qV (L6 rfl) (qV (KT Ni rfl) (qV (KT Xu rfl) (qV (KS U3 rfl rfl hB rfl) (qV (Ou rfl rfl) (Ly (qV (Ls rfl rfl) (An rfl (An rfl (qV (L6 rfl) (qV (KT Ni rfl) (qV (Lj z2Y rfl Tp rfl (KY.cells (n:=3) hB (news:=[_,_,_]) rfl) rfl) (An rfl ?_)))))))))))))
 refine La [.tmp 32,.tmp 33] zaP rfl (Vp xs.length width (512 / width) x oa hx w) ?_
 rintro _ w1 ⟨rfl,ad⟩
 have ai:=ad.KN hB
 refine qV ((by first|exact LN rfl|exact Na rfl)) ?_
 refine qV (Ls rfl rfl) (py (Ll.qb (e:=[(0,_),(1,_),(2,_),(6,_),(36,_)]) ?_))
 refine KH rfl (It (qN rfl (An rfl (An rfl (La [.tmp 38,.tmp 39] z9N rfl (zi w1 ad) ?_)))))
 rintro _ w2 ⟨rfl,af⟩
 have ak:=af.KN ai
 refine An rfl (qV (Lu rfl rfl) (qV (Lu rfl rfl) (KO rfl (KO rfl (qM rfl (An rfl (qV (L6 rfl) (qV (KT RI rfl) (qV (KS S4 rfl rfl ak rfl) (An rfl (La [.tmp 47,.tmp 48] z6N rfl (ny w2 (ad.trans af)) ?_)))))))))))
 rintro _ w3 ⟨rfl,fi,au⟩
 have ao:=au.KN ak (fun e=>e ep)
 have ag:=Ext.Lb w3
 have cm:Kp (fun b=>¬X b) w w3:=(ad.trans af).kp.trans au
 have aO:(t.take o).length=o:=by rw[List.length_take];omega
 have IU:(t.drop (o+width)).length=512-(o+width):=by rw[List.length_drop];omega
 refine An rfl (qV (Lu rfl rfl) (qV (Lu rfl rfl) (KO rfl (KO rfl (py (run_seq (qN rfl (An rfl (qV (M0 rfl rfl) (py (Ll.qb (e:=[(0,_),(2,_),(6,_),(8,_),(9,_),(10,_),(11,_),(53,_)]) ?_)))))))))))
 refine KH rfl (It (run_seq (KV (fun w'=>Kp (fun b=>¬X b) w3 w') (by kernel_rfl) rfl (KR 0 rfl (KW rfl) (ag.kp) (KR 1 rfl (L6 rfl) (ag.kp) (KR 2 rfl (KT RI rfl) (ag.kp) (qT 3 rfl (fun _ h=>KS S4 rfl rfl (h.KN ao (fun e=>e ep)) rfl) (ag.kp) (KR 4 rfl (KW rfl) (ag.kp) (KR 5 rfl (KW rfl) (ag.kp) (KR 6 rfl (KW rfl) (ag.kp) (KR 7 rfl (Zc U9 rfl rfl (by omega)) (ag.kp) (KR 8 rfl (KW rfl) (ag.kp) (KR 9 rfl (L6 rfl) (ag.kp) ?_)))))))))))))
 refine KR 10 rfl (KT Ni rfl) (ag.kp) (qT 11 rfl (fun _ hS=>Lj z2Y rfl Tp rfl (KY.cells (n:=3) (hS.KN ao (fun e=>e ep)) (news:=[_,_,_]) rfl) rfl) (ag.kp) (KR 12 rfl (KW rfl) (ag.kp) (KR 15 rfl (KW rfl) (ag.kp) (KR 16 rfl (KW rfl) (ag.kp) (KR 17 rfl (KW rfl) (ag.kp) (KR 18 rfl (L6 rfl) (ag.kp) (KR 19 rfl (KT Ni rfl) (ag.kp) (KR 20 rfl (KT QL rfl) (ag.kp) (qT 21 rfl (fun _ h=>KS U3 rfl rfl (h.KN ao (fun e=>e ep)) rfl) (ag.kp) (KR 22 rfl (PM rfl rfl (by omega)) (ag.kp) ?_))))))))))
 rw[show(o:Int)+(width:Int)=((o+width:Nat):Int) by omega]
 refine KR 23 rfl (VJ U9 rfl rfl (by omega)) (ag.kp) (O2 13 [.tmp 66,.tmp 67] rfl z9h rfl (Sz _ _ _ x e5 lE _) ?_)
 rintro _ w4 ⟨rfl,aB⟩
 refine⟨ag.kp.trans aB.kp,?_⟩
 have cY:=ag.trans aB
 refine KR 14 rfl (T3 rfl rfl (by first|omega|(simp;done)|(simp;omega))) (ag.kp.trans aB.kp) ?_
 refine KR 24 rfl (T3 rfl rfl (by rw[List.length_append,aO,eN,IU];omega)) (ag.kp.trans aB.kp) ?_
 refine O2 25 [.tmp 58,.tmp 59,.tmp 79] rfl z96 rfl ((fi.ext' cY).write (fun b hb=>by have:=hX b hb;have:=cm.size;have:=cY.size;omega) hK (no:=((st+q:Nat):Int)) (by omega) (by omega) _ pd) ?_
 rintro _ w5 ⟨rfl,gE,aj⟩
 refine⟨cY.kp.trans aj,?_⟩
 have iU:Kp (fun b=>¬X b) w3 w5:=cY.kp.trans aj
 refine KR 26 rfl (MO rfl) (cY.kp.trans aj) (qE (Ll.qb (e:=[(6,_)]) ?_))
 refine KP Tryz.func30 rfl ?_
 exact⟨_,rfl,rfl,_,gE,Dl w5 (iU.KN ao (fun e=>e ep)),fun y hy=>MJ _ _ (by rw[j4] at hy;omega),cm.trans iU⟩
end
section
variable {w w':World}{Q:N1}{txt:Int->Bytes}{K:Nat}{X:Nat->Prop}{vb width st each n:Nat}{xs:List Nat}
theorem Zk (hP:Sp Q txt K X w)(hX:∀b,X b->b<w.heap.size)(hK:K<=900000000000)(hv:Tw Q txt vb width st xs w)(ep:X vb){f:Nat}(oo:CF Tryz.prog f)(caps:List Value)(KN:Nat->Bytes)(aD:∀b,(KN b).length<=512)
  (hf:∀(b:Nat) (w1:World),b<PZ xs.length (512 / width)->Kp (fun b=>¬X b) w w1->Lk Tryz.prog f ([I (b:Int)]++caps) w1 fun v w2=>v=S (KN b)/\Ext w1 w2):
  Lk Tryz.prog 57 [ptr vb 0,.func (.func f) #[] caps.toArray] w fun v w'=>v=I 0/\∃txt',Sp Q txt' (K+PZ xs.length (512 / width)) X w'/\Kp (fun b=>¬X b) w w'/\(∀b,b<PZ xs.length (512 / width)->txt' ((st+b:Nat):Int)=KN b++zeros (512-(KN b).length))/\(∀y:Int,y<(st:Int)\/(st:Int)+(PZ xs.length (512 / width):Int)<=y->txt' y=txt y):=by
 have eL:maxLen=9223372036854775807:=rfl
 have dS:=hP.n
 have hB:=hv.cells
 have ci:=hv.fit
 have nx:=hv.n
 obtain⟨e1,e2,e3,e4,e5⟩:=hv.e
 have vE:=Tf xs.length width (512 / width) ⟨by omega,e2⟩ nx w
 obtain⟨N,hN⟩:∃N,PZ xs.length (512 / width)=N:=⟨_,rfl⟩
 rw[hN] at hB ci vE hf⊢
 refine KJ (e:=[(0,_),(1,_)]) Tryz.func57 rfl Tryz.ntmps57 rfl rfl (qN rfl (KO rfl (py (run_seq (qN rfl (An rfl (qV (L6 rfl) (qV (KT Ni rfl) (qV (Lj z2Y rfl Tp rfl (KY.cells (n:=3) hB (news:=[_,_,_]) rfl) rfl) (La [.tmp 11] zaq rfl (vE) ?_))))))))))
 rintro _ w1 ⟨rfl,ad⟩
 refine An rfl (py (KL (MV (α:=Nat) (0) (fun k=>[(0,ptr vb 0),(1,.func (.func f) #[] caps.toArray),(12,I (N:Int)),(13,I (k:Int))]) (fun k w'=>k<=N/\Kp (fun b=>¬X b) w w'/\∃txt',Sp Q txt' (K+k) X w'/\(∀b,b<k->txt' ((st+b:Nat):Int)=KN b++zeros (512-(KN b).length))/\(∀y:Int,y<(st:Int)\/(st:Int)+(k:Int)<=y->txt' y=txt y)) (fun k=>N-k) ?hI ?hround)))
 case hI=>exact⟨Nat.zero_le _,ad.kp,txt,hP.ext' ad,fun b hb=>by omega,fun y _=>rfl⟩
 case hround=>
  rintro k w2 ⟨hk,am,txt2,eu,Fz,qf⟩ ih;have ak:=am.KN hB (fun e=>e ep)
  try dsimp only
  refine qN rfl (qV (LX rfl rfl) (py (run_seq (KZ rfl (fun h0=>?_) (fun h0=>?_)))))
  ·have Dm:k<N:=by omega
   refine It (run_seq (KL (qN rfl (An rfl (KO rfl (qM rfl (An rfl (An rfl (Mi rfl rfl (Nk (args:=[.tmp 17]) oo rfl rfl) (hf k w2 Dm am) ?_)))))))));rintro _ w3 ⟨rfl,ah⟩;have ao:=ah.KN ak;have fi:=eu.ext' ah;have ag:=Ext.Lb w3;have hl:=aD k;have cm:=am.trans ah.kp;obtain⟨t,ht⟩:∃t,KN k=t:=⟨_,rfl⟩;rw[ht] at hl⊢;have hz:(zeros (512-t.length)).length=512-t.length:=by simp[zeros]
   have co:=fi.size;have xm:∀w4,Ext w3 w4->Lk Tryz.prog 44 [ptr Q.s 0] w4 fun v w'=>v=I 512/\w'=w4:=fun w4 hx=>(fi.ext' hx).size;refine KO rfl (py (run_seq (KV (fun w'=>Kp (fun b=>¬X b) w3 w') (by kernel_rfl) rfl (KR 0 rfl (KW rfl) (ag.kp) (KR 1 rfl (L6 rfl) (ag.kp) (KR 2 rfl (KT RI rfl) (ag.kp) (qT 3 rfl (fun _ h=>KS S4 rfl rfl (h.KN ao (fun e=>e ep)) rfl) (ag.kp) (KR 4 rfl (KW rfl) (ag.kp) (KR 5 rfl (L6 rfl) (ag.kp) (KR 6 rfl (KT UL rfl) (ag.kp) (KR 7 rfl (KT MN rfl) (ag.kp) (qT 8 rfl (fun _ h=>KS U3 rfl rfl (h.KN ao (fun e=>e ep)) rfl) (ag.kp) (KR 9 rfl (KW rfl) (ag.kp) ?_)))))))))))));refine KR 10 rfl (PM rfl rfl (by omega)) (ag.kp) (KR 11 rfl (KW rfl) (ag.kp) (KR 12 rfl (KW rfl) (ag.kp) (KR 13 rfl (L6 rfl) (ag.kp) (KR 14 rfl (KT RI rfl) (ag.kp) (qT 15 rfl (fun _ h=>KS S4 rfl rfl (h.KN ao (fun e=>e ep)) rfl) (ag.kp) (KR 17 rfl (KW rfl) (ag.kp) (KR 18 rfl (R1 U9 rfl) (ag.kp) (O2 16 [.tmp 34] rfl YT rfl (xm _ ag) ?_))))))));rintro _ w4 ⟨rfl,rfl⟩;refine⟨ag.kp,?_⟩;refine KR 19 rfl (Md rfl rfl (by omega)) (ag.kp) ?_;rw[show(512:Int)-(t.length:Int)=((512-t.length:Nat):Int) by omega];refine qO 20 (Um (i:=20) rfl rfl rfl (pmk (c:=512-t.length) (n:=512-t.length) M4 SJ rfl rfl rfl (by omega) (by omega) (by omega)) ?_);rintro _ w4 ⟨b4,rfl,⟨gh,aB,aJ⟩,-⟩;refine⟨ag.kp.trans aB.kp,?_⟩;have cY:=ag.trans aB;refine qO 21 (zaU (i:=21) rfl rfl rfl (z3f (l:=zeros (512-t.length)) M4 U5 U9 rfl aJ (Uu _) hz) (cY.kp) (KR 22 rfl (T3 rfl rfl (by rw[hz];omega)) (cY.kp) ?_));have pd:(t++zeros (512-t.length)).length=512:=by rw[List.length_append,hz];omega
   rw[show(st:Int)+(k:Int)=((st+k:Nat):Int) by omega];refine O2 23 [.tmp 22,.tmp 29,.tmp 41] rfl z96 rfl ((fi.ext' cY).write (fun b hb=>by have:=hX b hb;have:=cm.size;have:=cY.size;omega) (by omega) (no:=((st+k:Nat):Int)) (by omega) (by omega) _ pd) ?_;rintro _ w5 ⟨rfl,gE,aj⟩;refine⟨cY.kp.trans aj,?_⟩;have iU:Kp (fun b=>¬X b) w3 w5:=cY.kp.trans aj;refine KR 24 rfl (MO rfl) (cY.kp.trans aj) (qE (qN rfl (An rfl (qV (M0 rfl rfl) (py (KH rfl (It (KM (KQ rfl (LH rfl rfl (An rfl (py ((ih (k+1) w5 ⟨by omega,cm.trans iU,_,gE,fun b hb=>?_,fun y hy=>?_⟩ (by omega)).qb)))))))))))))
   ·by_cases e:b=k
    ·subst e;rw[Nd,ht];rfl
    ·rw[MJ _ _ (by omega)];exact Fz b (by omega)
   ·rw[MJ _ _ (by omega)];exact qf y (by omega)
  ·have Dm:k=N:=by omega
   subst Dm;refine KX rfl (qN rfl (KO rfl (py (KP Tryz.func57 rfl ?_))));exact⟨_,rfl,rfl,txt2,eu,am,Fz,qf⟩
theorem ZQ (l:Bytes):∀n,((List.replicate n l).flatten).length=n*l.length
 |0=>by simp
 |n+1=>by rw[List.replicate_succ,List.flatten_cons,List.length_append,ZQ l n,Nat.add_mul];omega
theorem Zf {bf:Nat}{s:Bytes}(b:Nat)(hB:KY w bf [S s] 9):Lk Tryz.prog 58 ([I (b:Int)]++[ptr bf 0]) w fun v w2=>v=S s/\Ext w w2:=by
 show Lk _ _ [I (b:Int),ptr bf 0] _ _
 refine KJ (e:=[(0,_),(1,_)]) Tryz.func58 rfl Tryz.ntmps58 rfl rfl (qN rfl (KO rfl (qM rfl (qV (KS U9 rfl rfl hB rfl) (KO rfl (py (KP Tryz.func58 rfl ?_)))))))
 exact⟨_,rfl,rfl,Ext.refl _⟩
theorem VO (hP:Sp Q txt K X w)(hX:∀b,X b->b<w.heap.size)(hK:K<=900000000000)(hv:Tw Q txt vb width st xs w)(ep:X vb){x:Nat}(hx:x<2^(8*width)):
  Lk Tryz.prog 29 [ptr vb 0,L5 x] w fun v w'=>v=I 0/\VcW Q txt (K+PZ xs.length (512 / width)) X vb width st (List.replicate xs.length x) w w':=by
 have hB:=hv.cells
 have nx:=hv.n
 obtain⟨e1,e2,e3,e4,e5⟩:=hv.e
 have lE:x<18446744073709551616:=by
  have:=Nat.pow_le_pow_right (show 0<2 by decide) (show 8*width<=64 by omega);omega
 have eN:=LK width x
 have kR:(List.replicate (512 / width) (Qg width x)).flatten.length=512:=by
  rw[ZQ,eN];exact e3
 refine KJ (e:=[(0,_),(1,_)]) Tryz.func29 rfl Tryz.ntmps29 rfl rfl (qN rfl (KO rfl (py (run_seq (qN rfl (An rfl (La [.tmp 7] z7A rfl (PY hv) ?_)))))))
 rintro _ w ⟨rfl,rfl⟩
 refine KO rfl (qM rfl (An rfl (qV (M0 rfl rfl) (py (KH rfl (It (run_seq (qN rfl (An rfl (qV (L6 rfl) (qV (KT Ni rfl) (qV (Lj z2Y rfl Tp rfl (KY.cells (n:=3) hB (news:=[_,_,_]) rfl) rfl) (An rfl ?_)))))))))))))
 refine La [.tmp 15,.tmp 16] zaP rfl (Vp xs.length width (512 / width) x hv.wd hx w) ?_
 rintro _ w1 ⟨rfl,ad⟩
 have ai:=ad.KN hB
 have bj:=Ext.Lb w1
 refine qV ((by first|exact LN rfl|exact Na rfl)) ?_
 refine py (KH rfl (It (run_seq (Lx (fun e' w'=>∃bf,e'=[(0,ptr vb 0),(6,ptr bf 0)]/\KY w' bf [S (List.replicate (512 / width) (Qg width x)).flatten] 9/\Ext w1 w'/\w1.heap.size<=bf) ?cq (fun cq=>?cJ)))))
 case cq=>
  rintro e' w2 ⟨bf,rfl,cU,af,Dn⟩;have aI:=ad.trans af;have m4:=ad.size;have eu:Sp Q txt K (fun b=>X b\/b=bf) w2:=hP.ext aI (fun b e=>e.imp id fun e=>by omega);have lbf:=cU.lt;have hw:=Zk eu (fun b hb=>by rcases hb with e|e;(have:=hX b e;have:=aI.size;omega);omega) hK (hv.ext aI) (.inl ep) zd2 [ptr bf 0] (fun _=>(List.replicate (512 / width) (Qg width x)).flatten) (fun _=>by rw[kR];omega) (fun b w3 _ au=>Zf b (au.KN cU (fun e=>e (.inr rfl))));refine qN rfl (An rfl (qV (Zj (first:=[]) (caps:=[.tmp 6]) rfl rfl) (La [.tmp 31,.tmp 32] zdp rfl (hw) ?_)));rintro _ w3 ⟨rfl,txt3,fi,au,oS,xM⟩;refine KO rfl (py (KP Tryz.func29 rfl ?_));have cz:Kp (fun b=>¬X b) w1 w3:=af.kp.trans (au.L2 fun b e e2=>e (.inl e2));have j4:(List.replicate xs.length x).length=xs.length:=List.length_replicate;refine⟨_,rfl,rfl,txt3,fi.less (fun b e=> .inl e),⟨?_,hv.wd,VcT.fill hx (by omega) (fun i hi=>?_),by rw[j4];exact nx,by rw[j4];exact hv.fit⟩,fun y hy=>xM y (by rw[j4] at hy;exact hy),ad.kp.trans cz⟩
  ·rw[j4];exact(ad.kp.trans cz).KN hB (fun e=>e ep)
  ·have sF:=z0k (each:=512 / width) (by omega) hi;exact⟨_,oS _ sF⟩
 case cJ=>
  have aq:=bj;have bK:=aq.size;refine Le [13] (fun w'=>Ext w1 w') (by kernel_rfl) rfl (qL [1,2,3,5,11,13] 0 rfl (fun _ h=>KW rfl) aq (qL [2,3,5,11,13] 1 rfl (fun _ h=>L6 rfl) aq (qL [3,5,11,13] 2 rfl (fun _ h=>KT Ni rfl) aq (qL [5,11,13] 3 rfl (fun _ h=>Lj z2Y rfl Tp rfl (KY.cells (n:=3) (h.KN ai) (news:=[_,_,_]) rfl) rfl) aq (qL [5,11,13] 4 rfl (fun _ h=>KW rfl) aq (qL [7,8,9,10,11,13] 6 rfl (fun _ h=>KW rfl) aq (qL [8,9,10,11,13] 7 rfl (fun _ h=>L6 rfl) aq (qL [9,10,11,13] 8 rfl (fun _ h=>KT Ni rfl) aq (qL [10,11,13] 9 rfl (fun _ h=>KT Tt rfl) aq (qL [11,13] 10 rfl (fun _ h=>KS U3 rfl rfl (h.KN ai) rfl) aq (S8 (i:=5) (j:=12) (by kernel_rfl) ?_ ?_)))))))))))
  ·refine N6 (i:=5) rfl rfl rfl (yc (args:=[.tmp 22,.tmp 23]) z9h rfl) (Sz _ _ _ x e5 lE _) ?_;rintro _ w5 ⟨rfl,aR⟩;refine⟨aq.trans aR,?_⟩;have aq:=aq.trans aR
   try have aZ:=aR.KN aZ
   have bK:=Nat.le_trans bK aR.size;refine S8 (i:=11) (j:=12) (by kernel_rfl) ?_ ?_
   ·refine N6 (i:=11) rfl rfl rfl (yc (args:=[.tmp 24,.tmp 29]) z9x rfl) (TL (Qg width x) (512 / width) (by omega) (by omega) _) ?_;rintro _ w11 ⟨rfl,aQ⟩;refine⟨aq.trans aQ,?_⟩;have aq:=aq.trans aQ
    try have aZ:=aQ.KN aZ
    have bK:=Nat.le_trans bK aQ.size;refine MB (i:=12) (by kernel_rfl) (LZ (i:=12) rfl rfl rfl (N3 (cs:=[_]) WR rfl) ?_);rintro _ w12 ⟨bf,rfl,Dn,aC,aZ⟩;refine⟨aq.trans aC,?_⟩;have aq:=aq.trans aC;have nz:w1.heap.size<=bf:=by omega
    have bK:=Nat.le_trans bK aC.size;refine LD [13] (by kernel_rfl) (by kernel_rfl) (qO 13 (Lv (i:=13) rfl rfl (Mt WR rfl rfl rfl aZ (by simp)) ?_));rintro w13 ⟨dm,cz⟩;refine⟨trivial,?_⟩;refine qE (Ll.qb (e:=[(0,_),(4,_),(6,_)]) ?_);exact(cq _ _ ⟨bf,rfl,dm,aq.KK cz (fun j e=>by omega),nz⟩).qb
   ·refine LZ (i:=12) rfl rfl rfl (N3 (cs:=[_]) WR rfl) ?_;rintro _ w12 ⟨bf,rfl,Dn,aC,aZ⟩;refine⟨aq.trans aC,?_⟩;have aq:=aq.trans aC;have nz:w1.heap.size<=bf:=by omega
    have bK:=Nat.le_trans bK aC.size;refine MB (i:=11) (by kernel_rfl) (N6 (i:=11) rfl rfl rfl (yc (args:=[.tmp 24,.tmp 29]) z9x rfl) (TL (Qg width x) (512 / width) (by omega) (by omega) _) ?_);rintro _ w11 ⟨rfl,aQ⟩;refine⟨aq.trans aQ,?_⟩;have aq:=aq.trans aQ
    try have aZ:=aQ.KN aZ
    have bK:=Nat.le_trans bK aQ.size;refine LD [13] (by kernel_rfl) (by kernel_rfl) (qO 13 (Lv (i:=13) rfl rfl (Mt WR rfl rfl rfl aZ (by simp)) ?_));rintro w13 ⟨dm,cz⟩;refine⟨trivial,?_⟩;refine qE (Ll.qb (e:=[(0,_),(4,_),(6,_)]) ?_);exact(cq _ _ ⟨bf,rfl,dm,aq.KK cz (fun j e=>by omega),nz⟩).qb
  ·refine LZ (i:=12) rfl rfl rfl (N3 (cs:=[_]) WR rfl) ?_;rintro _ w12 ⟨bf,rfl,Dn,aC,aZ⟩;refine⟨aq.trans aC,?_⟩;have aq:=aq.trans aC;have nz:w1.heap.size<=bf:=by omega
   have bK:=Nat.le_trans bK aC.size;refine MB (i:=5) (by kernel_rfl) (N6 (i:=5) rfl rfl rfl (yc (args:=[.tmp 22,.tmp 23]) z9h rfl) (Sz _ _ _ x e5 lE _) ?_);rintro _ w5 ⟨rfl,aR⟩;refine⟨aq.trans aR,?_⟩;have aq:=aq.trans aR
   try have aZ:=aR.KN aZ
   have bK:=Nat.le_trans bK aR.size;refine MB (i:=11) (by kernel_rfl) (N6 (i:=11) rfl rfl rfl (yc (args:=[.tmp 24,.tmp 29]) z9x rfl) (TL (Qg width x) (512 / width) (by omega) (by omega) _) ?_);rintro _ w11 ⟨rfl,aQ⟩;refine⟨aq.trans aQ,?_⟩;have aq:=aq.trans aQ
   try have aZ:=aQ.KN aZ
   have bK:=Nat.le_trans bK aQ.size;refine LD [13] (by kernel_rfl) (by kernel_rfl) (qO 13 (Lv (i:=13) rfl rfl (Mt WR rfl rfl rfl aZ (by simp)) ?_));rintro w13 ⟨dm,cz⟩;refine⟨trivial,?_⟩;refine qE (Ll.qb (e:=[(0,_),(4,_),(6,_)]) ?_);exact(cq _ _ ⟨bf,rfl,dm,aq.KK cz (fun j e=>by omega),nz⟩).qb
end
section
variable {w w':World}{Q:N1}{txt:Int->Bytes}{K:Nat}{X:Nat->Prop}{vb width st each n:Nat}{xs:List Nat}
end
section
variable {w w':World}{Q:N1}{txt:Int->Bytes}{K:Nat}{X:Nat->Prop}{vb width st each n:Nat}{xs:List Nat}
theorem Zt (hP:Sp Q txt K X w)(hX:∀b,X b->b<w.heap.size)(hv:Tw Q txt vb width st xs w)(ep:X vb)(cP:2<=st)(hc:∀i,st<=i->i<st+PZ xs.length (512 / width)->Q.L[i]? =some true):
  Lk Tryz.prog 31 [ptr vb 0] w fun v w'=>v=I 0/\∃txt',Sp (Q.Mg (Mz Q.L st (PZ xs.length (512 / width)) false)) txt' K X w'/\(∀y:Int,y<(st:Int)\/(st:Int)+(PZ xs.length (512 / width):Int)<=y->txt' y=txt y)/\Kp (fun b=>¬X b\/b=vb) w w':=by
 have hB:=hv.cells
 have ci:=hv.fit
 have jR:1<=PZ xs.length (512 / width):=Nat.le_max_left _ _
 have hg:=Ext.Lb w
 have IV:=(hP.ext' hg).zdx (fun b hb=>by have:=hX b hb;have:=hg.size;omega) jR cP ci hc
 generalize PZ xs.length (512 / width)=N at*
 refine KJ (e:=[(0,_)]) Tryz.func31 rfl Tryz.ntmps31 rfl rfl (qN rfl (KO rfl (py (run_seq (qN rfl (An rfl (La [.tmp 5] z7A rfl (PY hv) ?_)))))))
 rintro _ w ⟨rfl,rfl⟩
 refine KO rfl (qM rfl (An rfl (qV (M0 rfl rfl) (py (KH rfl (It (run_seq (run_seq (KV (fun w'=>Kp (fun b=>¬X b) w w') (by kernel_rfl) rfl (KR 0 rfl (KW rfl) (hg.kp) (KR 1 rfl (L6 rfl) (hg.kp) (KR 2 rfl (KT RI rfl) (hg.kp) (qT 3 rfl (fun _ h=>KS S4 rfl rfl (h.KN hB (fun e=>e ep)) rfl) (hg.kp) ?_)))))))))))))
 refine KR 4 rfl (KW rfl) (hg.kp) (KR 5 rfl (L6 rfl) (hg.kp) (KR 6 rfl (KT UL rfl) (hg.kp) (qT 7 rfl (fun _ hS=>Lj YE rfl Nh rfl (KY.cells (n:=2) (hS.KN hB (fun e=>e ep)) (news:=[_,_]) rfl) rfl) (hg.kp) (O2 8 [.tmp 13,.tmp 17] rfl zej rfl (IV) ?_))))
 rintro _ w1 ⟨rfl,txt1,kA,mf,aM⟩
 refine⟨hg.kp.trans aM,?_⟩
 have i6:=hg.kp.trans aM
 have ai:=i6.KN hB (fun e=>e ep)
 refine KR 9 rfl (MO rfl) (hg.kp.trans aM) (qE (qN rfl (An rfl (qV (M0 rfl rfl) (py (KH rfl (It (qN rfl (An rfl (qV (L6 rfl) (qV (KT z2p rfl) (L0 rfl (Mt QX rfl rfl rfl ai (by simp)) ?_))))))))))))
 rintro w2 ⟨ak,am⟩
 refine qM rfl (KO rfl (py (KP Tryz.func31 rfl ?_)))
 exact⟨_,rfl,rfl,txt1,kA.own am (fun b e=>by rw[e];exact ep),mf,(i6.L2 fun b e=> .inl e).trans (am.L2 fun b e=> .inr e)⟩
theorem VcT.any {txt:Int->Bytes}{st width each n:Nat}(he:1<=each)(hw:each*width<=512)(h:∀i,i<n->(txt ((st+i / each:Nat):Int)).length=512):∃xs:List Nat,xs.length=n/\VcT txt st width each xs:=by
 refine⟨(List.range n).map fun i=>valB (Lc (((txt ((st+i / each:Nat):Int)).drop (i%each*width)).take width)),by simp,fun i x hx=>?_⟩
 rw[List.getElem?_map] at hx
 by_cases hi:i<n
 ·rw[List.getElem?_range hi] at hx;cases hx;have hl:=h i hi;have hm:(i%each+1)*width<=each*width:=Nat.mul_le_mul_right _ (Nat.mod_lt _ he);rw[Nat.add_mul,Nat.one_mul] at hm
  have aD:(((txt ((st+i / each:Nat):Int)).drop (i%each*width)).take width).length=width:=by
   rw[List.length_take,List.length_drop,hl];omega
  refine⟨?_,?_⟩
  ·have hb:=z7f (((txt ((st+i / each:Nat):Int)).drop (i%each*width)).take width);rw[aD] at hb;exact hb.symm
  ·have h1:=Mv (Lc (((txt ((st+i / each:Nat):Int)).drop (i%each*width)).take width));rw[bitsT_length,aD] at h1;exact h1
 ·rw[List.getElem?_eq_none (by simpa using hi)] at hx;cases hx
theorem z3z (hP:Sp Q txt K X w)(hX:∀b,X b->b<w.heap.size)(hK:K<=800000000000){a:Nat}(hp:ZX Q.L a)(n width:Nat)(hn:n<=4194304)(oa:width=1\/width=2\/width=4\/width=8)(ci:a+PZ n (512 / width)<=Q.L.length):
  Lk Tryz.prog 28 [ptr Q.s 0,I (n:Int),I (width:Int)] w fun v w'=>∃vb txt',v= .tuple #[ptr vb 0,I 0]/\w.heap.size<=vb/\Sp (Q.Mg (Mz Q.L a (PZ n (512 / width)) true)) txt' (K+PZ n (512 / width)) (fun b=>X b\/b=vb) w'/\Tw (Q.Mg (Mz Q.L a (PZ n (512 / width)) true)) txt' vb width a (List.replicate n 0) w'/\(∀y:Int,y<(a:Int)\/(a:Int)+(PZ n (512 / width):Int)<=y->txt' y=txt y)/\Kp (fun b=>¬X b) w w':=by
 have jR:1<=PZ n (512 / width):=Nat.le_max_left _ _
 have dS:=hP.n
 obtain⟨e1,e2,e3,e4,e5⟩:64<=512 / width/\512 / width<=512/\512 / width*width=512/\1<=width/\width<=8:=by
  rcases oa with e|e|e|e<;>subst e<;>decide
 have eO:(Mz Q.L a (PZ n (512 / width)) true).length=Q.L.length:=My ci
 refine KJ (e:=[(0,_),(1,_),(2,_)]) Tryz.func28 rfl Tryz.ntmps28 rfl rfl (qN rfl (KO rfl (KO rfl (py (run_seq (KL (qN rfl (An rfl (qV (LQ S4 rfl rfl) (KO rfl (py (KH rfl (run_seq ?_)))))))))))))
 refine Lx (fun e' w'=>w'=w/\e'=[(0,ptr Q.s 0),(1,I (n:Int)),(2,I (width:Int)),(15,.bool false)]) ?ar (fun ar=>?dJ)
 case ar=>
  rintro e' w' ⟨rfl,rfl⟩;refine KH rfl (It (KM (qN rfl (An rfl (An rfl (An rfl (La [.tmp 40] YT rfl (hP.size) ?_)))))));rintro _ w' ⟨rfl,rfl⟩;refine An rfl (qV (RE rfl rfl (by omega)) ?_);rw[show(512:Int) / (width:Int)=((512 / width:Nat):Int) from rfl];refine qV (NA (parts:=[(0,.tmp 38),(1,.tmp 39),(2,.tmp 43)]) (cs:=[_,_,_]) Tp rfl za3 rfl rfl) (An rfl (qV (NA (parts:=[(0,.tmp 44),(2,.tmp 45)]) (cs:=[_,_,_,_,_,_,_]) zaA rfl zba rfl rfl) (KU rfl rfl (MH rfl (cs:=[I (n:Int),I (width:Int),I ((512 / width:Nat):Int),I 0,I 0,ptr Q.s 0,.bool false]) rfl) ?_)));rintro _ w1 ⟨vb,rfl,ep,ad,ai⟩;refine KO rfl (qM rfl (An rfl (An rfl (qV (L6 rfl) (qV (KT Ni rfl) (qV (Lj z2Y rfl Tp rfl (KY.cells (n:=3) ai (news:=[_,_,_]) rfl) rfl) (La [.tmp 53] zaq rfl (Tf n width (512 / width) ⟨by omega,e2⟩ hn _) ?_)))))));rintro _ w2 ⟨rfl,af⟩;have aI:=ad.trans af;have ak:=af.KN ai;have z1:=ad.size;have z2:=af.size;have l1:=ai.lt;have eu:Sp Q txt K (fun b=>X b\/b=vb) w2:=hP.ext aI (fun b e=>e.imp id fun e=>by omega)
  have fZ:∀b,(X b\/b=vb)->b<w2.heap.size:=fun b hb=>by
   rcases hb with e| e
   ·have:=hX b e;have:=aI.size;omega
   ·omega
  obtain⟨N,hN⟩:∃N,PZ n (512 / width)=N:=⟨_,rfl⟩;rw[hN] at jR ci eO⊢;refine La [.tmp 49,.tmp 54] zc2 rfl (eu.take fZ hp jR ci) ?_;rintro _ w3 ⟨rfl,fi,au⟩;have ao:=au.KN ak (fun e=>e (.inr rfl));have z3:=au.size;refine An rfl (qV (Lu rfl rfl) (qV (Lu rfl rfl) (KU rfl rfl (N3 (cs:=[_,_]) Nh rfl) ?_)));rintro _ w4 ⟨b9,rfl,nV,aB,aJ⟩;refine L0 rfl (Lz (news:=[I (a:Int),I (N:Int)]) Nh rfl rfl rfl rfl aJ (by simp)) ?_;rintro w5 ⟨aF,aj⟩;replace aF:KY w5 b9 [I (a:Int),I (N:Int)] 97:=aF;have ce:Ext w3 w5:=aB.KK aj (fun j e=>by omega);have bN:=ce.KN ao;have gE:=fi.ext' ce;refine KO rfl (py (Ll.qb (e:=[(0,_),(8,_),(9,_),(10,_)]) ?_));refine run_seq (qN rfl (An rfl (qV (M0 rfl rfl) (py (KH rfl (It (qN rfl (An rfl (qV (Lj YE rfl Nh rfl (KY.cells (n:=2) aF (news:=[_,_]) rfl) rfl) (qV (L6 rfl) (qV (KT UL rfl) (L0 rfl (Lz (news:=[I (a:Int),I (N:Int)]) Nh rfl rfl rfl rfl bN (by simp)) ?_))))))))))));rintro w6 ⟨aN,aT⟩;replace aN:KY w6 vb [I (n:Int),I (width:Int),I ((512 / width:Nat):Int),I (a:Int),I (N:Int),ptr Q.s 0,.bool false] 137:=aN;have pC:=gE.own aT (fun b e=> .inr e);have aD:(Q.Mg (Mz Q.L a N true)).L.length=Q.L.length:=eO
  obtain⟨xs,eZ,sR⟩:=VcT.any (txt:=txt) (st:=a) (width:=width) (each:=512 / width) (n:=n) (by omega) (by omega) (fun i hi=>by
   have sF:=z0k (each:=512 / width) (by omega) hi;rw[hN] at sF
   generalize i / (512 / width)=q at sF⊢
   exact pC.W8 (by omega) (by rw[aD];omega))
  have IW:Tw (Q.Mg (Mz Q.L a N true)) txt vb width a xs w6:=⟨by rw[eZ,hN];exact aN,oa,sR,by omega,by rw[eZ,hN,aD];exact ci⟩
  have jU:∀b,(X b\/b=vb)->b<w6.heap.size:=fun b hb=>by
   have:=fZ b hb;have:=ce.size;have:=aT.size;omega
  have iV:=VO pC jU (by omega) IW (.inr rfl) (x:=0) (Nat.two_pow_pos _);rw[eZ,hN] at iV;refine py (run_seq (qN rfl (An rfl (La [.tmp 65,.const (Value.int .u64 0)] zbI rfl (iV) ?_))));rintro _ w7 ⟨rfl,hW⟩;obtain⟨txt7,xI,yN,IX,aA⟩:=hW;refine KO rfl (qM rfl (An rfl (qV (M0 rfl rfl) (py (KH rfl (It (qN rfl (An rfl (KO rfl (KO rfl (py (KP Tryz.func28 rfl ?_))))))))))));have j4:(List.replicate n 0).length=n:=List.length_replicate;refine⟨_,rfl,vb,txt7,rfl,by omega,xI,yN,fun y hy=>IX y (by rw[j4,hN];exact hy),?_⟩;have cm:Kp (fun b=>¬X b) w' w3:=aI.kp.trans (au.L2 fun b e e2=>e (.inl e2));exact((cm.trans ce.kp).KK aT (fun b e=> .inl (by omega))).trans (aA.L2 fun b e e2=>e (.inl e2))
 case dJ=>
  rcases oa with rfl|rfl|rfl|rfl
  ·refine KQ rfl (An rfl (qV (LX rfl rfl) (Ly (An rfl (An rfl (qV (LU rfl rfl) (Ly (qV (Ls rfl rfl) (An rfl (An rfl (qV (M0 rfl rfl) (Ly (An rfl ?_)))))))))))));refine qS (qS (qV (Ls rfl rfl) (An rfl (qS (qS (qV (Ls rfl rfl) (An rfl (qS (qS (qV (Ls rfl rfl) (qV (Ls rfl rfl) (KO rfl (py ?_)))))))))))));refine Ll.qb (e:=[(0,_),(1,_),(2,_),(6,_),(7,_),(15,_)]) ?_;exact(ar _ _ ⟨rfl,rfl⟩).qb
  ·refine KQ rfl (An rfl (qV (LX rfl rfl) (Ly (An rfl (An rfl (qV (LU rfl rfl) (Ly (qV (Ls rfl rfl) (An rfl (An rfl (qV (M0 rfl rfl) (MR (An rfl ?_)))))))))))));refine An rfl (qV (M0 rfl rfl) (Ly (qV (LR rfl rfl) (An rfl (qS (qS (qV (Ls rfl rfl) (An rfl (qS (qS (qV (Ls rfl rfl) (qV (Ls rfl rfl) (KO rfl ?_)))))))))))));refine py (Ll.qb (e:=[(0,_),(1,_),(2,_),(6,_),(7,_),(15,_)]) ?_);exact(ar _ _ ⟨rfl,rfl⟩).qb
  ·refine KQ rfl (An rfl (qV (LX rfl rfl) (Ly (An rfl (An rfl (qV (LU rfl rfl) (Ly (qV (Ls rfl rfl) (An rfl (An rfl (qV (M0 rfl rfl) (MR (An rfl ?_)))))))))))));refine An rfl (qV (M0 rfl rfl) (MR (qV (LR rfl rfl) (An rfl (An rfl (qV (M0 rfl rfl) (Ly (qV (LR rfl rfl) (An rfl (qS (qS (qV (Ls rfl rfl) (qV (Ls rfl rfl) ?_)))))))))))));refine KO rfl (py (Ll.qb (e:=[(0,_),(1,_),(2,_),(6,_),(7,_),(15,_)]) ?_));exact(ar _ _ ⟨rfl,rfl⟩).qb
  ·refine KQ rfl (An rfl (qV (LX rfl rfl) (Ly (An rfl (An rfl (qV (LU rfl rfl) (Ly (qV (Ls rfl rfl) (An rfl (An rfl (qV (M0 rfl rfl) (MR (An rfl ?_)))))))))))));refine An rfl (qV (M0 rfl rfl) (MR (qV (LR rfl rfl) (An rfl (An rfl (qV (M0 rfl rfl) (MR (qV (LR rfl rfl) (An rfl (An rfl (qV (M0 rfl rfl) (Ly (qV (LR rfl rfl) ?_)))))))))))));refine qV (Ls rfl rfl) (KO rfl (py (Ll.qb (e:=[(0,_),(1,_),(2,_),(6,_),(7,_),(15,_)]) ?_)));exact(ar _ _ ⟨rfl,rfl⟩).qb
end
structure Gr where
 n:Nat
 succ:Nat->List Nat
 lt:∀v u,u∈succ v->u<n
inductive Way (G:Gr) (r:Nat):Nat->Nat->Prop
 |root:Way G r 0 r
 |step {k v u:Nat}:Way G r k v->u∈G.succ v->Way G r (k+1) u
def OS (G:Gr)(r k u:Nat):Prop:=Way G r k u/\∀j,j<k->¬Way G r j u
theorem OS.uniq {G:Gr}{r j k u:Nat}(h:OS G r j u)(h':OS G r k u):j=k:=by
 rcases Nat.lt_trichotomy j k with e|e| e
 ·exact absurd h.1 (h'.2 j e)
 ·exact e
 ·exact absurd h'.1 (h.2 k e)
theorem Way.zel {G:Gr}{r:Nat}:∀{k u:Nat},Way G r k u->∃j,j<=k/\OS G r j u:=by
 intro k
 induction k using Nat.strongRecOn with
 | ind k ih =>
   intro u h;by_cases hm:∃j,j<k/\Way G r j u
   ·obtain⟨j,hj,hw⟩:=hm;obtain⟨i,hi,hd⟩:=ih j hj hw;exact⟨i,by omega,hd⟩
   ·exact⟨k,Nat.le_refl _,h,fun j hj hw=>hm ⟨j,hj,hw⟩⟩
theorem OS.pred {G:Gr}{r k u:Nat}(h:OS G r (k+1) u):∃v,OS G r k v/\u∈G.succ v:=by
 obtain⟨h1,h2⟩:=h
 cases h1 with
 | step hv hu =>
   rename_i v
   refine⟨v,⟨hv,fun j hj hw=>?_⟩,hu⟩;exact h2 (j+1) (by omega) (.step hw hu)
theorem OS.zcY {G:Gr}{r k v u:Nat}(h:OS G r k v)(hu:u∈G.succ v):∃j,j<=k+1/\OS G r j u:=(Way.step h.1 hu).zel
theorem OS.root {G:Gr}{r:Nat}:OS G r 0 r:=⟨.root,fun j hj=>by omega⟩
theorem OS.zero {G:Gr}{r u:Nat}(h:OS G r 0 u):u=r:=by
 cases h.1 with
 |root=>rfl
structure Lev (G:Gr)(r t:Nat)(d:Nat->Option Nat):Prop where
 has:∀u k,d u=some k->OS G r k u/\k<=t
 all:∀u k,OS G r k u->k<=t->d u=some k
theorem zec (G:Gr)(r:Nat):Lev G r 0 (fun u=>if u=r then some 0 else none):=by
 constructor
 ·intro u k h
  split at h
  ·rename_i e;cases h;subst e;exact⟨.root,Nat.le_refl _⟩
  ·cases h
 ·intro u k h hk;have:k=0:=by omega
  subst this;rw[h.zero];simp
structure Rs (G:Gr)(r t:Nat)(d0 d:Nat->Option Nat)(A:Nat->Nat->Prop):Prop where
 old:∀u k,d0 u=some k->d u=some k
 new:∀u,d0 u=none->(d u=some (t+1)/\∃v,d0 v=some t/\A v u/\u∈G.succ v)\/(d u=none/\∀v,d0 v=some t->u∈G.succ v->¬A v u)
theorem Rs.fin {G:Gr}{r t:Nat}{d0 d:Nat->Option Nat}(h0:Lev G r t d0)(h:Rs G r t d0 d fun _ _=>True):Lev G r (t+1) d:=by
 constructor
 ·intro u k hk
  cases e:d0 u with
  | some j =>
    have:=h.old u j e;rw[hk] at this;cases this;have:=h0.has u k e
    exact⟨this.1,by omega⟩
  | none =>
    rcases h.new u e with⟨h1,v,hv,-,hu⟩|⟨h1,-⟩
    ·rw[hk] at h1;cases h1;obtain⟨j,hj,hd⟩:=(h0.has v t hv).1.zcY hu;have:¬j<=t:=fun hjt=>by rw[h0.all u j hd hjt] at e;cases e
     have:j=t+1:=by omega
     subst this;exact⟨hd,Nat.le_refl _⟩
    ·rw[hk] at h1;cases h1
 ·intro u k hd hk;by_cases hkt:k<=t
  ·exact h.old u k (h0.all u k hd hkt)
  ·have:k=t+1:=by omega
   subst this
   have e:d0 u=none:=by
    cases e:d0 u with
    |none=>rfl
    |some j=>have:=h0.has u j e;have:=hd.uniq this.1;omega
   obtain⟨v,hv,hu⟩:=hd.pred;rcases h.new u e with⟨h1,-⟩|⟨-,h2⟩
   ·exact h1
   ·exact absurd trivial (h2 v (h0.all v t hv (Nat.le_refl _)) hu)
theorem Lev.last {G:Gr}{r t:Nat}{d:Nat->Option Nat}(h:Lev G r t d)(h0:∀u,d u≠some t):∀u k,OS G r k u->d u=some k:=by
 have key:∀k u,OS G r k u->k<t:=by
  intro k
  induction k with
  | zero =>
    intro u hu;by_cases ht:0<t
    ·exact ht
    ·have:t=0:=by omega
     subst this
     exact absurd (h.all u 0 hu (Nat.le_refl _)) (h0 u)
  | succ k ih =>
    intro u hu;obtain⟨v,hv,-⟩:=hu.pred;have:=ih v hv;by_cases e:k+1<t
    ·exact e
    ·have:k+1=t:=by omega
     subst this;exact absurd (h.all u _ hu (Nat.le_refl _)) (h0 u)
 intro u k hd
 have:=key k u hd
 exact h.all u k hd (by omega)
theorem OR {g:List (List Nat)}(h:N2 g)(v u:Nat)(hu:u∈L9 g v):u<g.length:=by
 unfold L9 at hu
 cases e:g[v]? with
 |none=>rw[e] at hu;cases hu
 |some l=>rw[e] at hu;exact h.lt l (List.mem_of_getElem? e) u hu
def Vq {g:List (List Nat)}(h:N2 g):Gr:=⟨g.length,L9 g,OR h⟩
abbrev Ds:=List (Option Nat)
def dF (d:Ds)(u:Nat):Option Nat:=(d[u]?).getD none
def NH (t:Nat)(d:Ds)(u:Nat):Ds:=if d[u]? =some none then d.set u (some (t+1)) else d
def S5 (t:Nat)(g:List (List Nat))(d:Ds)(v:Nat):Ds:=if dF d v=some t then(L9 g v).foldl (NH t) d else d
def lvl (t:Nat)(g:List (List Nat))(d:Ds):Ds:=(List.range g.length).foldl (S5 t g) d
theorem QA (t:Nat)(d:Ds)(u:Nat):(NH t d u).length=d.length:=by
 unfold NH
 split<;>simp
theorem Pz (t:Nat):∀(l:List Nat) (d:Ds),(l.foldl (NH t) d).length=d.length
 |[],d=>rfl
 |u::l,d=>by rw[List.foldl_cons,Pz t l,QA]
theorem Yu (t:Nat)(g:List (List Nat))(d:Ds)(v:Nat):(S5 t g d v).length=d.length:=by
 unfold S5
 split
 ·exact Pz t _ d
 ·rfl
theorem PW (t:Nat)(g:List (List Nat)):∀(l:List Nat) (d:Ds),(l.foldl (S5 t g) d).length=d.length
 |[],d=>rfl
 |v::l,d=>by rw[List.foldl_cons,PW t g l,Yu]
theorem Vw (t:Nat)(g:List (List Nat))(d:Ds):(lvl t g d).length=d.length:=PW t g _ d
theorem YI {t:Nat}{d:Ds}{u:Nat}(hu:u<d.length)(x:Nat):dF (NH t d u) x=if x=u/\dF d u=none then some (t+1) else dF d x:=by
 unfold NH dF
 have e:d[u]? =some d[u]:=List.getElem?_eq_getElem hu
 rw[e]
 by_cases h:d[u]=none
 ·rw[if_pos (by rw[h])];by_cases hx:x=u
  ·subst hx;rw[List.getElem?_set_self hu,if_pos ⟨rfl,h⟩];rfl
  ·rw[List.getElem?_set_ne (fun e=>hx e.symm),if_neg (fun e=>hx e.1)]
 ·rw[if_neg (fun e=>h (Option.some.inj e)),if_neg (fun e=>h e.2)]
section
variable {G:Gr}{r t:Nat}{d0 d:Nat->Option Nat}{A B:Nat->Nat->Prop}
theorem Rs.step {v u:Nat}(h:Rs G r t d0 d A)(hv:d0 v=some t)(hu:u∈G.succ v){d':Nat->Option Nat}(hd':∀x,d' x=if x=u/\d u=none then some (t+1) else d x):Rs G r t d0 d' (fun v' u'=>A v' u'\/(v'=v/\u'=u)):=by
 constructor
 ·intro x k hx;rw[hd',if_neg]
  ·exact h.old x k hx
  ·rintro⟨rfl,e⟩;rw[h.old _ _ hx] at e;cases e
 ·intro x hx;rw[hd'];rcases h.new x hx with⟨h1,w,h2,h3,h4⟩|⟨h1,h2⟩
  ·left
   rw[if_neg (by rintro⟨rfl,e⟩;rw[h1] at e;cases e)];exact⟨h1,w,h2,.inl h3,h4⟩
  ·by_cases e:x=u
   ·subst e;left;rw[if_pos ⟨rfl,h1⟩];exact⟨rfl,v,hv,.inr ⟨rfl,rfl⟩,hu⟩
   ·right
    rw[if_neg (fun e2=>e e2.1)];refine⟨h1,fun w hw hu'=>?_⟩;rintro(e2|⟨_,e2⟩)
    ·exact h2 w hw hu' e2
    ·exact e e2
theorem Rs.W1 (h:Rs G r t d0 d A)(hAB:∀v u,d0 v=some t->u∈G.succ v->(A v u↔B v u)):Rs G r t d0 d B:=by
 refine⟨h.old,fun u hu=>?_⟩
 rcases h.new u hu with⟨h1,v,h2,h3,h4⟩|⟨h1,h2⟩
 ·exact .inl ⟨h1,v,h2,(hAB v u h2 h4).1 h3,h4⟩
 ·exact .inr ⟨h1,fun v hv hu hB=>h2 v hv hu ((hAB v u hv hu).2 hB)⟩
theorem Rs.zero (G:Gr)(r t:Nat)(d0:Nat->Option Nat):Rs G r t d0 d0 fun _ _=>False:=⟨fun _ _ h=>h,fun u h=> .inr ⟨h,fun _ _ _=>id⟩⟩
theorem Rs.at_ (h:Rs G r t d0 d A)(v:Nat):d v=some t↔d0 v=some t:=by
 constructor
 ·intro e
  cases e0:d0 v with
  |some k=>have:=h.old v k e0;rw[this] at e;exact e
  | none =>
    rcases h.new v e0 with⟨h1,-⟩|⟨h1,-⟩
    ·rw[h1] at e;have:=Option.some.inj e;omega
    ·rw[h1] at e;cases e
 ·exact fun e=>h.old v t e
end
section
variable {g:List (List Nat)}{r t:Nat}
theorem Uf (h:N2 g){d0:Nat->Option Nat}{A:Nat->Nat->Prop}{v:Nat}(hv:d0 v=some t):∀(p l:List Nat) (d:Ds),p++l=L9 g v->d.length=g.length->Rs (Vq h) r t d0 (dF d) (fun v' u'=>A v' u'\/(v'=v/\u'∈p))->Rs (Vq h) r t d0 (dF (l.foldl (NH t) d)) (fun v' u'=>A v' u'\/(v'=v/\u'∈L9 g v))
 |p,[],d,e,hd,hm=>by rw[<-e,List.append_nil];exact hm
 | p, u :: l, d, e, hd, hm => by
   have hu:u∈L9 g v:=by rw[<-e];simp
   have hul:u<d.length:=by rw[hd];exact OR h v u hu
   rw[List.foldl_cons];refine Uf h hv (p++[u]) l _ (by rw[<-e];simp) (by rw[QA,hd]) ?_;refine(hm.step hv hu (YI hul)).W1 fun v' u' _ _=>?_;rw[List.mem_append,List.mem_singleton];constructor
   ·rintro((a|⟨a,b⟩)|⟨a,b⟩)
    ·exact .inl a
    ·exact .inr ⟨a,.inl b⟩
    ·exact .inr ⟨a,.inr b⟩
   ·rintro(a|⟨a,b|b⟩)
    ·exact .inl (.inl a)
    ·exact .inl (.inr ⟨a,b⟩)
    ·exact .inr ⟨a,b⟩
theorem Wa (h:N2 g){d0:Nat->Option Nat}:∀(n:Nat) (d:Ds),d.length=g.length->dF d=d0->Rs (Vq h) r t d0 (dF ((List.range n).foldl (S5 t g) d)) (fun v' _=>v'<n)
 |0,d,hd,e=>by rw[<-e];exact(Rs.zero _ _ _ _).W1 fun v u _ _=>by simp
 | n + 1, d, hd, e => by
   have ih:=Wa h n d hd e;rw[List.range_succ,List.foldl_append,List.foldl_cons,List.foldl_nil];have hlen:=PW t g (List.range n) d
   generalize (List.range n).foldl (S5 t g) d=d1 at ih hlen
   unfold S5;by_cases hn:dF d1 n=some t
   ·rw[if_pos hn];have hv:=(ih.at_ n).1 hn;refine(Uf h (A:=fun v' _=>v'<n) hv [] _ d1 rfl (by omega) (ih.W1 fun v' u' _ _=>by simp)).W1 fun v' u' _ hu'=>?_;constructor
    ·rintro(a|⟨a,b⟩)<;>omega
    ·intro a;by_cases e2:v'=n
     ·subst e2;exact .inr ⟨rfl,hu'⟩
     ·exact .inl (by omega)
   ·rw[if_neg hn];refine ih.W1 fun v' u' hv' hu'=>?_;have:v'≠n:=fun e2=>hn (by rw[<-e2];exact(ih.at_ v').2 hv');omega
theorem z2f (h:N2 g){d:Ds}(hd:d.length=g.length)(hL:Lev (Vq h) r t (dF d)):Lev (Vq h) r (t+1) (dF (lvl t g d)):=by
 refine Rs.fin hL ((Wa h g.length d hd rfl).W1 fun v u hv hu=>?_)
 constructor
 ·intro _;trivial
 ·intro _;by_cases hvg:v<g.length
  ·exact hvg
  ·have:dF d v=none:=by unfold dF;rw[List.getElem?_eq_none (by omega)];rfl
   rw[this] at hv;cases hv
end
/-! ### The same with a flag: whether there were some -/
def Oc (t:Nat)(p:Ds×Bool)(u:Nat):Ds×Bool:=if p.1[u]? =some none then(p.1.set u (some (t+1)),true) else p
def Qu (t:Nat)(g:List (List Nat))(p:Ds×Bool)(v:Nat):Ds×Bool:=if dF p.1 v=some t then(L9 g v).foldl (Oc t) p else p
def WD (t:Nat)(g:List (List Nat))(d:Ds):Ds×Bool:=(List.range g.length).foldl (Qu t g) (d,false)
theorem z5S (t:Nat)(p:Ds×Bool)(u:Nat):(Oc t p u).1=NH t p.1 u:=by
 unfold Oc NH
 split<;>rfl
theorem Xi (t:Nat):∀(l:List Nat) (p:Ds×Bool),(l.foldl (Oc t) p).1=l.foldl (NH t) p.1
 |[],p=>rfl
 |u::l,p=>by rw[List.foldl_cons,List.foldl_cons,Xi t l,z5S]
theorem z6J (t:Nat)(g:List (List Nat))(p:Ds×Bool)(v:Nat):(Qu t g p v).1=S5 t g p.1 v:=by
 unfold Qu S5
 split
 ·exact Xi t _ p
 ·rfl
theorem z2e (t:Nat)(g:List (List Nat)):∀(l:List Nat) (p:Ds×Bool),(l.foldl (Qu t g) p).1=l.foldl (S5 t g) p.1
 |[],p=>rfl
 |v::l,p=>by rw[List.foldl_cons,List.foldl_cons,z2e t g l,z6J]
theorem z8U (t:Nat)(g:List (List Nat))(d:Ds):(WD t g d).1=lvl t g d:=z2e t g _ _
def Flg (t:Nat)(d0:Ds)(p:Ds×Bool):Prop:=(p.2=false->p.1=d0)/\(p.2=true->∃u,dF p.1 u=some (t+1))
theorem zao {d:Ds}{u k:Nat}(h:dF d u=some k):u<d.length:=by
 rcases Nat.lt_or_ge u d.length with e| e
 ·exact e
 ·unfold dF at h;rw[List.getElem?_eq_none e] at h;cases h
theorem Flg.NH {t:Nat}{d0:Ds}{p:Ds×Bool}(h:Flg t d0 p)(u:Nat):Flg t d0 (Oc t p u):=by
 unfold Oc
 by_cases e:p.1[u]? =some none
 ·rw[if_pos e];refine⟨fun e2=>(by cases e2),fun _=>⟨u,?_⟩⟩
  have hu:u<p.1.length:=by
   rcases Nat.lt_or_ge u p.1.length with h| h
   ·exact h
   ·rw[List.getElem?_eq_none h] at e;cases e
  unfold dF;rw[List.getElem?_set_self hu];rfl
 ·rw[if_neg e];exact h
theorem Flg.z4X {t:Nat}{d0:Ds}:∀(l:List Nat) {p:Ds×Bool},Flg t d0 p->Flg t d0 (l.foldl (Oc t) p)
 |[],_,h=>h
 |u::l,_,h=>by rw[List.foldl_cons];exact Flg.z4X l (h.NH u)
theorem Flg.zaf {t:Nat}{d0:Ds}{g:List (List Nat)}:∀(l:List Nat) {p:Ds×Bool},Flg t d0 p->Flg t d0 (l.foldl (Qu t g) p)
 |[],_,h=>h
 | v :: l, p, h => by
   rw[List.foldl_cons];refine Flg.zaf l ?_;unfold Qu;split
   ·exact Flg.z4X _ h
   ·exact h
theorem z4Z (t:Nat)(g:List (List Nat))(d:Ds):Flg t d (WD t g d):=Flg.zaf _ ⟨fun _=>rfl,fun e=>by cases e⟩
/-! ### A run -/
structure Tz where
 t:Nat
 done:Bool
 d:Ds
def Tz.new (n root:Nat):Tz:=⟨0,false,(List.replicate n none).set root (some 0)⟩
def Tz.step (g:List (List Nat))(s:Tz):Tz:=⟨s.t+1,!(WD s.t g s.d).2,(WD s.t g s.d).1⟩
structure BfI (g:List (List Nat))(h:N2 g)(r:Nat)(s:Tz):Prop where
 len:s.d.length=g.length
 lev:Lev (Vq h) r s.t (dF s.d)
 run:s.done=false->∃u,dF s.d u=some s.t
 fin:s.done=true->(∀u,dF s.d u≠some s.t)/\∃u k,dF s.d u=some k/\k+1=s.t
section
variable {g:List (List Nat)}{h:N2 g}{r:Nat}{s:Tz}
theorem BfI.new (h:N2 g)(hr:r<g.length):BfI g h r (Tz.new g.length r):=by
 have e:dF (Tz.new g.length r).d=fun u=>if u=r then some 0 else none:=by
  funext u
  unfold dF Tz.new;dsimp only;by_cases hu:u=r
  ·subst hu;rw[List.getElem?_set_self (by simpa using hr),if_pos rfl];rfl
  ·rw[List.getElem?_set_ne (fun e=>hu e.symm),if_neg hu,List.getElem?_replicate];split<;>rfl
 refine⟨by simp[Tz.new],by rw[e];exact zec _ r,fun _=>⟨r,by rw[e];simp[Tz.new]⟩,fun e=>by cases e⟩
theorem BfI.step (hI:BfI g h r s)(hd:s.done=false):BfI g h r (s.step g):=by
 have hF:=z4Z s.t g s.d
 have h1:=z8U s.t g s.d
 have hl:=z2f h hI.len hI.lev
 rw[<-h1] at hl
 refine⟨?_,hl,fun e=>?_,fun e=>?_⟩
 ·show(WD s.t g s.d).1.length=_;rw[h1,Vw];exact hI.len
 ·have e2:(WD s.t g s.d).2=true:=by simpa[Tz.step] using e
  exact hF.2 e2
 ·have e2:(WD s.t g s.d).2=false:=by simpa[Tz.step] using e
  have e3:=hF.1 e2;refine⟨fun u hu=>?_,?_⟩
  ·have hu':dF s.d u=some (s.t+1):=by rw[<-e3];exact hu
   have:=(hI.lev.has u _ hu').2;omega
  ·obtain⟨u,hu⟩:=hI.run hd;exact⟨u,s.t,by show dF (WD s.t g s.d).1 u=_;rw[e3];exact hu,rfl⟩
theorem z0n:∀(n k:Nat) (f:Nat->Nat),(∀i,i<k->f i<n)->(∀i j,i<k->j<k->f i=f j->i=j)->k<=n
 | 0, k, f, h, _ => by
   by_cases e:k=0
   ·omega
   ·have:=h 0 (by omega);omega
 | n + 1, k, f, h, hi => by
   by_cases e:∃i,i<k/\f i=n
   ·obtain⟨i0,h0,e0⟩:=e;have:=z0n n (k-1) (fun i=>if i<i0 then f i else f (i+1)) (fun i hik=>?_) (fun i j hik hjk e=>?_)
    ·omega
    ·try dsimp only
     split
     ·have h1:=h i (by omega);have:f i≠n:=fun e=>by have:=hi i i0 (by omega) h0 (by rw[e,e0]);omega
      omega
     ·have h1:=h (i+1) (by omega);have:f (i+1)≠n:=fun e=>by have:=hi (i+1) i0 (by omega) h0 (by rw[e,e0]);omega
      omega
    ·try dsimp only at e
     split at e<;>split at e
     ·exact hi i j (by omega) (by omega) e
     ·have:=hi i (j+1) (by omega) (by omega) e;omega
     ·have:=hi (i+1) j (by omega) (by omega) e;omega
     ·have:=hi (i+1) (j+1) (by omega) (by omega) e;omega
   ·have:=z0n n k f (fun i hik=>by have h1:=h i hik;have:f i≠n:=fun e2=>e ⟨i,hik,e2⟩;omega) hi;omega
theorem OS.below {G:Gr}{r:Nat}:∀{k u:Nat},OS G r k u->∀j,j<=k->∃v,OS G r j v
 |0,u,h,j,hj=>⟨u,by rw[show j=0 by omega];exact h⟩
 | k + 1, u, h, j, hj => by
   by_cases e:j=k+1
   ·rw[e];exact⟨u,h⟩
   ·obtain⟨v,hv,-⟩:=h.pred;exact hv.below j (by omega)
theorem OS.z6T (h:N2 g)(hr:r<g.length){k u:Nat}(hd:OS (Vq h) r k u):k<g.length:=by
 have hex:∀j,∃v,j<=k->OS (Vq h) r j v:=fun j=>by
  by_cases hj:j<=k
  ·obtain⟨v,hv⟩:=hd.below j hj;exact⟨v,fun _=>hv⟩
  ·exact⟨0,fun e=>absurd e hj⟩
 have hlt:∀{j v:Nat},OS (Vq h) r j v->v<g.length:=fun {j v} hv=>by
  cases hv.1 with
  |root=>exact hr
  |step _ hu=>exact OR h _ _ hu
 have:=z0n g.length (k+1) (fun j=>Classical.choose (hex j)) (fun i hi=>hlt (Classical.choose_spec (hex i) (by omega))) (fun i j hi hj e=>by
  have h1:=Classical.choose_spec (hex i) (by omega);have h2:=Classical.choose_spec (hex j) (by omega)
  try dsimp only at e
  rw[e] at h1
  exact h1.uniq h2)
 omega
theorem BfI.zat (hI:BfI g h r s)(hr:r<g.length)(hd:s.done=false):s.t<g.length:=by
 obtain⟨u,hu⟩:=hI.run hd
 exact(hI.lev.has u _ hu).1.z6T h hr
theorem BfI.all (hI:BfI g h r s)(hd:s.done=true)(u:Nat):(∀k,dF s.d u=some k↔OS (Vq h) r k u):=fun k=>
 ⟨fun e=>(hI.lev.has u k e).1,fun e=>hI.lev.last (hI.fin hd).1 u k e⟩
end
theorem z1Q {v:Nat}(h:v<=200000):Nat.log2 (v+1)<=17:=by
 have h1:=Nat.log2_self_le (n:=v+1) (by omega)
 have h3:2^Nat.log2 (v+1)<2^18:=by
  have:(2:Nat)^18=262144:=by decide
  omega
 have:=(Nat.pow_lt_pow_iff_right (by decide:1<2)).1 h3
 omega
theorem Si.z6L {k:Nat}{q:Cd×Nat}(h:Si k q)(hk:1<=k/\k<=3):(q.1.enc q.2).length<=40:=by
 rw[RT]
 rcases h with⟨e,h⟩|⟨e,h⟩|⟨e,h⟩
 ·rw[e];show q.2+1+0<=_;omega
 ·have:=z1Q h;rw[e];show Nat.log2 (q.2+1)+1+Nat.log2 (q.2+1)<=_;omega
 ·have h3:=z1Q h;have h4:Nat.log2 (q.2+1) / k<=Nat.log2 (q.2+1):=Nat.div_le_self _ _;have hm:Nat.log2 (q.2+1) / k*k<=Nat.log2 (q.2+1):=Nat.div_mul_le_self _ _
  have h5:(MM (q.2+1-2^(Nat.log2 (q.2+1) / k*k)) (2^(Nat.log2 (q.2+1) / k*k)*2^k-2^(Nat.log2 (q.2+1) / k*k))).2<=20:=by
   have h6:LB (2^(Nat.log2 (q.2+1) / k*k)*2^k-2^(Nat.log2 (q.2+1) / k*k)-1)<=20:=by
    refine Mu ?_;have h7:=Nat.pow_le_pow_right (show 0<2 by decide) (show Nat.log2 (q.2+1) / k*k+k<=20 by omega);rw[Nat.pow_add] at h7;have:=Nat.two_pow_pos (Nat.log2 (q.2+1) / k*k);omega
   unfold MM;dsimp only;split
   ·show LB _-1<=20;omega
   ·exact h6
  rw[e];show Nat.log2 (q.2+1) / k+1+(MM _ _).2<=_;omega
theorem z1s {p:Nc}(hp:p.M3)(hz:p.zeta<=3){x:Nat}(hx:x<65536){succ ref:List Nat}(hs:Lt succ)(hr:Lt ref){r:Nat}(iD:r<=p.Lf)(Hl:succ.length<=40)(yo:ref.length<=40):(Ld (MK p x succ ref r)).length<=6600:=by
 have av:Lt (leftOf succ ref):=hs.sub List.filter_sublist
 have eO:(leftOf succ ref).length<=succ.length:=List.length_filter_le _ _
 have h1:=(O4 succ ref).Wf
 rw[List.length_map] at h1
 have h2:=WW p.interval av
 have h3:=(PI p.interval (leftOf succ ref)).length_le
 have aD:(MK p x succ ref r).length<=165:=by
  unfold MK;rw[List.length_cons];split
  ·simp
  rw[List.length_append,List.length_append];have e1:(if 0<p.Lf then [(Cd.unary,r)] else []).length<=1:=by split<;>simp
  have e2:(if 0<r then(Cd.gamma,(Mx succ ref).length-1)::runNums 0 (Mx succ ref).dropLast else []).length<=42:=by
   split
   ·rw[List.length_cons,O9,List.length_dropLast];omega
   ·simp
  have e3:(if leftOf succ ref=[] then [] else(if 0<p.interval then(Cd.gamma,(rowsN p.interval (leftOf succ ref)).1.length)::longNums x p.interval none (rowsN p.interval (leftOf succ ref)).1 else [])++restNums x p.zeta none (rowsN p.interval (leftOf succ ref)).2).length<=121:=by
   split
   ·simp
   ·rw[List.length_append,Oj];split
    ·rw[List.length_cons,NG];omega
    ·simp;omega
  omega
 have:=X5 (n:=40) (L:=MK p x succ ref r) (fun q hq=>(UT hp hx hs hr iD q hq).z6L ⟨hp.2.2.1,hz⟩)
 omega
section
variable {p:LW}{g:List (List Nat)}{E:List (Nat×Nat)}
theorem z9m (h:NY p g E)(tY:g.length<=40)(hz:p.zeta<=3){i:Nat}(hi:i<g.length):(SC p g E i).length<=6600:=by
 unfold SC
 have s6:g[i]? =some g[i]:=List.getElem?_eq_getElem hi
 have oZ:i<E.length:=by have:=h.pk.el;omega
 have FA:E[i]? =some E[i]:=List.getElem?_eq_getElem oZ
 have gx:=h.pk.ok.ent i _ FA
 rw[s6,FA]
 rw[s6] at gx
 show(Ld (MK p.list i g[i] (Ma g i E[i].1) E[i].1)).length<=6600
 have h2:Lt (Ma g i E[i].1)/\(Ma g i E[i].1).length<=40:=by
  rcases RF g i E[i].1 with e| e
  ·rw[e];exact⟨⟨List.Pairwise.nil,fun y h=>(by cases h)⟩,Nat.zero_le _⟩
  ·exact⟨h.gr.ok _ e,by have:=h.gr.len e;omega⟩
 have iD:E[i].1<=p.list.Lf:=by
  rcases gx with e|⟨-,h3,-⟩
  ·rw[e];exact Nat.zero_le _
  ·exact h3
 have hm:g[i]∈g:=List.getElem_mem hi
 exact z1s h.M3.1 hz (by omega) (h.gr.ok _ hm) h2.1 iD (by have:=h.gr.len hm;omega) h2.2
theorem z4J (h:NY p g E)(tY:g.length<=40)(hz:p.zeta<=3):∀n,n<=g.length->(M7 p g E n).length<=n*6600
 |0,_=>by simp[M7]
 | n + 1, hn => by
   have:=z4J h tY hz n (by omega);have:=z9m h tY hz (i:=n) (by omega);rw[O0,List.length_append,Nat.add_mul];omega
theorem z6S {n u:Nat}(hn:1<=n):(OW n u).bits<=3*n:=by
 show(u-1) / 2^SI n u+n<=_
 have h:u<2*n*2^SI n u:=by
  unfold SI;split
  ·rename_i e
   have:=(Nat.div_eq_zero_iff).1 e;omega
  ·rename_i e
   have h1:=RW (v:=u / n);have h2:=(Nat.div_lt_iff_lt_mul (by omega)).1 h1;have h3:1<=LB (u / n):=by unfold LB;rw[if_neg e];omega
   rw[show LB (u / n)=LB (u / n)-1+1 by omega,Nat.pow_succ,Nat.mul_comm _ n,Nat.mul_comm _ 2,<-Nat.mul_assoc,Nat.mul_comm n 2] at h2;exact h2
 have h4:(u-1) / 2^SI n u<2*n:=(Nat.div_lt_iff_lt_mul (Nat.two_pow_pos _)).2 (by omega)
 omega
theorem z6j (h:NY p g E)(tY:g.length<=40)(hz:p.zeta<=3):(Sy p g E).length<=36000:=by
 have h1:=z4J h tY hz g.length (Nat.le_refl _)
 have h2:g.length*6600<=40*6600:=Nat.mul_le_mul_right _ tY
 have h3:(Wr p g E).size<=2900:=by
  have hw:SI (g.length+1) ((M7 p g E g.length).length+1)<=30:=TD (by omega);have hb:=z6S (n:=g.length+1) (u:=(M7 p g E g.length).length+1) (by omega);have hm:(g.length+1)*SI (g.length+1) ((M7 p g E g.length).length+1)<=41*30:=Nat.mul_le_mul (by omega) hw;show 12+((g.length+1)*SI (g.length+1) ((M7 p g E g.length).length+1)+7) / 8+((OW (g.length+1) ((M7 p g E g.length).length+1)).bits+7) / 8+4*((g.length+1+63) / 64)<=2900;omega
 rw[h.len]
 unfold R5
 omega
end
structure GwP where
 p:LW
 g:List (List Nat)
 E:List (Nat×Nat)
 st:Nat
 len:Nat
 rb:Nat
 sum:Nat
 k:Nat
 x:Nat
def Oa (G:GwP)(Q:N1)(txt:Int->Bytes)(K:Nat)(X:Nat->Prop)(w:World):Prop:=∃o:StO Q txt K G.st G.len (Sy G.p G.g G.E),PL (z3F o G.rb G.sum) G.k G.x X w
section
variable {G:GwP}{w w':World}{Q Q':N1}{txt txt':Int->Bytes}{K K':Nat}{X Y S':Nat->Prop}
theorem Oa.sp (h:Oa G Q txt K X w):Sp Q txt K (fun b=>X b\/b=G.rb) w:=by obtain⟨o,h⟩:=h;exact h.inv.1
theorem Oa.rbB (h:Oa G Q txt K X w):KY w G.rb (srC Q.s G.st G.len (Sy G.p G.g G.E).length G.sum) 179:=by obtain⟨o,h⟩:=h;exact h.inv.2.1
theorem Oa.rbX (h:Oa G Q txt K X w):¬X G.rb:=by obtain⟨o,h⟩:=h;exact h.inv.2.2
theorem Oa.lt (h:Oa G Q txt K X w):∀b,X b->b<w.heap.size:=by obtain⟨o,h⟩:=h;exact h.lt
theorem Oa.lt1 (h:Oa G Q txt K X w):∀b,(X b\/b=G.rb)->b<w.heap.size:=fun b hb=>hb.elim (h.lt b) (fun e=>by rw[e];exact h.rbB.lt)
theorem Oa.z1z (h:Oa G Q txt K X w):K<1000000000000:=by obtain⟨o,h⟩:=h;exact o.k
theorem Oa.xk (h:Oa G Q txt K X w):X G.k/\X G.x/\X 1/\X 2:=by obtain⟨o,h⟩:=h;exact⟨h.xk,h.xx,h.x1,h.x2⟩
theorem Oa.ok (h:Oa G Q txt K X w):NY G.p G.g G.E:=by obtain⟨o,h⟩:=h;exact h.ok
theorem Oa.VL (h:Oa G Q txt K X w)(hk:Kp S' w w')(hS:∀b,S' b->¬(X b\/b=G.rb)\/(X b/\b≠G.k/\b≠G.x/\b≠1/\b≠2))(hP:Sp Q' txt' K' (fun b=>X b\/b=G.rb) w')(hs:Q'.s=Q.s)(hl:Q'.L.length=Q.L.length)(hK:K'<1000000000000)(ht:∀y:Int,(G.st:Int)<=y->y<(G.st:Int)+(G.len:Int)->txt' y=txt y):Oa G Q' txt' K' X w':=by
 have pD:=h.rbX
 have zk:=h.rbB
 obtain⟨o,h⟩:=h
 have aD:=o.len
 refine⟨⟨hK,by rw[hl];exact o.fit,o.laid.W1 fun k hk=>ht _ (by omega) (by omega),o.len⟩,h.re hk (fun j hj=>?_) ⟨hP,?_,pD⟩⟩
 ·rcases hS j hj with e| e
  ·exact⟨fun e2=>e (.inl (e2▸h.xk)),fun e2=>e (.inl (e2▸h.xx)),fun e2=>e (.inl (e2▸h.x1)),fun e2=>e (.inl (e2▸h.x2))⟩
  ·exact e.2
 ·rw[hs];exact hk.KN zk (fun e=>(hS _ e).elim (fun e=>e (.inr rfl)) (fun e=>pD e.1))
theorem Oa.zbh (h:Oa G Q txt K X w)(hk:Kp S' w w')(hS:∀b,S' b->¬(X b\/b=G.rb))(bV:∀j,X j->Y j)(hY:∀j,Y j->X j\/(w.heap.size<=j/\j<w'.heap.size))(hP:Sp Q' txt' K' (fun b=>Y b\/b=G.rb) w')(hs:Q'.s=Q.s)(hl:Q'.L.length=Q.L.length)(hK:K'<1000000000000)(ht:∀y:Int,(G.st:Int)<=y->y<(G.st:Int)+(G.len:Int)->txt' y=txt y):Oa G Q' txt' K' Y w':=by
 have pD:=h.rbX
 have zk:=h.rbB
 obtain⟨o,h⟩:=h
 have aD:=o.len
 have hI:(z3F (⟨hK,by rw[hl];exact o.fit,o.laid.W1 fun k hk=>ht _ (by omega) (by omega),o.len⟩:StO Q' txt' K' G.st G.len (Sy G.p G.g G.E)) G.rb G.sum).inv Y w':=⟨hP,by rw[hs];exact hk.KN zk (fun e=>hS _ e (.inr rfl)),fun e=>(hY _ e).elim pD (fun e=>by have:=zk.lt;omega)⟩
 refine⟨_,⟨h.ok,hk.KN h.KN (fun e=>hS _ e (.inl h.xk)),hk.KN h.ix (fun e=>hS _ e (.inl h.xx)),bV _ h.xk,bV _ h.xx,hI,fun j hj=>?_,bV _ h.x1,bV _ h.x2,hk.KN h.gam (fun e=>hS _ e (.inl h.x1)),hk.KN h.una (fun e=>hS _ e (.inl h.x2))⟩⟩
 rcases hY j hj with e| e
 ·have:=h.lt j e;have:=hk.size;omega
 ·exact e.2
theorem Oa.grow (h:Oa G Q txt K X w)(hx:Ext w w')(hY:∀j,Y j->X j\/(w.heap.size<=j/\j<w'.heap.size))(bV:∀j,X j->Y j):Oa G Q txt K Y w':=by
 obtain⟨o,h⟩:=h
 exact⟨o,h.grow hx hY bV⟩
theorem Oa.ext (h:Oa G Q txt K X w)(hx:Ext w w'):Oa G Q txt K X w':=h.grow hx (fun j hj=> .inl hj) fun j hj=>hj
theorem Oa.own (h:Oa G Q txt K X w)(hk:Kp S' w w')(hS:∀j,S' j->X j/\j≠G.k/\j≠G.x/\j≠1/\j≠2):Oa G Q txt K X w':=by
 obtain⟨o,h⟩:=h
 exact⟨o,h.own hk hS⟩
theorem Oa.less (h:Oa G Q txt K Y w)(bV:∀j,X j->Y j)(hx:X G.k/\X G.x/\X 1/\X 2):Oa G Q txt K X w:=by
 obtain⟨o,h⟩:=h
 exact⟨o,h.less bV hx.1 hx.2.1 hx.2.2.1 hx.2.2.2⟩
theorem Oa.more (h:Oa G Q txt K X w)(hK:K<=K')(xN:K'<1000000000000):Oa G Q txt K' X w:=h.VL (S':=fun _=>False) (Kp.refl _ w) (fun _ e=>e.elim) (h.sp.more hK) rfl rfl xN fun _ _ _=>rfl
theorem Ya (h:Oa G Q txt K X w):Lk Tryz.prog 27 [ptr G.k 0] w fun v w'=>v=I (G.g.length:Int)/\w'=w:=by
 obtain⟨o,h⟩:=h
 exact z7z h
theorem z07 {l bk bi v:Nat}(iH:G.g.length<50)(hv:v<G.g.length)(h:Oa G Q txt K X w)(fX:KY w bk [ptr G.k 0] 28)(tX:KY w bi [I (v:Int)] 3)(Z:Nat->Prop)(hZ:∀j,Z j->X j)(J:(Nat->Prop)->Nat->World->Prop)(F:World->Prop)
  (h0:∀(Y:Nat->Prop) (w':World),(∀j,X j->Y j)->(∀j,Y j->X j\/w.heap.size<=j)->Oa G Q txt K Y w'->Kp (fun j=>¬X j) w w'->J Y 0 w')
  (hround:∀(Y:Nat->Prop) (i s:Nat) (w':World),(∀j,X j->Y j)->(∀j,Y j->X j\/w.heap.size<=j)->(L9 G.g v)[i]? =some s->J Y i w'->Xs Tryz.prog l [Lp s,I 0] w' fun r w''=>(r= .bool true/\J Y (i+1) w''/\Kp (fun j=>¬Y j\/Z j) w' w'')\/(r= .bool false/\F w'')):
  Lk Tryz.prog 93 [.func (.yield l) #[] #[],ptr bk 0,ptr bi 0] w fun r w'=>r= .tuple #[]/\((∃Y,(∀j,X j->Y j)/\(∀j,Y j->X j\/w.heap.size<=j)/\J Y (L9 G.g v).length w')\/F w'):=by
 obtain⟨o,h⟩:=h
 exact z0g iH hv h fX tX Z hZ J F (fun Y w' h1 h2 h3 h4=>h0 Y w' h1 h2 ⟨o,h3⟩ h4) hround
end
def bfC (t:Nat)(dn:Bool)(k vb:Nat)(br:Bool):List Value:=[I (t:Int),.bool dn,ptr k 0,ptr vb 0,.bool br]
structure Qa (G:GwP)(Q:N1)(txt:Int->Bytes)(K:Nat)(X:Nat->Prop)(rr vb sv:Nat)(t:Nat)(dn:Bool)(xs:List Nat)(w:World):Prop where
 g:Oa G Q txt K X w
 run:KY w rr (bfC t dn G.k vb false) 88
 vec:Tw Q txt vb 4 sv xs w
 xr:X rr/\X vb
 ne:rr≠vb/\rr≠G.k/\rr≠G.x/\rr≠1/\rr≠2/\vb≠G.k/\vb≠G.x/\vb≠1/\vb≠2
 QU:G.st+G.len<=sv
 len:xs.length=G.g.length
 n:G.g.length<=40
 t:t<=1000000
section
variable {G:GwP}{w w':World}{Q Q':N1}{txt txt':Int->Bytes}{K K':Nat}{X Y S':Nat->Prop}{rr vb sv t:Nat}{dn:Bool}{xs ys:List Nat}
theorem Qa.cells (h:Qa G Q txt K X rr vb sv t dn xs w):KY w rr [I (t:Int),.bool dn,ptr G.k 0,ptr vb 0,.bool false] 88:=h.run
theorem Qa.ext (h:Qa G Q txt K X rr vb sv t dn xs w)(hx:Ext w w'):Qa G Q txt K X rr vb sv t dn xs w':=⟨h.g.ext hx,hx.KN h.run,h.vec.ext hx,h.xr,h.ne,h.QU,h.len,h.n,h.t⟩
theorem Qa.grow (h:Qa G Q txt K X rr vb sv t dn xs w)(hx:Ext w w')(hY:∀j,Y j->X j\/(w.heap.size<=j/\j<w'.heap.size))(bV:∀j,X j->Y j):Qa G Q txt K Y rr vb sv t dn xs w':=⟨h.g.grow hx hY bV,hx.KN h.run,h.vec.ext hx,⟨bV _ h.xr.1,bV _ h.xr.2⟩,h.ne,h.QU,h.len,h.n,h.t⟩
theorem Qa.less (h:Qa G Q txt K Y rr vb sv t dn xs w)(bV:∀j,X j->Y j)(hx:X G.k/\X G.x/\X 1/\X 2)(hr:X rr/\X vb):Qa G Q txt K X rr vb sv t dn xs w:=⟨h.g.less bV hx,h.run,h.vec,hr,h.ne,h.QU,h.len,h.n,h.t⟩
theorem Qa.more (h:Qa G Q txt K X rr vb sv t dn xs w)(hK:K<=K')(xN:K'<1000000000000):Qa G Q txt K' X rr vb sv t dn xs w:=⟨h.g.more hK xN,h.run,h.vec,h.xr,h.ne,h.QU,h.len,h.n,h.t⟩
theorem Qa.own (h:Qa G Q txt K X rr vb sv t dn xs w)(hk:Kp S' w w')(hS:∀j,S' j->X j/\j≠G.k/\j≠G.x/\j≠1/\j≠2/\j≠rr/\j≠vb):Qa G Q txt K X rr vb sv t dn xs w':=
 ⟨h.g.own hk (fun j e=>⟨(hS j e).1,(hS j e).2.1,(hS j e).2.2.1,(hS j e).2.2.2.1,(hS j e).2.2.2.2.1⟩),hk.KN h.run (fun e=>(hS _ e).2.2.2.2.2.1 rfl),h.vec.kp hk (fun e=>(hS _ e).2.2.2.2.2.2 rfl),h.xr,h.ne,h.QU,h.len,h.n,h.t⟩
theorem Qa.read (h:Qa G Q txt K X rr vb sv t dn xs w)(hk:Kp (fun b=>¬(X b\/b=G.rb)) w w')(hP:Sp Q txt K (fun b=>X b\/b=G.rb) w'):Qa G Q txt K X rr vb sv t dn xs w':=
 ⟨h.g.VL hk (fun b e=> .inl e) hP rfl rfl h.g.z1z (fun _ _ _=>rfl),hk.KN h.run (fun e=>e (.inl h.xr.1)),h.vec.kp hk (fun e=>e (.inl h.xr.2)),h.xr,h.ne,h.QU,h.len,h.n,h.t⟩
theorem Qa.wrote (h:Qa G Q txt K X rr vb sv t dn xs w)(hK:K'<1000000000000)(hl:ys.length=xs.length)(hW:VcW Q txt K' (fun b=>X b\/b=G.rb) vb 4 sv ys w w'):∃txt',Qa G Q txt' K' X rr vb sv t dn ys w'/\(∀y:Int,y<(sv:Int)\/(sv:Int)+(PZ xs.length 128:Int)<=y->txt' y=txt y)/\Kp (fun b=>¬(X b\/b=G.rb)) w w':=by
 obtain⟨txt',hP,hv,ht,hk⟩:=hW
 have hd:=h.QU
 exact⟨txt',⟨h.g.VL hk (fun b e=> .inl e) hP rfl rfl hK (fun y h1 h2=>ht y (.inl (by omega))),hk.KN h.run (fun e=>e (.inl h.xr.1)),hv,h.xr,h.ne,h.QU,by rw[hl];exact h.len,h.n,h.t⟩,fun y hy=>ht y (by rw[hl];exact hy),hk⟩
theorem Un (h:Qa G Q txt K X rr vb sv t dn xs w):Lk Tryz.prog 32 [ptr rr 0] w fun v w'=>v=I 0/\w'=w:=by
 have hB:=h.cells
 refine KJ (e:=[(0,_)]) Tryz.func32 rfl Tryz.ntmps32 rfl rfl (qN rfl (KO rfl (py (run_seq (KL (qN rfl (An rfl (qV (LQ Zy rfl rfl) (KO rfl (py (KH rfl (qN rfl (An rfl ?_)))))))))))))
 refine qV (L6 rfl) (qV (KT z4M rfl) (qV (KS U4 rfl rfl hB rfl) (KO rfl (py (KH rfl (It (KM (qN rfl (KO rfl (py (KP Tryz.func32 rfl ?_)))))))))))
 exact⟨_,rfl,rfl,rfl⟩
theorem Yx (h:Qa G Q txt K X rr vb sv t dn xs w):Lk Tryz.prog 15 [ptr rr 0] w fun v w'=>v=I (t:Int)/\w'=w:=by
 have hB:=h.cells
 refine KJ (e:=[(0,_)]) Tryz.func15 rfl Tryz.ntmps15 rfl rfl (qN rfl (KO rfl (py (run_seq (qN rfl (An rfl (qV (LQ Zy rfl rfl) (py (KH rfl (It (qN rfl (An rfl (qV (L6 rfl) ?_)))))))))))))
 refine qV (KT Qx rfl) (qV (KT Vv rfl) (qV (KS U3 rfl rfl hB rfl) (KO rfl (py (KP Tryz.func15 rfl ?_)))))
 exact⟨_,rfl,rfl,rfl⟩
theorem WU (h:Qa G Q txt K X rr vb sv t true xs w){i x:Nat}(hi:xs[i]? =some x):Lk Tryz.prog 12 [ptr rr 0,I (i:Int)] w fun v w'=>v= .tuple #[L5 (if x=4294967295 then 18446744073709551615 else x),I 0]/\Qa G Q txt K X rr vb sv t true xs w'/\Kp (fun b=>¬(X b\/b=G.rb)) w w':=by
 have hB:=h.cells
 have hx:=(h.vec.zbt hi).2
 refine KJ (e:=[(0,_),(1,_)]) Tryz.func12 rfl Tryz.ntmps12 rfl rfl (qN rfl (KO rfl (KO rfl (py (run_seq (qN rfl (An rfl (La [.tmp 9] zby rfl (Un h) ?_))))))))
 rintro _ w ⟨rfl,rfl⟩
 refine KO rfl (qM rfl (An rfl (qV (M0 rfl rfl) (py (KH rfl (It (run_seq (qN rfl (An rfl (qV (L6 rfl) (qV (KT Qx rfl) (qV (KT Y6 rfl) (qV (KS U4 rfl rfl hB rfl) ?_)))))))))))))
 refine qV ((by first|exact LN rfl|exact Na rfl)) ?_
 refine py (KH rfl (It (qN rfl (An rfl (qV (L6 rfl) (qV (KT Sr rfl) (qV (KS U80 rfl rfl hB rfl) (An rfl (La [.tmp 24,.tmp 25] z9n rfl (TK h.g.sp h.g.lt1 h.g.z1z h.vec (.inl h.xr.2) hi) ?_)))))))))
 rintro _ w1 ⟨rfl,kA,aM⟩
 have h1:=h.read aM kA
 refine An rfl (qV (Lu rfl rfl) (qV (Lu rfl rfl) (KO rfl (KO rfl (py (Ll.qb (e:=[(4,_),(5,_),(7,_),(8,_)]) ?_))))))
 refine run_seq (qN rfl (An rfl ?_))
 by_cases e:x=4294967295
 ·refine qV (Mr rfl rfl) (MR (py (L3 rfl (qN rfl (An rfl (KO rfl (KO rfl (py (KP Tryz.func12 rfl ?_)))))))));rw[if_pos e];exact⟨_,rfl,rfl,h1,aM⟩
 ·refine qV (Mr rfl rfl) (Ly (py (KH rfl (It (qN rfl (An rfl (An rfl (KO rfl (KO rfl (py (KP Tryz.func12 rfl ?_)))))))))));rw[if_neg e];exact⟨_,rfl,rfl,h1,aM⟩
end
theorem z4q {P:Program}{f:FuncId}{R:Value->World->Prop}{n:Nat}{rd:Option Nat}{ms:List Dfr}{dk:Bool}{k:List Item}{e:Env}{w:World}{α:Type}{c:Code}(x0:α)(M:α->List Dfr)(hM:M x0=ms)(E:α->Env)(I:α->World->Prop)(μ:α->Nat)(hE:Sub (E x0) e)(hI:I x0 w)
  (round:∀x w,I x w->(∀y w',I y w'->μ y<μ x->Ll ⟨P,f,R,n,rd,M y,dk⟩ (.inLoop c::k) (E y) w')->Ll ⟨P,f,R,n,rd,M x,dk⟩ (.code c:: .inLoop c::k) (E x) w):Ll ⟨P,f,R,n,rd,ms,dk⟩ (.code (.loop c)::k) e w:=by
 have key:∀m x w,μ x=m->I x w->Ll ⟨P,f,R,n,rd,M x,dk⟩ (.code c:: .inLoop c::k) (E x) w:=by
  intro m
  induction m using Nat.strongRecOn with
  | _ m ih =>
    intro x w hm hx;exact round x w hx fun y w' hy aO=>Vj (ih (μ y) (hm▸aO) y w' rfl hy)
 subst hM
 exact fun a ha=>R4.step (fun _ _=>stepR_loop) (key _ x0 w rfl hI a (ha.sub hE))
theorem N5.kp {ms:List Dfr}{w w':World}{S:Nat->Prop}(h:N5 ms w)(hk:Kp S w w')(hS:∀D,.mk D∈ms->¬S D):N5 ms w':=fun d hd=>by
 obtain⟨D,rfl,hD⟩:=h d hd
 exact⟨D,rfl,hk.heap hD (hS D hd)⟩
theorem N5.nil (w:World):N5 [] w:=fun d hd=>by cases hd
theorem N5.cons {ms:List Dfr}{w:World}{D:Nat}(h:N5 ms w)(hD:w.heap[D]? =some (.deferred (some []))):N5 (.mk D::ms) w:=fun d hd=>by
 rcases List.mem_cons.1 hd with rfl| e
 ·exact⟨D,rfl,hD⟩
 ·exact h d e
theorem VS:∀(ms:List Dfr) (w:World),Kp (fun k=> .mk k∈ms) w (Ot ms w)
 |[],w=>Kp.refl _ w
 | .mk D::ms,w=>((Mf w D (.deferred none)).L2 fun k e=>by rw[e];exact List.mem_cons_self).trans ((VS ms _).L2 fun k e=>List.mem_cons_of_mem _ e)
 | .call f c a::ms,w=>(VS ms w).L2 fun k e=>List.mem_cons_of_mem _ e
structure MkN (B:Nat)(ms:List Dfr)(w:World):Prop where
 nd:ms.Nodup
 m:N5 ms w
 lo:∀D,.mk D∈ms->B<=D
 hi:∀D,.mk D∈ms->D<w.heap.size
theorem MkN.nil (B:Nat)(w:World):MkN B [] w:=⟨List.nodup_nil,.nil w,fun _ h=>(by cases h),fun _ h=>(by cases h)⟩
theorem MkN.kp {B:Nat}{ms:List Dfr}{w w':World}{S:Nat->Prop}(h:MkN B ms w)(hk:Kp S w w')(hS:∀D,.mk D∈ms->¬S D):MkN B ms w':=⟨h.nd,h.m.kp hk hS,h.lo,fun D hD=>by have:=h.hi D hD;have:=hk.size;omega⟩
theorem MkN.cons {B:Nat}{ms:List Dfr}{w w':World}(h:MkN B ms w)(hB:B<=w.heap.size)(h':MkN B ms w')(hD:w'.heap[w.heap.size]? =some (.deferred (some [])))(hz:w.heap.size<w'.heap.size):MkN B (.mk w.heap.size::ms) w':=
 ⟨List.nodup_cons.2 ⟨fun e=>by have:=h.hi _ e;omega,h.nd⟩,h'.m.cons hD,fun D e=>by
  rcases List.mem_cons.1 e with e| e
  ·cases e;exact hB
  ·exact h.lo D e,fun D e=>by
  rcases List.mem_cons.1 e with e| e
  ·cases e;exact hz
  ·exact h'.hi D e⟩
abbrev nv:Nat:=4294967295
def Nq (t:Nat)(p:List Nat×Bool)(u:Nat):List Nat×Bool:=if p.1[u]? =some nv then(p.1.set u (t+1),true) else p
def PS (t:Nat)(g:List (List Nat))(p:List Nat×Bool)(v:Nat):List Nat×Bool:=if p.1[v]? =some t then(L9 g v).foldl (Nq t) p else p
def WE (t:Nat)(g:List (List Nat))(xs:List Nat):List Nat×Bool:=(List.range g.length).foldl (PS t g) (xs,false)
theorem z1a (t:Nat)(p:List Nat×Bool)(u:Nat):(Nq t p u).1.length=p.1.length:=by
 unfold Nq
 split<;>simp
theorem Rf (t:Nat):∀(l:List Nat) (p:List Nat×Bool),(l.foldl (Nq t) p).1.length=p.1.length
 |[],p=>rfl
 |u::l,p=>by rw[List.foldl_cons,Rf t l,z1a]
theorem z4m (t:Nat)(g:List (List Nat))(p:List Nat×Bool)(v:Nat):(PS t g p v).1.length=p.1.length:=by
 unfold PS
 split
 ·exact Rf t _ p
 ·rfl
def dN:Option Nat->Nat
 |none=>nv
 |some k=>k
def O5 (d:Ds):List Nat:=d.map dN
def UE (d:Ds):Prop:=∀(u k:Nat),d[u]? =some (some k)->k<nv
theorem U0 (d:Ds)(u:Nat):(O5 d)[u]? =(d[u]?).map dN:=List.getElem?_map ..
theorem z1q {d:Ds}(h:UE d)(u:Nat):(O5 d)[u]? =some nv↔d[u]? =some none:=by
 rw[U0]
 cases e:d[u]? with
 |none=>simp
 | some o =>
   cases o with
   |none=>simp[dN]
   | some k =>
     have:=h u k e;simp[dN];omega
theorem z0x {t:Nat}(ht:t+1<nv){p:Ds×Bool}(h:UE p.1)(u:Nat):Nq t (O5 p.1,p.2) u=(O5 (Oc t p u).1,(Oc t p u).2)/\UE (Oc t p u).1:=by
 unfold Nq Oc
 have hn:=z1q h u
 by_cases e:p.1[u]? =some none
 ·rw [if_pos (hn.2 e), if_pos e]; refine ⟨?_, fun x k hx => ?_⟩
  ·dsimp only;unfold O5;rw[List.map_set]
   rfl
  ·dsimp only at hx;by_cases FB:u=x
   ·subst FB
    have hu:u<p.1.length:=by
     rcases Nat.lt_or_ge u p.1.length with h| h
     ·exact h
     ·rw[List.getElem?_eq_none h] at e;cases e
    rw[List.getElem?_set_self hu] at hx;cases hx;exact ht
   ·rw[List.getElem?_set_ne FB] at hx;exact h x k hx
 ·rw[if_neg (fun e2=>e (hn.1 e2)),if_neg e];exact⟨rfl,h⟩
theorem Uq {t:Nat}(ht:t+1<nv):∀(l:List Nat) {p:Ds×Bool},UE p.1->l.foldl (Nq t) (O5 p.1,p.2)=(O5 (l.foldl (Oc t) p).1,(l.foldl (Oc t) p).2)/\UE (l.foldl (Oc t) p).1
 |[],p,h=>⟨rfl,h⟩
 | u :: l, p, h => by
   obtain⟨h1,h2⟩:=z0x ht h u;rw[List.foldl_cons,List.foldl_cons,h1];exact Uq ht l h2
theorem z5C {d:Ds}{t:Nat}(ht:t+1<nv)(v:Nat):(O5 d)[v]? =some t↔dF d v=some t:=by
 rw[U0]
 unfold dF
 cases e:d[v]? with
 |none=>simp
 | some o =>
   cases o with
   |none=>simp[dN];omega
   |some k=>simp[dN]
theorem ZO {t:Nat}(ht:t+1<nv)(g:List (List Nat)):∀(l:List Nat) {p:Ds×Bool},UE p.1->l.foldl (PS t g) (O5 p.1,p.2)=(O5 (l.foldl (Qu t g) p).1,(l.foldl (Qu t g) p).2)/\UE (l.foldl (Qu t g) p).1
 |[],p,h=>⟨rfl,h⟩
 | v :: l, p, h => by
   have h3:=z5C (d:=p.1) ht v;have h4:=Uq ht (L9 g v) h;rw[List.foldl_cons,List.foldl_cons]
   have e:PS t g (O5 p.1,p.2) v=(O5 (Qu t g p v).1,(Qu t g p v).2)/\UE (Qu t g p v).1:=by
    unfold PS Qu;by_cases e:dF p.1 v=some t
    ·rw[if_pos (h3.2 e),if_pos e];exact h4
    ·rw[if_neg (fun e2=>e (h3.1 e2)),if_neg e];exact⟨rfl,h⟩
   rw[e.1];exact ZO ht g l e.2
end Go.Proofs.YtpldpcjdjcgicaaGreatDoor
