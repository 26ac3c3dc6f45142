/- Merged by program. -/
import Derived.Test.YtffbidffdbpcoaaGreatDoorZk6
import Derived.Shelf.Strings.Repeat
import Derived.Test.YtffbidffdbpcoaaGreatDoorProg
import Derived.Room.AppendFits
import Derived.Lib.UnsafeStr
set_option linter.all false
set_option maxRecDepth 1000000
set_option maxHeartbeats 16000000
namespace Go.Proofs.YtffbidffdbpcoaaGreatDoor
open Go Go.RowKit Go.Proofs.Tryz
def Sp (Q:Sj)(txt:Int->PV)(K:Nat)(X:Nat->Prop)(w:World):Prop:=∃P,VF w P/\Xt P txt K/\Q.Same P/\∀b,P.fp b->¬X b
section
variable {w w':World}{Q Q' P P':Sj}{X Y S':Nat->Prop}{txt txt':Int->PV}{K K':Nat}
theorem Sp.step (h:Sp Q txt K X w)(hk:Kp S' w w')(hS:∀b,S' b->X b)(hY:∀b,Y b->X b\/w.heap.size<=b):Sp Q txt K Y w':=by
 obtain⟨P,hm,hI,hs,hf⟩:=h
 refine⟨P,hm.kp hk λb hb e=>hf b hb (hS b e),hI,hs,λb hb e=>?_⟩
 rcases hY b e with e| e
 ·exact hf b hb e
 ·have:=hm.lt hb;omega
theorem Sp.ext (h:Sp Q txt K X w)(hx:Ext w w')(hY:∀b,Y b->X b\/w.heap.size<=b):Sp Q txt K Y w':=h.step (S':=λ_=>False) hx (λ_ e=>e.elim) hY
def Sp.ext' (h:Sp Q txt K X w)(hx:Ext w w'):Sp Q txt K X w':=h.ext hx λ_ e=> .inl e
def Sp.own (h:Sp Q txt K X w)(hk:Kp S' w w')(hS:∀b,S' b->X b):Sp Q txt K X w':=h.step hk hS λ_ e=> .inl e
def Sp.of (hf:∀b,P.fp b->¬X b)(hX:∀b,X b->b<w.heap.size)(hr:VJ w P w' P')(hI:Xt P' txt' K')(hs:Q'.Same P'):Sp Q' txt' K' X w'/\Kp (λb=>¬X b) w w':=
 ⟨⟨P',hr.m,hI,hs,λb hb e=>by
  rcases hr.fp b hb with h| h
  ·exact hf b h e
  ·have:=hX b e;omega⟩,hr.k.PU hf⟩
def Xt.more (h:Xt P txt K)(hK:K<=K'):Xt P txt K':=by
 obtain⟨a1,a2,a3,a4,a5,a6,a7,a8,a9,b1,b2,b3,b4,b5,b6,b7⟩:=h
 exact⟨a1,a2,a3,a4,a5,a6,a7,a8,a9,b1,b2,b3,b4,ω,ω,b7⟩
theorem Sp.more (h:Sp Q txt K X w)(hK:K<=K'):Sp Q txt K' X w:=by
 obtain⟨P,hm,hI,hs,hf⟩:=h
 exact⟨P,hm,hI.more hK,hs,hf⟩
theorem Sp.less (h:Sp Q txt K X w)(hY:∀b,Y b->X b):Sp Q txt K Y w:=by
 obtain⟨P,hm,hI,hs,hf⟩:=h
 exact⟨P,hm,hI,hs,λb hb e=>hf b hb (hY b e)⟩
theorem Sp.size (h:Sp Q txt K X w):Qu prog 49 [ptr Q.s 0] w λv w'=>v=I 512/\w'=w:=by
 obtain⟨P,hm,hI,hs,-⟩:=h
 rw[<-hs.s]
 exact z1W hm hI.N
theorem Sp.dev (h:Sp Q txt K X w):Qu prog 124 [ptr Q.s 0] w λv w'=>v=ptr Q.d 0/\w'=w:=by
 obtain⟨P,hm,hI,hs,-⟩:=h
 rw[<-hs.s,<-hs.d]
 exact zaf hm
theorem Sp.blocks (h:Sp Q txt K X w):Qu prog 125 [ptr Q.d 0] w λv w'=>v=I (Q.L.length:Int)/\w'=w:=by
 obtain⟨P,hm,hI,hs,-⟩:=h
 have hb:=XD hm.dev
 rw[hI.B] at hb
 rw[<-hs.d,<-hs.L]
 exact hb
theorem Sp.map (h:Sp Q txt K X w):Qu prog 27 [ptr Q.s 0] w λv w'=>v=ptr Q.m 0/\w'=w:=by
 obtain⟨P,hm,hI,hs,-⟩:=h
 rw[<-hs.s,<-hs.m]
 exact zb2 hm
theorem Sp.room (h:Sp Q txt K X w){a:Nat}(hp:Pre Q.L a)(ha:a<Q.L.length):Qu prog 25 [ptr Q.m 0] w λv w'=>v=I ((Q.L.length-a:Nat):Int)/\Ext w w':=by
 obtain⟨P,hm,hI,hs,-⟩:=h
 rw[<-hs.m]
 rw[<-hs.L] at hp ha⊢
 exact z7l hm.ext hp ha
theorem Sp.z0s (h:Sp Q txt K X w){x:Int}(h0:0<=x)(h1:x<(Q.L.length:Int)):(txt x).length=512:=by
 obtain⟨P,hm,hI,hs,-⟩:=h
 exact hI.len x h0 (by rw[hs.L];exact h1)
theorem Sp.n (h:Sp Q txt K X w):Q.L.length<=4096:=by
 obtain⟨P,hm,hI,hs,-⟩:=h
 rw[<-hs.L]
 exact hm.ext.n
theorem Sp.read (h:Sp Q txt K X w)(hX:∀b,X b->b<w.heap.size)(hK:K<1000000000000){no:Int}(h0:0<=no)(h1:no<(Q.L.length:Int)):Qu prog 68 [ptr Q.s 0,I no] w λv w'=>v= .tuple #[S (txt no),I 0]/\Sp Q txt K X w'/\Kp (λb=>¬X b) w w':=by
 obtain⟨P,hm,hI,hs,hf⟩:=h
 rw[<-hs.s]
 refine(z7W hm hI hK h0 (by rw[hs.L];exact h1)).mono λv w' ⟨hv,P',hr,tt,rJ⟩=>⟨hv,Sp.of hf hX hr tt (hs.trans rJ)⟩
theorem Sp.write (h:Sp Q txt K X w)(hX:∀b,X b->b<w.heap.size)(hK:K<1000000000000){no:Int}(h0:0<=no)(h1:no<(Q.L.length:Int))(t:PV)(ht:t.length=512):Qu prog 82 [ptr Q.s 0,I no,S t] w λv w'=>v=I 0/\Sp Q (z0z txt no (some t)) (K+1) X w'/\Kp (λb=>¬X b) w w':=by
 obtain⟨P,hm,hI,hs,hf⟩:=h
 rw[<-hs.s]
 refine(zai hm hI hK h0 (by rw[hs.L];exact h1) t ht).mono λv w' ⟨hv,P',hr,tt,rJ⟩=>⟨hv,Sp.of hf hX hr tt (hs.trans rJ)⟩
def Sj.Rx (Q:Sj)(L:List Bool):Sj:={Q with L:=L}
theorem Sj.Same.Rx (h:Q.Same P)(L:List Bool):(Q.Rx L).Same {P with L:=L}:=⟨h.s,h.d,h.m,h.gi,h.c,h.pm,h.p,h.fr,rfl⟩
theorem Sp.take (h:Sp Q txt K X w)(hX:∀b,X b->b<w.heap.size){a n:Nat}(hp:Pre Q.L a)(dl:1<=n)(qd:a+n<=Q.L.length):Qu prog 50 [ptr Q.s 0,I (n:Int)] w λv w'=>v= .tuple #[.agg #[I (a:Int),I (n:Int)],I 0]/\Sp (Q.Rx (Rn Q.L a n true)) txt K X w'/\Kp (λb=>¬X b) w w':=by
 obtain⟨P,hm,hI,hs,hf⟩:=h
 rw[<-hs.s]
 rw[<-hs.L] at hp qd
 refine(z6X hm hp dl qd).mono λv w' ⟨hv,hr⟩=>⟨hv,?_⟩
 rw[<-hs.L]
 exact Sp.of hf hX hr (hI.Rx (by rw[R5 qd])) (hs.Rx _)
theorem Sp.zlD (h:Sp Q txt K X w)(hX:∀b,X b->b<w.heap.size){s n:Nat}(dl:1<=n)(dy:2<=s)(jj:s+n<=Q.L.length)(hc:∀i,s<=i->i<s+n->Q.L[i]? =some true):Qu prog 58 [ptr Q.s 0,.agg #[I (s:Int),I (n:Int)]] w λv w'=>v=I 0/\∃txt',Sp (Q.Rx (Rn Q.L s n false)) txt' K X w'/\(∀x:Int,x<(s:Int)\/(s:Int)+(n:Int)<=x->txt' x=txt x)/\Kp (λb=>¬X b) w w':=by
 obtain⟨P,hm,hI,hs,hf⟩:=h
 rw[<-hs.s]
 rw[<-hs.L] at jj hc
 refine(z71 hm hI dl dy jj hc).mono λv w' ⟨hv,P',txt',hr,tt,jm,rJ⟩=>⟨hv,txt',?_⟩
 obtain⟨h1,h2⟩:=Sp.of hf hX hr tt ((hs.trans rJ).Rx _)
 rw[<-hs.L]
 exact⟨h1,jm,h2⟩
end
open Go.Proofs Go.Shelf
def z6a:Go.Shelf.Ren:=⟨fun|105=>61|212=>93|99=>94|165=>95|166=>69|170=>96|169=>70|263=>135|264=>136|206=>137|240=>110|241=>138|276=>146|277=>169|n=>n,fun|9=>9|3=>3|4=>4|20=>20|0=>0|46=>157|109=>191|5=>5|72=>160|76=>164|51=>59|146=>236|53=>39|148=>238|70=>158|37=>93|75=>163|127=>206|164=>249|80=>166|n=>n,fun|n=>n⟩
def zh6:Go.Proofs.Lays.n105 prog z6a:={
 mixed:=by kernel_rfl
 f99:=func94.trans (congrArg some (by kernel_rfl))
 f105:=func61.trans (congrArg some (by kernel_rfl))
 f165:=func95.trans (congrArg some (by kernel_rfl))
 f166:=func69.trans (congrArg some (by kernel_rfl))
 f169:=func70.trans (congrArg some (by kernel_rfl))
 f170:=func96.trans (congrArg some (by kernel_rfl))
 f206:=func137.trans (congrArg some (by kernel_rfl))
 f212:=func93.trans (congrArg some (by kernel_rfl))
 f240:=func110.trans (congrArg some (by kernel_rfl))
 f241:=func138.trans (congrArg some (by kernel_rfl))
 f263:=func135.trans (congrArg some (by kernel_rfl))
 f264:=func136.trans (congrArg some (by kernel_rfl))
 f276:=func146.trans (congrArg some (by kernel_rfl))
 f277:=func169.trans (congrArg some (by kernel_rfl))
 t0:=underlying0
 a0:=isAgg0
 z0:=sizeOf0
 v0:=zeroValue0
 t3:=underlying3
 a3:=isAgg3
 z3:=sizeOf3
 v3:=zeroValue3
 t4:=underlying4
 a4:=isAgg4
 z4:=sizeOf4
 v4:=zeroValue4
 t5:=underlying5
 a5:=isAgg5
 z5:=sizeOf5
 v5:=zeroValue5
 t9:=underlying9
 a9:=isAgg9
 z9:=sizeOf9
 v9:=zeroValue9
 t20:=underlying20
 a20:=isAgg20
 z20:=sizeOf20
 v20:=zeroValue20
 t37:=underlying93
 a37:=isAgg93
 z37:=sizeOf93
 v37:=zeroValue93
 t46:=underlying157
 a46:=isAgg157
 z46:=sizeOf157
 v46:=zeroValue157
 t51:=underlying59
 a51:=isAgg59
 z51:=sizeOf59
 v51:=zeroValue59
 t53:=underlying39
 a53:=isAgg39
 z53:=sizeOf39
 v53:=zeroValue39
 t70:=underlying158
 a70:=isAgg158
 z70:=sizeOf158
 v70:=zeroValue158
 t72:=underlying160
 a72:=isAgg160
 z72:=sizeOf160
 v72:=zeroValue160
 t75:=underlying163
 a75:=isAgg163
 z75:=sizeOf163
 v75:=zeroValue163
 t76:=underlying164
 a76:=isAgg164
 z76:=sizeOf164
 v76:=zeroValue164
 t109:=underlying191
 a109:=isAgg191
 z109:=sizeOf191
 v109:=zeroValue191
 t127:=underlying206
 a127:=isAgg206
 z127:=sizeOf206
 v127:=zeroValue206
 t146:=underlying236
 a146:=isAgg236
 z146:=sizeOf236
 v146:=zeroValue236
 t148:=underlying238
 a148:=isAgg238
 z148:=sizeOf238
 v148:=zeroValue238
 t164:=underlying249
 a164:=isAgg249
 z164:=sizeOf249
 v164:=zeroValue249}
/-! ### A builder of strings -/
def zgZ:Builder.Extra prog z6a where
 sizeBuilder:=by kernel_rfl
 liesBuilder:=by kernel_rfl
 t5:=by kernel_rfl
 a5:=λ_=>by kernel_rfl
 z5:=λ_=>by kernel_rfl
 v5:=λw=>TI.zero (w:=w) Y7
 infoByte:=by kernel_rfl
 cellsByte:=by kernel_rfl
 sizeByte:=by kernel_rfl
 neB5:=by decide
section
end
theorem z8A (l:PV):∀n,Lib.repeatL l n=(List.replicate n l).flatten
 |0=>rfl
 |n+1=>by rw[Lib.repeatL,z8A l n];rfl
def z0n (l:PV)(n:Nat)(hl:l.length<=100)(hn:n<=1000000)(w:World):Qu prog 61 [S l,I (n:Int)] w λv w'=>v=S (List.replicate n l).flatten/\Ext w w':=by
 have h2:n*l.length<=1000000*100:=Nat.mul_le_mul hn hl
 have:=Any.strings_Repeat zh6 zgZ ⟨l.toArray⟩ n w ω (by rw[Ub,Nat.mul_comm];omega)
 refine Calls.mono this λ_ _ ⟨he,hw⟩=>⟨_,he,?_,Ext.zdl hw⟩
 show Value.string ⟨(Lib.repeatL l n).toArray⟩=_
 rw[z8A]
def Vg (w n:Nat):PV:=(List.range w).map λk=>UInt8.ofNat (n / 2^(8*(w-1-k)))
theorem QQ (w n:Nat):(Vg w n).length=w:=by simp[Vg]
theorem zcJ (w n:Nat):Vg (w+1) n=UInt8.ofNat (n / 2^(8*w))::Vg w n:=by
 unfold Vg
 rw[List.range_succ_eq_map,List.map_cons,List.map_map]
 congr 1
 refine List.map_congr_left λk hk=>?_
 show UInt8.ofNat (n / 2^(8*(w+1-1-(k+1))))=_
 rw[show w+1-1-(k+1)=w-1-k by omega]
theorem z0x:∀(w n:Nat),Qm (Vg w n)=Qr (8*w) n
 |0,n=>rfl
 | w + 1, n => by
   rw[zcJ,UU,z0x w n,show 8*(w+1)=8+8*w by omega,Td]
   congr 1
   refine XS ?_;have:(UInt8.ofNat (n / 2^(8*w))).toNat=n / 2^(8*w)%256:=by simp
   rw[this];omega
theorem z1R {w n:Nat}(h:n<2^(8*w)):QL (Qm (Vg w n))=n:=by
 rw[z0x,Rk,Nat.mod_eq_of_lt h]
def z9k (s:PV):Vg s.length (QL (Qm s))=s:=by
 have h1:Qm (Vg s.length (QL (Qm s)))=Qm s:=by
  rw[z0x];have:=z2Q (Qm s);rw[bitsT_length] at this;exact this
 have inj:∀a b:PV,a.length=b.length->Qm a=Qm b->a=b:=λa=>by
  induction a with
  | nil => intro b hb _; cases b with
    |nil=>rfl
    |cons=>cases hb
  | cons c a ih =>
    intro b hb he
    cases b with
    |nil=>cases hb
    | cons d b =>
      rw[UU,UU] at he;obtain⟨e1,e2⟩:=List.append_inj he (by rw[bitsN_length,bitsN_length]);rw[ih b (by simpa using hb) e2]
      congr 1
      have:=congrArg QL e1;rw[Rk,Rk] at this;have h3:=c.toNat_lt;have h4:=d.toNat_lt;exact UInt8.toNat_inj.1 ω
 exact inj _ _ (QQ _ _) h1
def Laid (txt:Int->PV)(a:Nat)(T:PV):Prop:=∀k,512*k<T.length->(txt ((a+k:Nat):Int)).take (T.length-512*k)=(T.drop (512*k)).take 512
section
variable {txt txt':Int->PV}{a n:Nat}{T:PV}
def Laid.piece (h:Laid txt a T){off n:Nat}(h1:off+n<=T.length)(h2:n<=512-off%512):((txt ((a+off / 512:Nat):Int)).drop (off%512)).take n=(T.drop off).take n:=by
 by_cases hn:n=0
 ·subst hn;simp
 have hk:=h (off / 512) ω
 have e:=congrArg (λl=>(l.drop (off%512)).take n) hk
 try dsimp only at e
 rw[List.drop_take,List.take_take,Nat.min_eq_left ω,List.drop_take,List.take_take,List.drop_drop,Nat.min_eq_left ω,show 512*(off / 512)+off%512=off by omega] at e
 exact e
def Laid.Vr (h:Laid txt a T)(e:∀k,512*k<T.length->txt' ((a+k:Nat):Int)=txt ((a+k:Nat):Int)):Laid txt' a T:=λk hk=>by rw[e k hk];exact h k hk
def Laid.of (h:∀k,512*k<T.length->(txt ((a+k:Nat):Int)).length=512/\∃r,txt ((a+k:Nat):Int)=(T.drop (512*k)).take 512++r):Laid txt a T:=λk hk=>by
 obtain⟨hl,r,e⟩:=h k hk
 have h1:((T.drop (512*k)).take 512).length=min 512 (T.length-512*k):=by simp
 rw[e,List.length_append,h1] at hl
 rw[e]
 by_cases hc:T.length-512*k<=512
 ·exact List.take_left' (by rw[h1];omega)
 ·have:r=[]:=List.eq_nil_of_length_eq_zero ω;rw[this,List.append_nil,List.take_of_length_le (by rw[h1];omega)]
end
def VcT (txt:Int->PV)(st width each:Nat)(xs:List Nat):Prop:=∀i x,xs[i]? =some x->((txt ((st+i / each:Nat):Int)).drop (i%each*width)).take width=Vg width x/\x<2^(8*width)
theorem z36 (a b c:PV){k n:Nat}(hn:k+n<=a.length):((a++b++c).drop k).take n=(a.drop k).take n:=by
 rw[List.append_assoc,List.drop_append_of_le_length ω,List.take_append_of_le_length (by rw[List.length_drop];omega)]
section
variable {txt txt':Int->PV}{st width each:Nat}{xs:List Nat}
def VcT.Vr (h:VcT txt st width each xs)(e:∀i,i<xs.length->txt' ((st+i / each:Nat):Int)=txt ((st+i / each:Nat):Int)):VcT txt' st width each xs:=λi x hx=>by
 have hi:i<xs.length:=by
  rcases Nat.lt_or_ge i xs.length with h| h
  ·exact h
  ·rw[List.getElem?_eq_none h] at hx;cases hx
 rw[e i hi]
 exact h i x hx
theorem VcT.set (h:VcT txt st width each xs)(he:1<=each){i x:Nat}(hx:x<2^(8*width))(hi:i<xs.length){t:PV}(ht:txt ((st+i / each:Nat):Int)=t)(hl:i%each*width+width<=t.length):VcT (z0z txt ((st+i / each:Nat):Int) (some (t.take (i%each*width)++Vg width x++t.drop (i%each*width+width)))) st width each (xs.set i x):=λj y hy=>by
 by_cases hb:j / each=i / each
 ·rw[hb,Tk];show((t.take (i%each*width)++Vg width x++t.drop (i%each*width+width)).drop (j%each*width)).take width=_/\_;have aR:(t.take (i%each*width)).length=i%each*width:=by rw[List.length_take];omega
  by_cases hH:j=i
  ·subst hH;rw[List.getElem?_set_self hi] at hy;cases hy;refine⟨?_,hx⟩;rw[List.append_assoc,List.drop_left' aR,List.take_left' (QQ _ _)]
  ·rw[List.getElem?_set_ne (λe=>hH e.symm)] at hy;obtain⟨h1,h2⟩:=h j y hy;refine⟨?_,h2⟩;rw[hb,ht] at h1;rw[<-h1];have uR:=Nat.div_add_mod i each;have nX:=Nat.div_add_mod j each;rw[hb] at nX;have bE:j%each≠i%each:=λe=>hH ω;rcases Nat.lt_or_gt_of_ne bE with mJ|Pn
   ·have hm:(j%each+1)*width<=i%each*width:=Nat.mul_le_mul_right _ ω;rw[Nat.add_mul,Nat.one_mul] at hm;rw[z36 _ _ _ ω,List.drop_take,List.take_take,Nat.min_eq_left ω]
   ·have hm:(i%each+1)*width<=j%each*width:=Nat.mul_le_mul_right _ ω;rw[Nat.add_mul,Nat.one_mul] at hm;rw[List.drop_append,List.drop_of_length_le (by rw[List.length_append,aR,QQ];omega),List.nil_append,List.length_append,aR,QQ,List.drop_drop,show i%each*width+width+(j%each*width-(i%each*width+width))=j%each*width by omega]
 ·have hH:j≠i:=λe=>hb (by rw[e]);rw[List.getElem?_set_ne (λe=>hH e.symm)] at hy;rw[SD _ _ ω];exact h j y hy
def z2F {l z:PV}{w:Nat}(hl:l.length=w):∀(e k:Nat),k<e->(((List.replicate e l).flatten++z).drop (k*w)).take w=l
 |0,k,h=>by omega
 | e + 1, 0, h => by
   rw[Nat.zero_mul,List.drop_zero,List.replicate_succ,List.flatten_cons,List.append_assoc]
   exact List.take_left' hl
 | e + 1, k + 1, h => by
   rw[List.replicate_succ,List.flatten_cons,List.append_assoc,List.drop_append,List.drop_of_length_le (by rw[hl,Nat.add_mul];omega),List.nil_append,hl,Nat.add_mul,Nat.one_mul,Nat.add_sub_cancel];exact z2F hl e k ω
theorem VcT.fill {n x:Nat}(hx:x<2^(8*width))(he:1<=each)(h:∀i,i<n->∃z,txt ((st+i / each:Nat):Int)=(List.replicate each (Vg width x)).flatten++z):VcT txt st width each (List.replicate n x):=λi y hy=>by
 rw[List.getElem?_replicate] at hy
 split at hy
 ·rename_i hi
  cases hy;obtain⟨z,e⟩:=h i hi;rw[e];exact⟨z2F (QQ _ _) each _ (Nat.mod_lt _ he),hx⟩
 ·cases hy
theorem VcT.block (h:VcT txt st width each xs){b:Nat}(hl:each*width<=(txt ((st+b:Nat):Int)).length):∀m,m<=each->b*each+m<=xs.length->(txt ((st+b:Nat):Int)).take (m*width)=((xs.drop (b*each)).take m).flatMap (Vg width)
 |0,_,_=>by simp
 | m + 1, hm, hx => by
   have ih:=h.block hl m ω ω;have aR:b*each+m<xs.length:=by omega
   have h1:=(h (b*each+m) xs[b*each+m] (List.getElem?_eq_getElem aR)).1;have dZ:(m+1)*width<=each*width:=Nat.mul_le_mul_right _ hm;rw[Nat.add_mul,Nat.one_mul] at dZ;rw[show(b*each+m) / each=b from by rw[Nat.mul_comm,Nat.mul_add_div ω,Nat.div_eq_of_lt ω,Nat.add_zero],show(b*each+m)%each=m from by rw[Nat.mul_comm,Nat.mul_add_mod,Nat.mod_eq_of_lt ω]] at h1
   have h2:(xs.drop (b*each)).take (m+1)=(xs.drop (b*each)).take m++[xs[b*each+m]]:=by
    rw[List.take_add_one,List.getElem?_drop,List.getElem?_eq_getElem aR];rfl
   rw[h2,List.flatMap_append,<-ih,Nat.add_mul,Nat.one_mul,List.take_add,h1];simp
def SF (width:Nat)(xs:List Nat):PV:=xs.flatMap (Vg width)
def YY (width n:Nat)(s:PV):List Nat:=(List.range n).map λi=>QL (Qm ((s.drop (i*width)).take width))
def z4t (width n:Nat)(s:PV):(YY width n s).length=n:=by simp[YY]
theorem RD (width:Nat):∀xs:List Nat,(SF width xs).length=xs.length*width
 |[]=>by simp[SF]
 | x :: xs => by
   have:=RD width xs;unfold SF at*;rw[List.flatMap_cons,List.length_append,QQ,this,List.length_cons,Nat.add_mul];omega
def Xh {width:Nat}:∀{xs:List Nat},(∀x∈xs,x<2^(8*width))->YY width xs.length (SF width xs)=xs
 |[],_=>rfl
 | x :: xs, h => by
   have ih:=Xh (xs:=xs) λy hy=>h y (List.mem_cons_of_mem _ hy);unfold YY SF at*;rw[List.length_cons,List.range_succ_eq_map,List.map_cons,List.map_map,List.flatMap_cons]
   congr 1
   ·rw[Nat.zero_mul,List.drop_zero,List.take_left' (QQ _ _),z1R (h x List.mem_cons_self)]
   ·conv=>rhs;rw[<-ih]
    refine List.map_congr_left λi _=>?_;show QL (Qm (List.take width (List.drop ((i+1)*width) _)))=_;rw[Nat.add_mul,Nat.one_mul,List.drop_append,List.drop_of_length_le (by rw[QQ];omega),List.nil_append,QQ,Nat.add_sub_cancel]
def VcT.load {n:Nat}{s:PV}(hs:s.length=n*width)(he:1<=each)(h:∀i,i<n->∃z,txt ((st+i / each:Nat):Int)=(s.drop (i / each*(each*width))).take (each*width)++z):VcT txt st width each (YY width n s):=λi y hy=>by
 unfold YY at hy
 rw[List.getElem?_map] at hy
 by_cases hi:i<n
 ·rw[List.getElem?_range hi] at hy;cases hy;obtain⟨z,e⟩:=h i hi;have hd:=Nat.div_add_mod i each;have N8:=Nat.mod_lt i he
  have aH:((s.drop (i*width)).take width).length=width:=by
   have:(i+1)*width<=n*width:=Nat.mul_le_mul_right _ ω;rw[Nat.add_mul,Nat.one_mul] at this;rw[List.length_take,List.length_drop,hs];omega
  have e1:i*width=i / each*(each*width)+i%each*width:=by
   rw[<-Nat.mul_assoc,<-Nat.add_mul,Nat.mul_comm (i / each)];rw[hd]
  have dZ:(i%each+1)*width<=each*width:=Nat.mul_le_mul_right _ ω;rw[Nat.add_mul,Nat.one_mul] at dZ;have au:(i+1)*width<=n*width:=Nat.mul_le_mul_right _ ω;rw[Nat.add_mul,Nat.one_mul] at au;refine⟨?_,?_⟩
  ·have hb:=z9k ((s.drop (i*width)).take width);rw[aH] at hb;rw[hb,e]
   have hc:i%each*width+width<=((s.drop (i / each*(each*width))).take (each*width)).length:=by
    rw[List.length_take,List.length_drop,hs];omega
   rw[List.drop_append_of_le_length ω,List.take_append_of_le_length (by rw[List.length_drop];omega),List.drop_take,List.take_take,List.drop_drop,Nat.min_eq_left ω,<-e1]
  ·have h1:=S9 (Qm ((s.drop (i*width)).take width));rw[bitsT_length,aH] at h1;exact h1
 ·rw[List.getElem?_eq_none (by simpa using hi)] at hy;cases hy
end
def z2Y (n wd k:Nat):List Value:=(List.range wd).map λi=>if i<k then U8 (UInt8.ofNat (n / 2^(8*(wd-1-i)))) else .int .u8 0
@[simp] theorem beTo_length (n wd k:Nat):(z2Y n wd k).length=wd:=by simp[z2Y]
theorem z3q (n wd:Nat):z2Y n wd 0=List.replicate wd (.int .u8 0):=by
 apply List.ext_getElem<;>simp[z2Y]
theorem z5z (n wd:Nat):z2Y n wd wd=(Vg wd n).map U8:=by
 simp only[z2Y,Vg,List.map_map]
 apply List.map_congr_left
 intro i hi
 rw[if_pos (by simpa using hi)];rfl
theorem z6D (n wd k:Nat)(h:k<wd):(z2Y n wd k).set (0+k*1) (.int .u8 ((n / 2^(8*(wd-1-k))%256:Nat):Int))=z2Y n wd (k+1):=by
 apply List.ext_getElem
 ·simp
 ·intro j h1 h2;have hj:j<wd:=by simpa using h2
  simp only[z2Y,List.getElem_set,List.getElem_map,List.getElem_range];by_cases ry:j=k
  ·subst ry;simp[U8]
  ·rw[if_neg ω];by_cases aR:j<k
   ·rw[if_pos aR,if_pos ω]
   ·rw[if_neg aR,if_neg ω]
def z19 (n wd:Nat)(w:World)(hn:n<18446744073709551616)(kw:wd<=8):Qu prog 86 [Qg n,I (wd:Int)] w λv w'=>v=S (Vg wd n)/\Ext w w':=by
 have fF:maxLen=9223372036854775807:=rfl
 refine py (e:=[(0,_),(1,_)]) func86 O ntmps86 O O$ qN O$ RZ O$ PY O O (pmk (c:=wd) (n:=wd) Tr Y7 O O O ω ω ω) ?_
 rintro _ w1 ⟨b1,rfl,⟨bL,ad,ai⟩,-⟩
 refine Qc O$ QS O$ SR Tr O$ Q4 O$ PQ$ PS ?_
 rw[<-z3q n wd] at ai
 refine SK (α:=Nat) (0) (λk=>[(0,Qg n),(1,I (wd:Int)),(5,.slice (some ⟨b1,0,none⟩) wd wd),(10,I (wd:Int)),(11,I (k:Int))]) (λk w'=>k<=wd/\Q7 w' b1 (z2Y n wd k) 5/\Ext w w') (λk=>wd-k) ?hI ?hround
 case hI=>exact⟨ω,ai,ad⟩
 case hround=>
  rintro k w2 ⟨hk,ak,ae⟩ ih
  try dsimp only
  refine qN O$ RT O$ PQ$ An$ Q8 O (λaR=>?_)$ λaR=>?_
  ·have Gp:k<wd:=by omega
   refine PR$ RP$ Qx O$ Qc O$ PW O$ Qp O$ Qp O$ SA O$ Q4 O$ SA O$ qV (Xq O O ω) ?_;rw[show(8:Int)*(((wd:Int)-1)-(k:Int))=((8*(wd-1-k):Nat):Int) from by omega];refine qV (Vm (8*(wd-1-k)) (2^(8*(wd-1-k))) O O (by simp only[IntKind.bits];omega) O) ?_;refine qV (z4m O SL U5)$ qV (Rh Tr Y7 O O ω)$ Qb O (RV Y7 O O O ak (by simp;omega)) ?_;rintro w3 ⟨aw,av⟩;rw[z6D n wd k Gp] at aw;refine PQ$ PM$ PW O$ R7 O$ Q4 O$ PQ ?_;exact(ih (k+1) w3 ⟨ω,aw,ae.It av (λi hi=>by rw[hi,bL];exact Nat.le_refl _)⟩ ω).qb
  ·have:k=wd:=by omega
   subst this;rw[z5z] at ak;refine Q5 O$ Qx O$ qV (z8j (l:=Vg k n) Tr U5 U9 O ak (by rw[List.drop_zero];exact List.take_of_length_le (by rw[List.length_map,QQ];omega)) (by simp[Vg])) ?_;refine Qc O$ PO func86 O ?_;exact⟨_,rfl,rfl,ae⟩
def z3U (s:PV)(hs:s.length<=8)(w:World):Qu prog 87 [S s] w λv w'=>v=Qg (QL (Qm s))/\Ext w w':=by
 refine py (e:=[(0,_)]) func87 O ntmps87 O O$ RN O$ QS O$ PY O O (zcm U9 Tr U5 O) ?_
 rintro _ w1 ⟨b7,c7,rest,rfl,⟨mH,ad,ai⟩,Ew⟩
 refine SR Tr O$ Q4 O$ PQ$ PS$ SK (α:=Nat) (0) (λi=>[(2,Qg (QL (Qm (s.take i)))),(6,.slice (some ⟨b7,0,none⟩) s.length c7),(7,I (s.length:Int)),(8,I (i:Int))]) (λi w'=>w'=w1/\i<=s.length) (λi=>s.length-i) ?hI ?hround
 case hI=>exact⟨rfl,Nat.zero_le _⟩
 case hround=>
  rintro i w2 ⟨rfl,hi⟩ ih
  try dsimp only
  refine qN O$ RT O$ PQ$ An$ Q8 O (λh0=>?_)$ λh0=>?_
  ·obtain⟨c,hc⟩:∃c,s[i]? =some c:=⟨_,List.getElem?_eq_getElem ω⟩;have fk:=c.toNat_lt;have fJ:=z2f hc
   have aR:QL (Qm (s.take i))<72057594037927936:=by
    have h1:=S9 (Qm (s.take i));rw[bitsT_length,List.length_take] at h1;have h2:2^(8*min i s.length)<=2^56:=Nat.pow_le_pow_right ψ ω;omega
   have bq:w2.cell? ⟨b7,0+i*1,none⟩=some (U8 c):=by
    rw[ai.cell,Nat.zero_add,Nat.mul_one,List.getElem?_append_left (by rw[List.length_map];omega),List.getElem?_map,hc];rfl
   refine PR$ RP$ qN O$ qV (Rh Tr Y7 O O ω)$ qV (QF U5 O O bq) ?_
   generalize QL (Qm (s.take i))=q at fJ aR
   refine Qc O$ St O$ qV (Sr 8 256 O O ψ O)$ Q4 O$ qV ((z4x O U5 SL ψ))$ qV (z1V O O ω ω) ?_
   have pH:(q*256%18446744073709551616 |||c.toNat)=QL (Qm (s.take (i+1))):=by
    rw[fJ,Nat.mod_eq_of_lt ω,Nat.mul_comm q];exact(Nat.two_pow_add_eq_or_of_lt (i:=8) fk q).symm
   rw[pH];refine Qc O$ PM$ PW O$ R7 O$ Q4 O$ PQ ?_;exact(ih (i+1) _ ⟨rfl,ω⟩ ω).qb
  ·have dq:i=s.length:=by omega
   subst dq;rw[List.take_length];refine Q5 O$ Qx O$ Qc O$ PO func87 O ?_;exact⟨_,rfl,rfl,ad⟩
def vcC (n width each st len s:Nat)(cl:Bool):List Value:=[I (n:Int),I (width:Int),I (each:Int),I (st:Int),I (len:Int),ptr s 0,.bool cl]
def WA (n each:Nat):Nat:=max 1 ((n+each-1) / each)
structure Vn (Q:Sj)(txt:Int->PV)(vb width st:Nat)(xs:List Nat)(w:World):Prop where
 PN:Q7 w vb (vcC xs.length width (512 / width) st (WA xs.length (512 / width)) Q.s false) 143
 wd:width=1\/width=2\/width=4\/width=8
 t:VcT txt st width (512 / width) xs
 n:xs.length<=4194304
 fit:st+WA xs.length (512 / width)<=Q.L.length
def z0S {n each:Nat}(he:1<=each){i:Nat}(hi:i<n):i / each<WA n each:=by
 unfold WA
 have h1:i / each<=(n-1) / each:=Nat.div_le_div_right ω
 have h2:(n+each-1) / each=(n-1) / each+1:=by
  rw[show n+each-1=(n-1)+each by omega,Nat.add_div_right _ ω]
 omega
section
variable {w w':World}{Q Q':Sj}{txt txt':Int->PV}{vb width st:Nat}{xs ys:List Nat}{S':Nat->Prop}
theorem Vn.e (h:Vn Q txt vb width st xs w):64<=512 / width/\512 / width<=512/\512 / width*width=512/\1<=width/\width<=8:=by
 rcases h.wd with e|e|e|e<;>subst e<;>decide
def Vn.kp (h:Vn Q txt vb width st xs w)(hk:Kp S' w w')(hn:¬S' vb):Vn Q txt vb width st xs w':=⟨hk.PN h.PN hn,h.wd,h.t,h.n,h.fit⟩
theorem Vn.ext (h:Vn Q txt vb width st xs w)(hx:Ext w w'):Vn Q txt vb width st xs w':=h.kp (S':=λ_=>False) hx id
def Vn.Vr (h:Vn Q txt vb width st xs w)(e:∀y:Int,(st:Int)<=y->y<(st:Int)+(WA xs.length (512 / width):Int)->txt' y=txt y):Vn Q txt' vb width st xs w:=
 ⟨h.PN,h.wd,h.t.Vr λi hi=>by
  have:=z0S (each:=512 / width) (by have:=h.e;omega) hi
  generalize i / (512 / width)=q at this⊢
  exact e _ ω ω,h.n,h.fit⟩
theorem Vn.q (h:Vn Q txt vb width st xs w)(hs:Q'.s=Q.s)(hl:Q'.L.length=Q.L.length):Vn Q' txt vb width st xs w:=⟨by rw[hs];exact h.PN,h.wd,h.t,h.n,by rw[hl];exact h.fit⟩
def Vn.lt (h:Vn Q txt vb width st xs w):vb<w.heap.size:=h.PN.lt
def Vn.at_ (h:Vn Q txt vb width st xs w){i:Nat}(hi:i<xs.length):st+i / (512 / width)<Q.L.length/\i%(512 / width)*width+width<=512/\i / (512 / width)<WA xs.length (512 / width):=by
 obtain⟨h1,h2,h3,h4,h5⟩:=h.e
 have h6:=z0S (each:=512 / width) ω hi
 have h7:=h.fit
 have h8:(i%(512 / width)+1)*width<=512 / width*width:=Nat.mul_le_mul_right _ (Nat.mod_lt _ ω)
 rw[Nat.add_mul,Nat.one_mul] at h8
 refine⟨ω,ω,h6⟩
theorem Vn.cells (h:Vn Q txt vb width st xs w):Q7 w vb [I (xs.length:Int),I (width:Int),I ((512 / width:Nat):Int),I (st:Int),I (WA xs.length (512 / width):Int),ptr Q.s 0,.bool false] 143:=h.PN
def VcW (Q:Sj)(txt:Int->PV)(K:Nat)(X:Nat->Prop)(vb width st:Nat)(ys:List Nat)(w w':World):Prop:=
 ∃txt',Sp Q txt' K X w'/\Vn Q txt' vb width st ys w'/\(∀y:Int,y<(st:Int)\/(st:Int)+(WA ys.length (512 / width):Int)<=y->txt' y=txt y)/\Kp (λb=>¬X b) w w'
end
end Go.Proofs.YtffbidffdbpcoaaGreatDoor
namespace Go.Proofs.YtffbidffdbpcoaaGreatDoor.Sums
def bit (c:Nat):Nat:=if c%2=1 then(c / 2)^^^2197175160 else c / 2
def zfU (c:Nat):Nat:=bit (bit (bit (bit (bit (bit (bit (bit c)))))))
def byte (c:Nat)(b:UInt8):Nat:=zfU (c^^^b.toNat)
def raw (c:Nat)(l:List UInt8):Nat:=l.foldl byte c
def neg (c:Nat):Nat:=4294967295^^^c
def on (c:Nat)(l:List UInt8):Nat:=neg (raw (neg c) l)
def crc (l:List UInt8):Nat:=on 0 l
def num (l:List UInt8):Nat:=(l.getD 0 0).toNat*16777216+(l.getD 1 0).toNat*65536+(l.getD 2 0).toNat*256+(l.getD 3 0).toNat
def be4 (n:Nat):List UInt8:=[UInt8.ofNat (n / 16777216),UInt8.ofNat (n / 65536),UInt8.ofNat (n / 256),UInt8.ofNat n]
@[simp] theorem be4_length (n:Nat):(be4 n).length=4:=rfl
def head (k:UInt8)(p:List UInt8):List UInt8:=k::be4 p.length
def frame (k:UInt8)(p:List UInt8):List UInt8:=head k p++be4 (crc (head k p++p))++p
@[simp] theorem head_length (k:UInt8) (p:List UInt8):(head k p).length=5:=rfl
theorem zd0 (c:Nat):(c / 2)^^^(2197175160&&&((4294967296-(c&&&1))%4294967296))=bit c:=by
 have h1:c&&&1=c%2:=Nat.and_two_pow_sub_one_eq_mod c 1
 rw[h1]
 unfold bit
 by_cases h:c%2=1
 ·rw[if_pos h,h]
  congr 1
 ·have h0:c%2=0:=by omega
  rw[if_neg h,h0];simp
def z0a {a b:Nat}(ha:a<4294967296)(hb:b<4294967296):a^^^b<4294967296:=Nat.xor_lt_two_pow (n:=32) ha hb
def Xf {c:Nat}(h:c<4294967296):bit c<4294967296:=by
 unfold bit
 split
 ·exact z0a ω ω
 ·omega
def zcV {c:Nat}(h:c<4294967296):zfU c<4294967296:=Xf (Xf (Xf (Xf (Xf (Xf (Xf (Xf h)))))))
def z9q {c:Nat}(h:c<4294967296)(b:UInt8):byte c b<4294967296:=zcV (z0a h (by have:=b.toNat_lt;omega))
def zbI:∀(l:List UInt8) {c:Nat},c<4294967296->raw c l<4294967296
 |[],_,h=>h
 |b::l,_,h=>zbI l (z9q h b)
def z8y {c:Nat}(h:c<4294967296):neg c<4294967296:=z0a ω h
def zf3 {c:Nat}(l:List UInt8)(h:c<4294967296):on c l<4294967296:=z8y (zbI l (z8y h))
def zhb (l:List UInt8):crc l<4294967296:=zf3 l ω
theorem z8i (c:Nat)(a b:List UInt8):raw c (a++b)=raw (raw c a) b:=List.foldl_append ..
/-! ### The step is linear -/
/-! ### Linear maps, by their table -/
def iter (L:Nat->Nat):Nat->Nat->Nat
 |0,x=>x
 |n+1,x=>iter L n (L x)
/-! ### Frames -/
def z9N {n:Nat}(h:n<4294967296)(t:List UInt8):num (be4 n++t)=n:=by
 simp[num,be4]
 omega
@[simp] theorem frame_length (k:UInt8) (p:List UInt8):(frame k p).length=9+p.length:=by simp[frame];omega
/-! ### A byte that is turned is told -/
theorem getD_take (s:List UInt8)(n i:Nat)(h:i<n):(s.take n).getD i 0=s.getD i 0:=by simp[List.getD,h]
theorem TZ (s:List UInt8)(n i:Nat)(x:UInt8)(h:i≠n):(s.set n x).getD i 0=s.getD i 0:=by
 simp only[List.getD,List.getElem?_set]
 rw[if_neg (λe=>h e.symm)]
def zcb (s:List UInt8)(i:Nat)(d:UInt8):List UInt8:=s.set i (s.getD i 0^^^d)
@[simp] theorem turned_length (s:List UInt8) (i:Nat) (d:UInt8):(zcb s i d).length=s.length:=by simp[zcb]
end Go.Proofs.YtffbidffdbpcoaaGreatDoor.Sums
namespace Go.Proofs.YtffbidffdbpcoaaGreatDoor
open Go Go.RowKit Go.Proofs.Tryz
set_option linter.unusedVariables false
abbrev U (n:Nat):Value:= .int .u32 (n:Int)
def or3 (a b c d:Nat)(ha:a<256)(hb:b<256)(hc:c<256)(hd:d<256):
  a*16777216 |||b*65536=a*16777216+b*65536/\a*16777216 |||b*65536 |||c*256=a*16777216+b*65536+c*256/\a*16777216 |||b*65536 |||c*256 |||d=a*16777216+b*65536+c*256+d:=by
 have h1:a*16777216 |||b*65536=a*16777216+b*65536:=nat_join 24 _ _ ω ω
 have h2:a*16777216 |||b*65536 |||c*256=a*16777216+b*65536+c*256:=by rw[h1];exact nat_join 16 _ _ ω ω
 refine⟨h1,h2,?_⟩
 rw[h2]
 exact nat_join 8 _ _ ω ω
def zcz (c:Nat)(b:UInt8)(p:Nat)(T:TypeId)(w:World)(hB:Q7 w p [U c] T)(hc:c<4294967296):
  Qu prog 127 [U8 b,ptr p 0] w λv w'=>v= .tuple #[]/\Q7 w' p [U (Sums.byte c b)] T/\Kp (λk=>k=p) w w':=by
 have hb:=b.toNat_lt
 have hx:=Sums.z0a hc (show b.toNat<4294967296 by omega)
 refine py (e:=[(0,_),(1,_)]) func127 O ntmps127 O O$ qN O$ qV (PX RQ O O hB O)$ Q4 O$ qV ((z4x O U5 RQ ψ))$ qV (zfu O O ω ω)$ Qb O (RV Ql O O O hB ξ) ?_
 rintro w1 ⟨ai,ay⟩
 refine qM O$ Q4 O$ PQ$ PS$ SK (α:=Nat×Nat) ((0,c^^^b.toNat)) (λx=>[(0,U8 b),(1,ptr p 0),(7,I (x.1:Int))]) (λx w'=>x.1<=8/\x.2<4294967296/\Sums.iter Sums.bit (8-x.1) x.2=Sums.byte c b/\Q7 w' p [U x.2] T/\Kp (λk=>k=p) w w') (λx=>8-x.1) ?hI ?hround
 case hI=>exact⟨ω,hx,rfl,ai,ay⟩
 case hround=>
  rintro⟨k,d⟩ w2 ⟨aK,hd,hs,ak,am⟩ ih
  try dsimp only
  refine qN O$ RT O$ PQ$ An$ Q8 O (λaR=>?_)$ λaR=>?_
  ·have kE:d&&&1<4294967296:=Nat.lt_of_le_of_lt Nat.and_le_right ω;have vN:(4294967296-(d&&&1))%4294967296<4294967296:=Nat.mod_lt _ ω;have jr:2197175160&&&((4294967296-(d&&&1))%4294967296)<4294967296:=Nat.lt_of_le_of_lt Nat.and_le_left ω;refine PR$ RP$ PW O$ qV (PX RQ O O ak O)$ qV (Vm 1 2 O O ψ O)$ qV (PX RQ O O ak O)$ qV (zfH O O ω ω)$ qV (zhS O ω)$ qV (zfH O O ω ω)$ qV (zfu O O ω ω)$ Qb O (RV Ql O O O ak ξ) ?_;rintro w3 ⟨aw,av⟩;refine PQ$ PM$ PW O$ R7 O$ Q4 O$ PQ ?_;simp only[List.set_cons_zero] at aw;rw[Sums.zd0] at aw;refine(ih (k+1,Sums.bit d) w3 ⟨by dsimp only at*;omega,Sums.Xf hd,?_,aw,am.trans av⟩ (by dsimp only at*;omega)).qb;have h8:8-k=(8-(k+1))+1:=by dsimp only at*;omega
   dsimp only at hs⊢;rw[h8] at hs;exact hs
  ·refine Q5 O$ Rq func127 O ?_;have hk:k=8:=by dsimp only at*;omega
   subst hk;refine⟨_,rfl,rfl,?_,am⟩;have:d=Sums.byte c b:=hs;rw[<-this];exact ak
def zgX {l:List UInt8}{rest:List Value}{k:Nat}(h:k<l.length):(l.map U8++rest)[0+k*1]? =some (U8 (l.getD k 0)):=by
 rw[Nat.zero_add,Nat.mul_one,List.getElem?_append_left (by simpa using h)]
 simp[h,List.getD]
theorem z3h (c:Nat)(l:List UInt8)(k:Nat)(h:k<l.length):Sums.raw c (l.take (k+1))=Sums.byte (Sums.raw c (l.take k)) (l.getD k 0):=by
 rw[List.take_succ_eq_append_getElem h,Sums.z8i]
 simp[Sums.raw,List.getD,h]
def zcM (c:Nat)(l:List UInt8)(w:World)(hc:c<4294967296)(hl:l.length<=9223372036854775807):
  Qu prog 85 [U c,S l] w λv w'=>v=U (Sums.on c l)/\Ext w w':=by
 refine py (e:=[(0,_),(1,_)]) func85 O ntmps85 O O$ qN O$ PY O O (Se O O) ?_
 rintro _ w1 ⟨b1,rfl,bL,ad,ai⟩
 refine S7 O$ qV (PX RQ O O ai O)$ qV (zfC O ω)$ Qb O (RV Ql O O O ai ξ) ?_
 rintro w2 ⟨ak,am⟩
 simp only[List.set_cons_zero] at ak
 have ae:Ext w w2:=ad.It am (λi hi=>by rw[hi,bL];exact Nat.le_refl _)
 refine qM O$ qV (ymf (first:=[]) (caps:=[.tmp 2]) O O)$ Qc O$ QS O$ PY O O (zcm U9 Tr U5 O) ?_
 rintro _ w3 ⟨b3,cap,rest,rfl,⟨dP,ah,aw⟩,kF⟩
 refine SR Tr O$ Q4 O$ PQ$ PS ?_
 have bE:b3≠b1:=by have:=ak.lt;omega
 refine SK (α:=Nat×Nat) ((0,Sums.neg c)) (λx=>[(2,ptr b1 0),(5,.func (.func 127) #[] #[ptr b1 0]),(12,.slice (some ⟨b3,0,none⟩) l.length cap),(13,I (l.length:Int)),(14,I (x.1:Int))]) (λx w'=>x.1<=l.length/\x.2<4294967296/\x.2=Sums.raw (Sums.neg c) (l.take x.1)/\Q7 w' b1 [U x.2] 59/\Q7 w' b3 (l.map U8++rest) 5/\Ext w w') (λx=>l.length-x.1) ?hI ?hround
 case hI=>exact⟨ξ,Sums.z8y hc,rfl,ah.PN ak,aw,ae.trans ah⟩
 case hround=>
  rintro⟨k,d⟩ w4 ⟨hk,hd,hs,aM,aJ,aC⟩ ih;dsimp only at hk hd hs aM
  try dsimp only
  refine qN O$ RT O$ PQ$ An$ Q8 O (λaR=>?_)$ λaR=>?_
  ·have ko:k<l.length:=by omega
   refine PR$ RP$ qN O$ qV (Rh Tr Y7 O O ω)$ qV (PX U5 O O aJ (zgX ko))$ Qc O$ PW O$ Qp O$ RB O O (T6 zhC O O) (zcz d (l.getD k 0) b1 _ w4 aM hd) ?_;rintro _ w5 ⟨rfl,aY,aL⟩;refine PQ$ PM$ PW O$ R7 O$ Q4 O$ PQ ((ih (k+1,Sums.byte d (l.getD k 0)) w5 ⟨ko,Sums.z9q hd _,?_,aY,aL.PN aJ bE,aC.It aL (λi hi=>by rw[hi,bL];exact Nat.le_refl _)⟩ (by dsimp only;omega)).qb);rw[z3h _ _ _ ko,<-hs]
  ·refine Q5 O$ qN O$ qV (PX RQ O O aM O)$ qV (zfC O ω)$ Qc O$ PO func85 O (⟨_,rfl,?_,aC⟩);have kN:k=l.length:=by omega
   subst kN;rw[List.take_length] at hs;show U (Sums.neg d)=_;rw[hs]
   rfl
def z9t (l:List UInt8)(w:World)(hl:l.length<=9223372036854775807):
  Qu prog 79 [S l] w λv w'=>v=U (Sums.crc l)/\Ext w w':=by
 refine py (e:=[(0,_)]) func79 O ntmps79 O O$ qN O$ RZ O$ Qk ziz O (zcM 0 l _ ω hl) ?_
 rintro _ w1 ⟨rfl,ad⟩
 refine Qc O$ PO func79 O ?_
 exact⟨_,rfl,rfl,ad⟩
theorem z2i (s:PV):Lib.strCells ⟨s.toArray⟩=s.map U8:=by simp[Lib.strCells,U8]
section
variable {P:Program}{e:Env}{d:Option Nat}{ty t tu tn el:TypeId}{pos:String}{aft:Array Edge}{g:Option (Nat×Bool)}{x y:Operand}{w w':World}{n k:Nat}{v:Value}{cs:List Value}{s:PV}{kn:IntKind}{za:Int}
def z6C (ht:P.underlying t=some (.slice el))(hu:P.underlying tu=some .string)(hs:TI P el (.int .u8 0) 1 1)(hv:Sl w v el 1 n cs)(hb:n+s.length<=140737488355328):
  ∃v' w',(Builtin.append_ #[t,tu] ty #[v,S s]).run P w= .ok v' w'/\Sl w' v' el 1 (n+s.length) (cs++s.map U8)/\Kp (λk=>v.ownBlock=some k) w w'/\(∀g,v'.ownBlock=some g->v.ownBlock=some g\/w.heap.size<=g):=by
 have fF:maxLen=9223372036854775807:=rfl
 obtain⟨i,hi,ql,kC,ss⟩:=hs
 have e1:=Ub s
 have e2:=z2i s
 rcases id hv.2 with⟨rfl,rfl⟩|⟨g,cap,cur,rfl,JE,hg,jZ,nO,gh,JF⟩
 ·have hx:cs=[]:=List.eq_nil_of_length_eq_zero (by simpa using hv.1);subst hx;obtain⟨v',w',hr,ho,hg,-⟩:=Lib.run_append_own_string (P:=P) w w.heap.size t tu ty el i ht hu hi ql kC ss (.slice none 0 0) 0 [] (World.ownsRow_nil w w.heap.size el 1) ⟨s.toArray⟩ (by rw[e1];omega) (by rw[e1];exact hb) (Nat.le_refl _);rw[e1,e2] at ho;refine⟨v',w',hr,⟨ho.1,?_⟩,Kp.VR hg,λg hg=> .inr (World.ownsRow.lt ho g hg).1⟩;rcases ho.2 with N9|⟨g,cap2,cur2,nH,bO,dv⟩
  ·exact .inl N9
  ·exact .inr ⟨g,cap2,cur2,nH,Nat.zero_le _,dv⟩
 ·by_cases fd:n+s.length<=cap
  ·by_cases hc:0<cap
   ·obtain⟨w',hr,ho,cU⟩:=Lib.run_append_fits_string (P:=P) w 0 t tu ty el i ht hu hi kC (some ⟨g,0,none⟩) n cap cs hv ⟨s.toArray⟩ hc (by rw[e1];exact fd);rw[e1,e2] at ho;rw[e1] at hr;exact⟨_,w',hr,ho,Kp.VR cU,λg' cU=> .inl (by simpa[Value.ownBlock] using cU)⟩
   ·obtain⟨v',w',hr,ho,cU,-⟩:=Lib.run_append_own_string (P:=P) w 0 t tu ty el i ht hu hi ql kC ss (.slice (some ⟨g,0,none⟩) n cap) n cs hv ⟨s.toArray⟩ (by rw[e1];omega) (by rw[e1];exact hb) (Nat.zero_le _);have AM:s=[]:=List.eq_nil_of_length_eq_zero ω;subst AM;have dv:=Lib.run_append_room_string (P:=P) w t tu ty el i ht hu hi kC g n cap cur hg ⟨[].toArray⟩ (by rw[e1];exact fd) (by rw[e1];simp only[Nat.mul_one] at gh;simp only[List.length_nil];omega);rw[dv] at hr;cases hr;rw[e1,e2] at ho;exact⟨_,_,dv,ho,Kp.VR cU,λg' cU=> .inl (by simpa[Value.ownBlock] using cU)⟩
  ·obtain⟨v',w',hr,ho,cU,-⟩:=Lib.run_append_own_string (P:=P) w 0 t tu ty el i ht hu hi ql kC ss (.slice (some ⟨g,0,none⟩) n cap) n cs hv ⟨s.toArray⟩ (by rw[e1];omega) (by rw[e1];exact hb) (Nat.zero_le _);have dv:=Lib.run_append_grow_string (P:=P) w t tu ty el i (.int .u8 0) ht hu hi ql ⟨g,0,none⟩ n cap cs (by rw[kC];exact hv.1) (World.ownsRow.cells hv (g:=g) O) ⟨s.toArray⟩ (by rw[e1];omega) (by rw[e1];omega) (by rw[e1];exact growslice_fits ω (by rw[ss];omega));rw[dv] at hr;cases hr;rw[e1,e2] at ho;refine⟨_,_,dv,by rw[<-e1] at ho⊢;exact ho,Kp.VR cU,λg' cU=> .inr ?_⟩;simp[Value.ownBlock] at cU;omega
def zks (ht:P.underlying t=some (.slice el))(hu:P.underlying tu=some .string)(hs:TI P el (.int .u8 0) 1 1)(hx:look e x=some v)(hy:look e y=some (S s))(hv:Sl w v el 1 n cs)(hb:n+s.length<=140737488355328):
  Yp P e ⟨d,.call ⟨.builtin .append,#[x,y],#[t,tu]⟩,ty,pos,aft,g⟩ w λv' w'=>Sl w' v' el 1 (n+s.length) (cs++s.map U8)/\Kp (λk=>v.ownBlock=some k) w w'/\(∀g,v'.ownBlock=some g->v.ownBlock=some g\/w.heap.size<=g):=by
 obtain⟨v',w',hr,jL⟩:=z6C (P:=P) (ty:=ty) ht hu hs hv hb
 refine⟨v',w',fun ρ hρ=>?_,jL⟩
 simp[execOp,resolve,invoke,builtin,hρ _ _ hx,hρ _ _ hy,hr]
def z6n (k:Nat):Builtin.zeroCells (Value.int .u8 0).cells k=(Lib.strCells ⟨(zeros k).toArray⟩).toArray:=by
 rw[z2i]
 apply Array.ext'
 rw[YW (.int .u8 0) k O]
 simp[zeros,U8]
theorem zjN [tP:Us za k](ht:P.underlying t=some (.slice el))(hn:P.underlying tn=some (.int kn))(hu:P.underlying tu=some .string)(hs:TI P el (.int .u8 0) 1 1)(hx:look e x=some v)(hy:look e y=some (I za))(hv:Sl w v el 1 n cs)(hb:n+k<=140737488355328):
  Yp P e ⟨d,.call ⟨.builtin .append,#[x,y],#[t,tn]⟩,ty,pos,aft,g⟩ w λv' w'=>Sl w' v' el 1 (n+k) (cs++(zeros k).map U8)/\Kp (λk=>v.ownBlock=some k) w w'/\(∀g,v'.ownBlock=some g->v.ownBlock=some g\/w.heap.size<=g):=by
 obtain⟨rfl⟩:=tP
 have hl:(zeros k).length=k:=by simp[zeros]
 obtain⟨v',w',hr,h1,h2⟩:=z6C (P:=P) (ty:=ty) (s:=zeros k) ht hu hs hv (by rw[hl];exact hb)
 rw[hl] at h1
 have he:(Builtin.append_ #[t,tn] ty #[v,I (k:Int)]).run P w= .ok v' w':=by
  rw[<-hr];obtain⟨i,hi,ql,kC,ss⟩:=hs;have hw:IntKind.i64.wrap (k:Int)=k:=by rw[IntKind.wrap_i64];omega
  have vN:¬((k:Int)<0):=by omega
  have JG:¬(281474976710656<(k:Int)*(i.bytes:Int)):=by rw[ss];omega
  have hf:=λw=>Lib.run_firstCells_string (P:=P) w i.size ⟨(zeros k).toArray⟩;have cJ:(ByteArray.mk (zeros k).toArray).size=k:=by rw[Ub,hl]
  rw[cJ] at hf
  obtain⟨a,c,Na⟩:∃a c,v= .slice a n c:=by
   rcases hv.2 with⟨rfl,rfl⟩|⟨g,cap,cur,rfl,_⟩
   ·exact⟨_,_,rfl⟩
   ·exact⟨_,_,rfl⟩
  subst Na;have Nb:k=0->(Lib.strCells ⟨(zeros k).toArray⟩).toArray=#[]:=λe=>by subst e;rfl
  have Nc:c<=maxLen/\n<=c:=by
   rcases hv.2 with⟨h,h'⟩|⟨g,cap,cur,h,_,_,h1,h2,_⟩
   ·cases h;exact⟨by simp[maxLen],ω⟩
   ·cases h;exact⟨h2,h1⟩
  have cd:n+k<=c\/¬(281474976710656<Builtin.nextslicecap (n+k) c*i.bytes):=by
   by_cases hr:n+k<=c
   ·exact .inl hr
   ·have:=growslice_fits (need:=n+k) (old:=c) (bytes:=i.bytes) ω (by rw[ss];omega);exact .inr ω
  have Gq:¬(9223372036854775807<((n:Int)+(k:Int))):=by omega
  by_cases hk:k=0
  ·subst hk;have e0:=Nb O;have kK:n<=c:=Nc.2;have o4:IntKind.i64.wrap 0=0:=by rw[IntKind.wrap_i64];omega
   have je:=hf w;rw[kC,e0] at je;simp[Builtin.append_,run_underlying ht,run_underlying hn,run_underlying hu,sizeOf,typeInfo,zeroValue,hi,ql,kC,asInt,asIntOf,o4,Builtin.lenOf,cJ,kK,je]
  ·have bJ:=z6n k;have tT:∀w,(Builtin.firstCells 1 k (.string ⟨(zeros k).toArray⟩)).run P w= .ok (Builtin.zeroCells (Value.int .u8 0).cells k) w:=λw=>by rw[bJ];have:=hf w;rw[kC] at this;exact this
   have dp:¬(k*i.size=0):=by rw[kC];omega
   by_cases hr:n+k<=c
   ·simp[Builtin.append_,run_underlying ht,run_underlying hn,run_underlying hu,sizeOf,typeInfo,zeroValue,hi,ql,kC,asInt,asIntOf,hw,vN,JG,Builtin.lenOf,cJ,hr,tT,hk]
   ·have Gs:=cd.resolve_left hr;simp[Builtin.append_,run_underlying ht,run_underlying hn,run_underlying hu,sizeOf,typeInfo,zeroValue,hi,ql,kC,asInt,asIntOf,hw,vN,JG,Builtin.lenOf,cJ,hr,tT,hk,Gq,Gs]
 refine⟨v',w',fun ρ hρ=>?_,h1,h2⟩
 simp[execOp,resolve,invoke,builtin,hρ _ _ hx,hρ _ _ hy,he]
end
/-! ### Writers -/
def swC (s st len:Nat)(rest:Value)(at' n:Nat)(sum:Nat)(put:Value)(dn:Bool):List Value:=[ptr s 0,I (st:Int),I (len:Int),rest,I (at':Int),I (n:Int),U sum,put,.bool dn]
section
variable {w w':World}{Q:Sj}{txt:Int->PV}{K:Nat}{X:Nat->Prop}
def z4f (n:Nat)(hn:n<=2000000)(w:World):Qu prog 48 [I 512,I (n:Int)] w λv w'=>v= .tuple #[I (((n+523) / 512:Nat):Int),I 0]/\w'=w:=by
 refine py (e:=[(0,_),(1,_)]) func48 O ntmps48 O O$ qN O$ Rt O$ QS O$ RT O$ QW$ Qp O$ RK O$ QW$ QY O$ Qp O$ qV (yre O O ω)$ RA O$ QW ?_
 refine QY O$ Qp O$ RT O$ QW$ QY O$ Qp O$ Q4 O$ qV (Xq O O ω)$ SA O$ RK O$ QW$ QY O$ PQ$ Qy.qb (e:=[(0,_),(1,_),(4,_),(5,_),(27,_)]) ?_
 refine TT O$ Qx O$ R7 O$ Q4 O$ R7 O$ SA O$ Q4 O$ qV (Yh O O ω)$ Rt O ?_
 rw[show((n:Int)+12+512-1) / 512=(((n+523) / 512:Nat):Int) by omega]
 refine PO func48 O ?_
 exact⟨_,rfl,rfl,rfl⟩
def z0V (h:Sp Q txt K X w){st len:Nat}(h1:1<=len)(h2:st+len<=Q.L.length):Qu prog 80 [.agg #[ptr Q.s 0,I (st:Int),I (len:Int)]] w λv w'=>v=I 0/\Ext w w':=by
 have dS:=h.n
 refine py (e:=[(0,_)]) func80 O ntmps80 O O$ qN O$ PY O O (Se O (cs:=[ptr Q.s 0,I (st:Int),I (len:Int)]) O) ?_
 rintro _ w1 ⟨b1,rfl,bL,ad,ai⟩
 have hP:=h.ext' ad
 have hg:=Ext.Qh w1
 have Ct:=(hP.ext' hg).dev
 have Cu:=(hP.ext' hg).blocks
 refine Qc O$ RP$ qN O$ Qd Wg O$ qV (PX Y1 O O ai O)$ qV (R9 Y1 O O)$ Qc O$ PZ O$ An$ S5 (λw'=>Ext w1 w') O$ PT 0 O (Qz VB O) hg$ PT 1 O (Qz Sg O) hg$ qT 2 O (λ_ h=>PX U3 O O (h.PN ai) O) hg$ PT 3 O (ylt O O) hg ?_
 refine UQ$ Qi 4 O O (hg)$ PT 5 O (Qz VB O) hg$ PT 6 O (Qz S4 O) hg$ qT 7 O (λ_ h=>PX U3 O O (h.PN ai) O) hg$ PT 8 O (ylt O O) hg$ UQ$ PT 9 O (Vt O O) hg$ Qi 10 O O (hg)$ PT 11 O (Qz VB O) hg$ PT 12 O (Qz S4 O) hg$ qT 13 O (λ_ h=>PX U3 O O (h.PN ai) O) hg$ PT 14 O (Qz Wg O) hg$ qT 15 O (λ_ h=>PX Y1 O O (h.PN ai) O) hg ?_
 refine T9 16 O zfd O (Ct) ?_
 rintro _ w2 ⟨rfl,rfl⟩
 refine⟨hg,?_⟩
 refine T9 17 O z5M O (Cu) ?_
 rintro _ w2 ⟨rfl,rfl⟩
 refine⟨hg,?_⟩
 refine PT 18 O (yge O O) hg$ UQ$ PT 19 O (Vt O O) hg$ Qi 20 O O (hg)$ PT 21 O (Qz VB O) hg$ PT 22 O (Qz Sg O) hg$ qT 23 O (λ_ h=>PX U3 O O (h.PN ai) O) hg$ PT 24 O (Qz Wg O) hg$ qT 25 O (λ_ h=>PX Y1 O O (h.PN ai) O) hg$ PT 28 O (Qz VB O) hg$ PT 29 O (Qz S4 O) hg$ qT 30 O (λ_ h=>PX U3 O O (h.PN ai) O) hg$ T9 26 O zfd O (Ct) ?_
 rintro _ w2 ⟨rfl,rfl⟩
 refine⟨hg,?_⟩
 refine T9 27 O z5M O (Cu) ?_
 rintro _ w2 ⟨rfl,rfl⟩
 refine⟨hg,?_⟩
 refine PT 31 O (YM O O ω) hg$ PT 32 O (Zr O O) hg$ UQ$ PT 33 O (Vt O O) hg$ PT 34 O (Sv O) hg$ qE$ Qy.qb (e:=[(2,_),(7,_)]) ?_
 refine TT O$ PM$ RN O$ PO func80 O ?_
 exact⟨_,rfl,rfl,ad.trans hg⟩
def z2k (h:Sp Q txt K X w){st len:Nat}(h2:len<=100000):Qu prog 88 [.agg #[ptr Q.s 0,I (st:Int),I (len:Int)]] w λv w'=>v=I ((len:Int)*512-12)/\Ext w w':=by
 refine py (e:=[(0,_)]) func88 O ntmps88 O O$ qN O$ PY O O (Se O (cs:=[ptr Q.s 0,I (st:Int),I (len:Int)]) O) ?_
 rintro _ w1 ⟨b1,rfl,bL,ad,ai⟩
 have hP:=h.ext' ad
 have hg:=Ext.Qh w1
 have Nd:=(hP.ext' hg).size
 refine Qc O$ An$ S5 (λw'=>Ext w1 w') O$ PT 0 O (Qz VB O) hg$ PT 1 O (Qz Sg O) hg$ qT 2 O (λ_ h=>PX U3 O O (h.PN ai) O) hg$ PT 3 O (Qz Wg O) hg$ qT 4 O (λ_ h=>PX Y1 O O (h.PN ai) O) hg$ T9 5 O z5I O (Nd) ?_
 rintro _ w2 ⟨rfl,rfl⟩
 refine⟨hg,?_⟩
 refine PT 6 O (Xq O O ω) hg$ PT 7 O (YM O O ω) hg$ PT 8 O (Sv O) hg$ qE$ PO func88 O ?_
 exact⟨_,rfl,rfl,ad.trans hg⟩
def ZG {wb s st len at' n sum:Nat}{rest put:Value}(hB:Q7 w wb (swC s st len rest at' n sum put false) 181):Qu prog 83 [ptr wb 0] w λv w'=>v=I 0/\w'=w:=by
 replace hB:Q7 w wb [ptr s 0,I (st:Int),I (len:Int),rest,I (at':Int),I (n:Int),U sum,put,.bool false] 181:=hB
 refine py (e:=[(0,_)]) func83 O ntmps83 O O$ RN O$ RP$ Qx O$ qV (R9 z4a O O)$ Qc O$ PZ O$ Qx O$ QA O$ Qd z0d O$ qV (PX U4 O O hB O)$ Qc O$ TT O$ PM ?_
 refine RN O$ PO func83 O ?_
 exact⟨_,rfl,rfl,rfl⟩
def z6b (h:Sp Q txt K X w){wb st len at' n sum:Nat}{rest put:Value}(h2:len<=100000)(hn:n<=100000000)(hB:Q7 w wb (swC Q.s st len rest at' n sum put false) 181):Qu prog 84 [ptr wb 0] w λv w'=>v=I ((len:Int)*512-12-(n:Int))/\Ext w w':=by
 replace hB:Q7 w wb [ptr Q.s 0,I (st:Int),I (len:Int),rest,I (at':Int),I (n:Int),U sum,put,.bool false] 181:=hB
 have hg:=Ext.Qh w
 have Nf:=z2k (h.ext' hg) (st:=st) h2
 refine py (e:=[(0,_)]) func84 O ntmps84 O O$ RN O$ QS O$ qV (R9 z4a O O)$ Qp O$ QA O$ Qd z0d O$ qV (PX U4 O O hB O)$ QY O$ Re O$ An$ S5 (λw'=>Ext w w') O$ Qi 0 O O (hg)$ PT 1 O (R8 O) hg ?_
 refine PT 2 O (Qz Yw O) hg$ qT 3 O (λ_ h=>QB zeh O YJ O (Q7.cells (n:=3) (h.PN hB) (news:=[_,_,_]) O) O) hg$ Qi 5 O O (hg)$ PT 6 O (R8 O) hg$ PT 7 O (Qz z1v O) hg$ qT 8 O (λ_ h=>PX U3 O O (h.PN hB) O) hg$ T9 4 O zia O (Nf) ?_
 rintro _ w2 ⟨rfl,ae⟩
 refine⟨(hg.trans ae),?_⟩
 refine PT 9 O (YM O O ω) ((hg.trans ae))$ PT 10 O (Sv O) ((hg.trans ae))$ qE$ PO func84 O ?_
 exact⟨_,rfl,rfl,hg.trans ae⟩
end
def z30 (bs bx bw:Nat):Value:= .func (.func 81) #[] #[ptr bs 0,ptr bx 0,ptr bw 0]
structure SwM (s st len wb bs bx bw:Nat)(rest:Value)(at' n sum:Nat)(w:World):Prop where
 wr:Q7 w wb (swC s st len rest at' n sum (z30 bs bx bw) false) 181
 sb:Q7 w bs [ptr s 0] 27
 xb:Q7 w bx [I (st:Int),I (len:Int)] 118
 pb:Q7 w bw [ptr wb 0] 121
 ne:bs≠wb/\bx≠wb/\bw≠wb
section
variable {w w':World}{Q:Sj}{txt:Int->PV}{K:Nat}{X S':Nat->Prop}{s st len wb bs bx bw at' n sum:Nat}{rest:Value}
def SwM.kp (h:SwM s st len wb bs bx bw rest at' n sum w)(hk:Kp S' w w')(h1:¬S' wb)(h2:¬S' bs)(h3:¬S' bx)(h4:¬S' bw):SwM s st len wb bs bx bw rest at' n sum w':=
 ⟨hk.PN h.wr h1,hk.PN h.sb h2,hk.PN h.xb h3,hk.PN h.pb h4,h.ne⟩
theorem SwM.ext (h:SwM s st len wb bs bx bw rest at' n sum w)(hx:Ext w w'):SwM s st len wb bs bx bw rest at' n sum w':=h.kp (S':=λ_=>False) hx id id id id
def SwM.re {rest2:Value}{at2 n2 sum2:Nat}(h:SwM s st len wb bs bx bw rest at' n sum w)(hk:Kp (λb=>b=wb) w w')(hB:Q7 w' wb (swC s st len rest2 at2 n2 sum2 (z30 bs bx bw) false) 181):SwM s st len wb bs bx bw rest2 at2 n2 sum2 w':=
 ⟨hB,hk.PN h.sb h.ne.1,hk.PN h.xb h.ne.2.1,hk.PN h.pb h.ne.2.2,h.ne⟩
theorem SwM.cells (h:SwM s st len wb bs bx bw rest at' n sum w):Q7 w wb [ptr s 0,I (st:Int),I (len:Int),rest,I (at':Int),I (n:Int),U sum,z30 bs bx bw,.bool false] 181:=h.wr
def z0I (hP:Sp Q txt K X w)(hX:∀b,X b->b<w.heap.size)(hK:K<1000000000000)(h:SwM Q.s st len wb bs bx bw rest at' n sum w)(au:X wb/\X bs/\X bx/\X bw)(Cv:st+at'<Q.L.length)(t:PV)(ht:t.length=512):
  Qu prog 81 [S t,ptr bs 0,ptr bx 0,ptr bw 0] w λv w'=>v=I 0/\Sp Q (z0z txt ((st+at':Nat):Int) (some t)) (K+1) X w'/\SwM Q.s st len wb bs bx bw rest (at'+1) n sum w'/\Kp (λb=>¬X b\/b=wb) w w':=by
 have dS:=hP.n
 have j0:=h.sb
 have jp:=h.xb
 have nq:=h.pb
 have hB:=h.cells
 have hg:=Ext.Qh w
 refine py (e:=[(0,_),(1,_),(2,_),(3,_)]) func81 O ntmps81 O O$ RN O$ An$ S5 (λw'=>Kp (λb=>¬X b) w w') O$ qT 0 O (λ_ hS=>(PX Y1 O O (hS.PN j0 (λe=>e au.2.1)) O)) (hg.kp)$ PT 1 O (Qz S4 O) (hg.kp)$ qT 2 O (λ_ hS=>(PX U3 O O (hS.PN jp (λe=>e au.2.2.1)) O)) (hg.kp)$ qT 3 O (λ_ hS=>(PX z4a O O (hS.PN nq (λe=>e au.2.2.2)) O)) (hg.kp)$ PT 4 O (R8 O) (hg.kp)$ PT 5 O (Qz Zt O) (hg.kp)$ qT 6 O (λ_ hS=>(PX U3 O O (hS.PN hB (λe=>e au.1)) O)) (hg.kp)$ PT 7 O (Wa O O ω) (hg.kp)$ Qi 8 O O (hg.kp) ?_
 rw[show(st:Int)+(at':Int)=((st+at':Nat):Int) by omega]
 refine T9 9 O zh2 O ((hP.ext' hg).write (λb hb=>by have:=hX b hb;have:=hg.size;omega) hK (no:=((st+at':Nat):Int)) ω ω t ht) ?_
 rintro _ w1 ⟨rfl,ge,ay⟩
 refine⟨hg.kp.trans ay,?_⟩
 have dC:Kp (λb=>¬X b) w w1:=hg.kp.trans ay
 have h1:=h.kp dC (λe=>e au.1) (λe=>e au.2.1) (λe=>e au.2.2.1) (λe=>e au.2.2.2)
 have ai:=h1.cells
 have Gt:=h1.pb
 have dt:∀b,X b->b<w1.heap.size:=λb hb=>by have:=hX b hb;have:=dC.size;omega
 refine PT 10 O (Sv O) (hg.kp.trans ay)$ qE$ qN O$ qV ((PX z4a O O Gt O))$ QA O$ Qd Zt O$ qV ((PX U3 O O ai O))$ R7 O$ QA O$ Qd Zt O$ Qb O (RV Rl O O O ai ξ) ?_
 rintro w2 ⟨ak,am⟩
 have eN:Q7 w2 wb (swC Q.s st len rest (at'+1) n sum (z30 bs bx bw) false) 181:=ak
 have h2:=h1.re am eN
 have AN:=h2.cells
 have AO:=h2.pb
 have aa:=Ext.Qh w2
 have ev:=ge.own am (λb e=>by rw[e];exact au.1)
 refine PQ$ An$ Qn [11] (λw'=>Ext w2 w') (by kernel_rfl) O$ qL 0 O (λ_ h=>(PX z4a O O (h.PN AO) O)) aa$ qL 1 O (λ_ h=>(PX z4a O O (h.PN AO) O)) aa$ Qs 2 O (R8 O) aa$ Qs 3 O (Qz z0d O) aa$ qL 4 O (λ_ h=>(PX U4 O O (h.PN AN) O)) aa$ R1 5 O O (aa)$ R1 6 O O (aa)$ Qs 7 O (yne O O) aa$ Qs 8 O (Vt O O) aa$ Qs 9 O (R8 O) aa$ Qs 10 O (Qz z0d O) aa ?_
 refine Ut [11] ?_
 have aw:=aa.PN AN
 refine qO 11$ QO (i:=11) O O (RV VK O O O aw ξ) ?_
 rintro w3 ⟨lC,av⟩
 refine⟨trivial,?_⟩
 refine qE$ Qy.qb (e:=[(5,_),(6,_)]) ?_
 refine Qx O$ Qc O$ PO func81 O ?_
 have h3:=(h2.ext aa).re av (show Q7 w3 wb (swC Q.s st len rest (at'+1) n sum (z30 bs bx bw) false) 181 from lC)
 exact⟨_,rfl,rfl,(ev.ext' aa).own av (λb e=>by rw[e];exact au.1),h3,((dC.PU λb e=> .inl e).trans (am.PU λb e=> .inr e)).trans (aa.kp.trans (av.PU λb e=> .inr e))⟩
end
section
variable {P:Program}{e:Env}{d:Option Nat}{ty t t' el:TypeId}{pos:String}{aft:Array Edge}{g:Option (Nat×Bool)}{x:Operand}{w:World}{l:PV}{v:Value}
def zh5 (hs:P.underlying t=some (.slice el))(he:P.underlying el=some (.int .u8))(hd:P.underlying t'=some .string)(hx:look e x=some v)(hr:Rd w v 1 l.length (l.map U8))(hl:0<l.length):
  Y P e ⟨d,.convert t t' x,ty,pos,aft,g⟩ (S l) w w:=fun ρ hρ=>by
 rcases hr.2 with⟨⟨ca,c⟩,hv,h0⟩|⟨b,off,cap,hv,hc⟩
 ·omega
 ·subst hv;have hr:=run_convert_bytes_back (P:=P) w t t' el ⟨b,off,none⟩ cap l hs he hd (λj hj=>by rw[Sh];exact hc j _ (by simp[hj,U8]));simp[execOp,hρ _ _ hx,hr]
end
section
variable {w w':World}{Q:Sj}{txt:Int->PV}{K:Nat}{X:Nat->Prop}{s st len wb bs bx bw n sum:Nat}
theorem z4O (hP:Sp Q txt K X w){st len:Nat}(h1:1<=len)(h2:st+len<=Q.L.length):
  Qu prog 51 [ptr Q.s 0,.agg #[I (st:Int),I (len:Int)]] w λv w'=>∃wb bs bx bw sum,v= .tuple #[ptr wb 0,I 0]/\sum<4294967296/\SwM Q.s st len wb bs bx bw (.slice none 0 0) 0 0 sum w'/\(w.heap.size<=wb/\w.heap.size<=bs/\w.heap.size<=bx/\w.heap.size<=bw)/\Ext w w':=by
 have sA:Sums.crc []<4294967296:=Sums.zhb _
 obtain⟨c0,vO⟩:∃c0,Sums.crc []=c0:=⟨_,rfl⟩
 rw[vO] at sA
 refine py (e:=[(0,_),(1,_)]) func51 O ntmps51 O O$ qN O$ PY O O (Se O (cs:=[ptr Q.s 0]) O) ?_
 rintro _ w1 ⟨bs,rfl,xv,ad,j0⟩
 refine PY O O (Se O (cs:=[I (st:Int),I (len:Int)]) O) ?_
 rintro _ w2 ⟨bx,rfl,fg,ae,jp⟩
 have ip:=ae.PN j0
 have Ng:=hP.ext' (ad.trans ae)
 have ao:=Ext.Qh w2
 have bJ:=ao.size
 refine Rt O$ An$ QH (λe' w'=>∃wb bw,e'=[(2,ptr bs 0),(3,ptr bx 0),(6,ptr bw 0)]/\Q7 w' wb [ptr Q.s 0,I (st:Int),I (len:Int),.slice none 0 0,I 0,I 0,U c0,.nilFunc,.bool false] 181/\Q7 w' bw [ptr wb 0] 121/\Ext w2 w'/\w2.heap.size<=wb/\w2.heap.size<=bw/\wb≠bw) ?bF$ λbF=>?dg
 case bF=>
  rintro e' w3 ⟨wb,bw,rfl,aw,nJ,ah,oF,Cw,bE⟩;have lbs:=j0.lt;have lbx:=jp.lt;have dX:=ae.size;have fL:=Ng.ext' ah;refine An$ qN O$ qV ((PX z4a O O nJ O))$ QA O$ Qd Yw O$ qV ((QB zeh O YJ O (Q7.cells (n:=3) aw (news:=[_,_,_]) O) O))$ Qk ziy O (z0V fL h1 h2) ?_;rintro _ w4 ⟨rfl,aC⟩;have mV:=aC.PN nJ;have aM:=aC.PN aw;refine RZ O$ RA O$ Re O$ qN O$ qV ((PX z4a O O mV O))$ qV (ymf (first:=[]) (caps:=[.tmp 2,.tmp 3,.tmp 6]) O O)$ QA O$ Qd z1u O$ Qb O (RV zha O O O aM ξ) ?_;rintro w5 ⟨aJ,aj⟩;have Ch:=aj.PN mV (λe=>bE e.symm);refine qM O$ qV (PX z4a O O Ch O)$ Rt O$ PO func51 O ?_;have iQ:Ext w2 w5:=(ah.trans aC).It aj (λj e=>by omega);refine⟨_,rfl,wb,bs,bx,bw,c0,rfl,sA,⟨aJ,iQ.PN ip,iQ.PN jp,Ch,⟨ω,ω,λe=>bE e.symm⟩⟩,⟨ω,ω,ω,ω⟩,(ad.trans ae).trans iQ⟩
 case dg=>
 refine Qn [7] (λw'=>Ext w2 w') (by kernel_rfl) O$ qL 0 O (λ_ h=>(PX Y1 O O (h.PN ip) O)) ao$ qL 1 O (λ_ hS=>(QB YE O Sd O (Q7.cells (n:=2) (hS.PN jp) (news:=[_,_]) O) O)) ao$ Qs 2 O (Tq (cs:=[_,_,_]) YJ O zfQ O O) ao$ XN (i:=3) (j:=6) (by kernel_rfl) ?_ ?_
 ·refine SW (i:=3) O O O (yc (args:=[.const (Value.string (⟨#[]⟩))]) zjg O) (z9t [] _ ξ) ?_;rintro _ w3 ⟨rfl,ah⟩;refine⟨ao.trans ah,?_⟩;rw[vO];have ao:=ao.trans ah
  try have aY:=ah.PN aY
  have bJ:=Nat.le_trans bJ ah.size;refine Qs 4 O (Tq (cs:=[_,_,_,_,_,_,_,_,_]) zf0 O zff O O) ao$ XN (i:=5) (j:=6) (by kernel_rfl) ?_ ?_
  ·refine Ru (i:=5) O O O (Se O (cs:=[ptr Q.s 0,I (st:Int),I (len:Int),.slice none 0 0,I 0,I 0,U c0,.nilFunc,.bool false]) O) ?_;rintro _ w5 ⟨wb,rfl,oF,aU,aJ⟩;refine⟨ao.trans aU,?_⟩;have ao:=ao.trans aU
   try have aY:=aU.PN aY
   have uL:w2.heap.size<=wb:=by omega
   have bJ:=Nat.le_trans bJ aU.size;refine Sc (i:=6) (by kernel_rfl)$ Ru (i:=6) O O O (SE (cs:=[_]) z3w O) ?_;rintro _ w6 ⟨bw,rfl,Cw,aS,aY⟩;refine⟨ao.trans aS,?_⟩;have ao:=ao.trans aS
   try have aJ:=aS.PN aJ
   have AP:w2.heap.size<=bw:=by omega
   have bJ:=Nat.le_trans bJ aS.size;refine Ut [7]$ qO 7$ QO (i:=7) O O (RV z3w O O O aY ξ) ?_;rintro w7 ⟨bU,aA⟩;refine⟨trivial,?_⟩;refine qE ?_;replace bU:Q7 w7 bw [ptr wb 0] 121:=bU
   have jR:wb≠bw:=by
    intro e;have h5:=aJ;rw[e] at h5;obtain⟨fz,h5,-⟩:=h5;obtain⟨fz6,h6,-⟩:=aY;rw[h5] at h6;cases h6
   have ft:=aA.PN aJ jR;exact(bF _ _ ⟨wb,bw,rfl,ft,bU,ao.It aA (λj e=>by omega),uL,AP,jR⟩).qb
  ·refine Ru (i:=6) O O O (SE (cs:=[_]) z3w O) ?_;rintro _ w6 ⟨bw,rfl,Cw,aS,aY⟩;refine⟨ao.trans aS,?_⟩;have ao:=ao.trans aS
   try have aJ:=aS.PN aJ
   have AP:w2.heap.size<=bw:=by omega
   have bJ:=Nat.le_trans bJ aS.size;refine Sc (i:=5) (by kernel_rfl)$ Ru (i:=5) O O O (Se O (cs:=[ptr Q.s 0,I (st:Int),I (len:Int),.slice none 0 0,I 0,I 0,U c0,.nilFunc,.bool false]) O) ?_;rintro _ w5 ⟨wb,rfl,oF,aU,aJ⟩;refine⟨ao.trans aU,?_⟩;have ao:=ao.trans aU
   try have aY:=aU.PN aY
   have uL:w2.heap.size<=wb:=by omega
   have bJ:=Nat.le_trans bJ aU.size;refine Ut [7]$ qO 7$ QO (i:=7) O O (RV z3w O O O aY ξ) ?_;rintro w7 ⟨bU,aA⟩;refine⟨trivial,?_⟩;refine qE ?_;replace bU:Q7 w7 bw [ptr wb 0] 121:=bU
   have jR:wb≠bw:=by
    intro e;have h5:=aJ;rw[e] at h5;obtain⟨fz,h5,-⟩:=h5;obtain⟨fz6,h6,-⟩:=aY;rw[h5] at h6;cases h6
   have ft:=aA.PN aJ jR;exact(bF _ _ ⟨wb,bw,rfl,ft,bU,ao.It aA (λj e=>by omega),uL,AP,jR⟩).qb
 ·refine Ru (i:=6) O O O (SE (cs:=[_]) z3w O) ?_;rintro _ w6 ⟨bw,rfl,Cw,aS,aY⟩;refine⟨ao.trans aS,?_⟩;have ao:=ao.trans aS
  try have aJ:=aS.PN aJ
  have AP:w2.heap.size<=bw:=by omega
  have bJ:=Nat.le_trans bJ aS.size;refine Sc (i:=3) (by kernel_rfl)$ SW (i:=3) O O O (yc (args:=[.const (Value.string (⟨#[]⟩))]) zjg O) (z9t [] _ ξ) ?_;rintro _ w3 ⟨rfl,ah⟩;refine⟨ao.trans ah,?_⟩;rw[vO];have ao:=ao.trans ah
  try have aY:=ah.PN aY
  have bJ:=Nat.le_trans bJ ah.size;refine Qs 4 O (Tq (cs:=[_,_,_,_,_,_,_,_,_]) zf0 O zff O O) ao$ Sc (i:=5) (by kernel_rfl)$ Ru (i:=5) O O O (Se O (cs:=[ptr Q.s 0,I (st:Int),I (len:Int),.slice none 0 0,I 0,I 0,U c0,.nilFunc,.bool false]) O) ?_;rintro _ w5 ⟨wb,rfl,oF,aU,aJ⟩;refine⟨ao.trans aU,?_⟩;have ao:=ao.trans aU
  try have aY:=aU.PN aY
  have uL:w2.heap.size<=wb:=by omega
  have bJ:=Nat.le_trans bJ aU.size;refine Ut [7]$ qO 7$ QO (i:=7) O O (RV z3w O O O aY ξ) ?_;rintro w7 ⟨bU,aA⟩;refine⟨trivial,?_⟩;refine qE ?_;replace bU:Q7 w7 bw [ptr wb 0] 121:=bU
  have jR:wb≠bw:=by
   intro e;have h5:=aJ;rw[e] at h5;obtain⟨fz,h5,-⟩:=h5;obtain⟨fz6,h6,-⟩:=aY;rw[h5] at h6;cases h6
  have ft:=aA.PN aJ jR;exact(bF _ _ ⟨wb,bw,rfl,ft,bU,ao.It aA (λj e=>by omega),uL,AP,jR⟩).qb
end
section
variable {w w':World}{Q:Sj}{txt:Int->PV}{K:Nat}{X:Nat->Prop}{st len wb bs bx bw n sum:Nat}{rest:Value}{T:PV}
theorem zb3 (T:PV)(k:Nat):((T.drop (512*k)).map U8).drop 512=(T.drop (512*(k+1))).map U8:=by
 rw[<-List.map_drop,List.drop_drop]
 congr 2
def SwI (Q:Sj)(txt:Int->PV)(K:Nat)(X:Nat->Prop)(st len wb bs bx bw:Nat)(T:PV)(sum:Nat)(w:World)(k:Nat)(w':World):Prop:=
 ∃txt' rest,Sp Q txt' (K+k) (λb=>X b\/rest.ownBlock=some b) w'/\SwM Q.s st len wb bs bx bw rest k T.length sum w'/\Sl w' rest 5 1 (T.length-512*k) ((T.drop (512*k)).map U8)/\(∀j,j<k->txt' ((st+j:Nat):Int)=(T.drop (512*j)).take 512)/\(∀y:Int,y<(st:Int)\/(st:Int)+(k:Int)<=y->txt' y=txt y)/\Kp (λb=>¬X b\/b=wb) w w'/\(∀b,rest.ownBlock=some b->w.heap.size<=b)
theorem z6i (hP:Sp Q txt K X w)(hX:∀b,X b->b<w.heap.size)(hK:K<=100000000000)(h:SwM Q.s st len wb bs bx bw (.slice none 0 0) 0 0 sum w)(i8:sum<4294967296)(au:X wb/\X bs/\X bx/\X bw)(cd:st+len<=Q.L.length)(h1:1<=len)(hT:T.length<=len*512-12):
  Qu prog 52 [ptr wb 0,S T] w λv w'=>v=I 0/\∃sum',sum'<4294967296/\SwI Q txt K X st len wb bs bx bw T sum' w (T.length / 512) w':=by
 have fF:maxLen=9223372036854775807:=rfl
 have dS:=hP.n
 refine py (e:=[(0,_),(1,_)]) func52 O ntmps52 O O$ RN O$ QS O$ Qk zjI O (ZG h.wr) ?_
 rintro _ w ⟨rfl,rfl⟩
 refine RZ O$ RA O$ Re O$ QS O$ qV (Wf U9 O)$ Q4 O$ Qk zl0 O (z6b hP ω ω h.wr) ?_
 rintro _ w1 ⟨rfl,ad⟩
 have ge:=hP.ext' ad
 have eA:=h.ext ad
 have ai:=eA.cells
 refine RK O$ QW$ Re O$ Qx O$ QA O$ Qd z1v O$ qV (PX U3 O O ai O)$ Q4 O$ qV (Wf U9 O)$ R7 O$ QA O$ Qd z1v O ?_
 rw[show((0:Nat):Int)+(T.length:Int)=(T.length:Int) by omega]
 refine Qb O (RV Rl O O O ai ξ) ?_
 rintro w2 ⟨ak,am⟩
 have dy:=eA.re am (show Q7 w2 wb (swC Q.s st len (.slice none 0 0) 0 T.length sum (z30 bs bx bw) false) 181 from ak)
 have ev:=ge.own am (λb e=>by rw[e];exact au.1)
 have eN:=dy.cells
 refine qM O$ Qp O$ QA O$ Qd z4Q O$ qV (PX RQ O O eN O)$ Q4 O$ Qk ziz O (zcM sum T _ i8 ω) ?_
 rintro _ w3 ⟨rfl,ah⟩
 have tv:=Sums.zf3 T i8
 obtain⟨sum3,gV⟩:∃sum3,Sums.on sum T=sum3:=⟨_,rfl⟩
 rw[gV] at tv⊢
 have pS:=dy.ext ah
 have aw:=pS.cells
 refine QA O$ Qd z4Q O$ Qb O (RV Ql O O O aw ξ) ?_
 rintro w4 ⟨aM,ar⟩
 have xc:=pS.re ar (show Q7 w4 wb (swC Q.s st len (.slice none 0 0) 0 T.length sum3 (z30 bs bx bw) false) 181 from aM)
 have ji:=(ev.ext' ah).own ar (λb e=>by rw[e];exact au.1)
 have fC:=xc.cells
 refine PQ$ Qy.qb (e:=[(0,_),(1,_),(4,_)]) ?_
 refine RI O$ QA O$ Qd Ua O$ qV (PX Tr O O fC O)$ Q4 O$ PY O O (zks Tr U9 Y7 O O (Sl.nil w4 _ 1) ω) ?_
 rintro v5 w5 ⟨fG,aj,uC⟩
 simp only[List.nil_append,Nat.zero_add] at fG
 replace aj:Ext w4 w5:=aj.PU (λb e=>by cases e)
 have vP:∀b,v5.ownBlock=some b->w4.heap.size<=b:=λb e=>(uC b e).elim (λe=>by cases e) id
 obtain⟨a5,c5,rfl,-⟩:=fG.rd.shape
 have pM:=xc.ext aj
 have aJ:=pM.cells
 have bV:Kp (λb=>¬X b\/b=wb) w w5:=(((ad.kp.trans (am.PU λb e=> .inr e)).trans ah.kp).trans (ar.PU λb e=> .inr e)).trans aj.kp
 have z4:w.heap.size<=w4.heap.size:=by have:=ad.size;have:=am.size;have:=ah.size;have:=ar.size;omega
 have lwb:=aJ.lt
 have lwb0:=hX _ au.1
 refine QA O$ Qd Ua O$ Qb O (RV z3g O O O aJ ξ) ?_
 rintro w6 ⟨aY,aL⟩
 have FY:=pM.re aL (show Q7 w6 wb (swC Q.s st len (.slice a5 T.length c5) 0 T.length sum3 (z30 bs bx bw) false) 181 from aY)
 have nM:Sp Q txt K (λb=>X b\/(Value.slice a5 T.length c5).ownBlock=some b) w6:=(ji.ext aj (λb e=>e.imp id (vP b))).own aL (λb e=> .inl (by rw[e];exact au.1))
 have g8:=fG.kp aL (λb hb e=>by have:=vP b hb;omega)
 have nY:=FY.cells
 have iT:=bV.trans (aL.PU λb e=>Or.inr e)
 refine qM O$ Q4 O$ QA O$ Qd Yw O$ Qd Wg O$ qV (PX Y1 O O nY O)$ Qk z5I O (nM.size) ?_
 rintro _ w6 ⟨rfl,rfl⟩
 refine Qc O$ RP$ SK (α:=Nat) (0) (λk=>[(0,ptr wb 0),(6,I 512)]) (λk w'=>k<=T.length / 512/\SwI Q txt K X st len wb bs bx bw T sum3 w k w') (λk=>T.length / 512-k) ?hI ?hround
 case hI=>exact⟨Nat.zero_le _,txt,_,nM,FY,g8,λj hj=>by omega,λy hy=>rfl,iT,λb hb=>by have:=vP b hb;omega⟩
 case hround=>
  rintro k w8 ⟨hk,txt1,rest,pW,yC,dQ,jm,AQ,aK,m7⟩ ih;obtain⟨a8,c8,rfl,-⟩:=dQ.rd.shape;have co:=yC.cells;have IQ:=aK.size
  try dsimp only
  refine QS O$ QA O$ Qd Ua O$ qV (PX Tr O O co O)$ SR Tr O$ Q4 O$ UZ O$ PQ$ Q8 O (λh0=>?_)$ λh0=>?_
  ·have Nh:512*k+512<=T.length:=by omega
   rcases dQ.shape with⟨e,xy⟩|⟨gb,cc,e,Gb⟩
   ·omega
   cases e;have Mt:=m7 gb O;have hg:=Ext.Qh w8;have dG:((T.drop (512*k)).take 512).length=512:=by rw[List.length_take,List.length_drop];omega
   have Gu:Rd w8 (.slice (some ⟨gb,0,none⟩) 512 c8) 1 ((T.drop (512*k)).take 512).length (((T.drop (512*k)).take 512).map U8):=by
    rw[dG,List.map_take];exact Wp dQ.rd ω
   have Ni:∀b,(X b\/(Value.slice (some ⟨gb,0,none⟩) (T.length-512*k) c8).ownBlock=some b)->b<w8.heap.size:=λb hb=>by
    rcases hb with e| e
    ·have:=hX b e;omega
    ·exact dQ.lt e
   refine PR$ PS$ An$ An$ Qn [11,12] (λw'=>Ext w8 w') (by kernel_rfl) O$ R1 0 O O (hg)$ Qs 1 O (R8 O) hg$ Qs 2 O (Qz z1u O) hg$ qL 3 O (λ_ h=>PX U54 O O (h.PN co) O) hg$ R1 4 O O (hg)$ Qs 5 O (R8 O) hg$ Qs 6 O (Qz Ua O) hg$ qL 7 O (λ_ h=>PX Tr O O (h.PN co) O) hg$ R1 8 O O (hg) ?_;refine Qs 9 O (zeK Tr Y7 O O ω) hg$ qL 10 O (λ_ hS=>zh5 (l:=(T.drop (512*k)).take 512) Tr U5 U9 O (Gu.ext hS) ω) hg$ Ut [11]$ qO 11$ Xr (i:=11) O O O (T6 zg3 O O) (z0I (pW.ext' hg) (λb hb=>by have:=Ni b hb;have:=hg.size;omega) ω (yC.ext hg) ⟨.inl au.1,.inl au.2.1,.inl au.2.2.1,.inl au.2.2.2⟩ ω ((T.drop (512*k)).take 512) dG) ?_;rintro _ w9 ⟨rfl,qg,Cr,ax⟩;refine⟨trivial,?_⟩;refine PT 12 O (Sv O) trivial$ qE$ Qx O$ RA O ?_;have cF:=Cr.cells;have iq:=hg.kp.trans ax
   have kl:=dQ.kp iq (λb hb e=>by
    rcases e with e| e
    ·exact e (.inr hb)
    ·have e1:gb=b:=SH hb
     omega)
   have IR:=iq.size;refine Re O$ PW O$ Qp O$ QA O$ Qd Ua O$ qV (PX Tr O O cF O)$ Q4 O$ qV (ZX Tr Y7 O O ω ω)$ PY O O (pap Tr Y7 O ψ O O (Sl.nil w9 _ 1) (UX (i:=512) kl.rd ω ω) (λc hc=>by obtain⟨z,-,rfl⟩:=List.mem_map.1 (List.mem_of_mem_drop hc);rfl) ω ω) ?_;rintro v10 w10 ⟨cw,aB,cy,-⟩;rw[List.nil_append,zb3,Nat.zero_add,show T.length-512*k-512=T.length-512*(k+1) by omega] at cw;replace aB:Ext w9 w10:=aB.PU (λb e=>by cases e);have oV:∀b,v10.ownBlock=some b->w9.heap.size<=b:=λb e=>(cy b e).elim (λe=>by cases e) id;obtain⟨a10,c10,rfl,-⟩:=cw.rd.shape;have AR:=Cr.ext aB;have fM:=AR.cells;refine QA O$ Qd Ua O$ Qb O (RV z3g O O O fM ξ) ?_;rintro w11 ⟨bj,bz⟩;have Gv:=AR.re bz (show Q7 w11 wb (swC Q.s st len (.slice a10 (T.length-512*(k+1)) c10) (k+1) T.length sum3 (z30 bs bx bw) false) 181 from bj);have Gw:Sp Q (z0z txt1 ((st+k:Nat):Int) (some ((T.drop (512*k)).take 512))) (K+k+1) (λb=>X b\/(Value.slice a10 (T.length-512*(k+1)) c10).ownBlock=some b) w11:=(qg.ext aB (λb e=>e.elim (λe=> .inl (.inl e)) (λe=> .inr (oV b e)))).own bz (λb e=> .inl (by rw[e];exact au.1));have um:=cw.kp bz (λb hb e=>by have:=oV b hb;omega);refine PQ$ PM ((ih (k+1) w11 ⟨ω,_,_,Gw,Gv,um,λj hj=>?_,λy hy=>?_,?_,λb hb=>by have:=oV b hb;omega⟩ ω).qb)
   ·by_cases e:j=k
    ·subst e;exact Tk _ _ _
    ·rw[SD _ _ ω];exact jm j ω
   ·rw[SD _ _ ω];exact AQ y ω
   ·refine(aK.It iq λb e=>?_).trans (aB.kp.trans (bz.PU λb e=> .inr e));rcases e with e| e
    ·by_cases hb:X b
     ·exact absurd (.inl hb) e
     ·exact .inr (.inl hb)
    ·exact .inr (.inr e)
  ·have Nj:k=T.length / 512:=by omega
   subst Nj;refine Q5 O$ RN O$ PO func52 O ?_;exact⟨_,rfl,rfl,sum3,tv,txt1,_,pW,yC,dQ,jm,AQ,aK,m7⟩
end
section
variable {w w':World}{Q:Sj}{txt:Int->PV}{K:Nat}{X:Nat->Prop}{st len wb bs bx bw n sum:Nat}{rest:Value}{T:PV}
def YS (n sum:Nat):PV:=Vg 8 n++Vg 4 sum
def z4Y (n sum:Nat):(YS n sum).length=12:=by simp[YS,QQ]
theorem z52 (hP:Sp Q txt K (λb=>X b\/rest.ownBlock=some b) w)(hX:∀b,X b->b<w.heap.size)(hK:K<=200000000000)(h:SwM Q.s st len wb bs bx bw rest (T.length / 512) T.length sum w)(i8:sum<4294967296)(au:X wb/\X bs/\X bx/\X bw)(cd:st+len<=Q.L.length)(aH:len=(T.length+523) / 512)
  (hS:Sl w rest 5 1 (T.length%512) ((T.drop (512*(T.length / 512))).map U8)) (bE:∀b,rest.ownBlock=some b->¬X b) (jm:∀j,j<T.length / 512->txt ((st+j:Nat):Int)=(T.drop (512*j)).take 512):
  Qu prog 53 [ptr wb 0] w λv w'=>v=I 0/\∃txt',Sp Q txt' (K+2) X w'/\(∀j,512*j<T.length->∃z,txt' ((st+j:Nat):Int)=(T.drop (512*j)).take 512++z)/\(∃z,txt' ((st+(len-1):Nat):Int)=z++YS T.length sum/\z.length=500)/\(∀y:Int,y<(st:Int)\/(st:Int)+(len:Int)<=y->txt' y=txt y)/\Kp (λb=>¬X b\/b=wb) w w':=by
 have fF:maxLen=9223372036854775807:=rfl
 have dS:=hP.n
 obtain⟨a0,c0,rfl,-⟩:=hS.rd.shape
 have hB:=h.cells
 have Nk:∀b,(Value.slice a0 (T.length%512) c0).ownBlock=some b->b<w.heap.size:=λb hb=>hS.lt hb
 have hg:=Ext.Qh w
 refine py (e:=[(0,_)]) func53 O ntmps53 O O$ RN O$ QS O$ Qk zjI O (ZG h.wr) ?_
 rintro _ w ⟨rfl,rfl⟩
 refine RZ O$ RA O$ Re O$ Qx O$ QA O$ Qd Yw O$ Qd Wg O$ qV (PX Y1 O O hB O)$ Qk z5I O (hP.size) ?_
 rintro _ w ⟨rfl,rfl⟩
 refine Qc O$ An$ An$ QH (λe' w'=>∃q,e'=[(0,ptr wb 0),(4,I 512),(38,.bool q)]/\(q=true↔T.length / 512<len-1)/\Ext w w') ?aW$ λaW=>?gl
 case aW=>
  rintro e' w1 ⟨q,rfl,hq,ad⟩;have ge:=hP.ext' ad;have h1:=h.ext ad;have ky:=hS.ext ad;have ai:=h1.cells;have nR:=ad.size;refine QH (λe' w'=>e'=[(0,ptr wb 0),(4,I 512)]/\∃txt1 rest1 at1 l,Sp Q txt1 (K+1) (λb=>X b\/rest1.ownBlock=some b) w'/\SwM Q.s st len wb bs bx bw rest1 at1 T.length sum w'/\Sl w' rest1 5 1 l.length (l.map U8)/\l.length<=500/\(∀b,rest1.ownBlock=some b->¬X b)/\l=T.drop (512*(len-1))/\(∀j,j<len-1->512*j<T.length->∃z,txt1 ((st+j:Nat):Int)=(T.drop (512*j)).take 512++z)/\(∀y:Int,y<(st:Int)\/(st:Int)+(len:Int)<=y->txt1 y=txt y)/\Kp (λb=>¬X b\/b=wb) w w') ?aq$ λaq=>?dU
  case aq=>
   rintro e' w2 ⟨rfl,txt1,rest1,at1,l,ev,h2,cS,J4,dI,hl,Gx,Gy,am⟩;obtain⟨a2,c2,rfl,-⟩:=cS.rd.shape;have ak:=h2.cells;have aa:=Ext.Qh w2;have nE:=am.size;refine An$ S5 (λw'=>Kp (λb=>(Value.slice a2 l.length c2).ownBlock=some b) w2 w') O$ Qi 0 O O (aa.kp)$ PT 1 O (R8 O) (aa.kp)$ PT 2 O (Qz Ua O) (aa.kp)$ qT 3 O (λ_ h=>PX Tr O O (h.PN ak (λe=>dI _ e au.1)) O) (aa.kp)$ Qi 4 O O (aa.kp)$ PT 5 O (YM O O ω) (aa.kp)$ Qi 6 O O (aa.kp)$ PT 7 O (R8 O) (aa.kp)$ PT 8 O (Qz Ua O) (aa.kp)$ qT 9 O (λ_ h=>PX Tr O O (h.PN ak (λe=>dI _ e au.1)) O) (aa.kp)$ PT 10 O (TP Tr O) (aa.kp)$ PT 11 O (YM O O ω) (aa.kp) ?_;rw[show(512:Int)-12-(l.length:Int)=((500-l.length:Nat):Int) by omega];refine qO 12$ YZ (i:=12) O O O (zjN Tr U3 U9 Y7 O O (cS.ext aa) ω) ?_;rintro v3 w3 ⟨dj,av,qY⟩;refine⟨aa.kp.trans av,?_⟩;have AS:l.length+(500-l.length)=500:=by omega
   rw[AS,<-List.map_append] at dj;obtain⟨a3,c3,rfl,-⟩:=dj.rd.shape;have ck:=aa.kp.trans av
   have fm:∀b,(Value.slice a3 500 c3).ownBlock=some b->¬X b:=λb hb e=>by
    rcases qY b hb with e2|e2
    ·exact dI b e2 e
    ·have:=hX b e;have:=aa.size;omega
   have fL:Sp Q txt1 (K+1) (λb=>X b\/(Value.slice a3 500 c3).ownBlock=some b) w3:=ev.step ck (λb e=> .inr e) (λb e=>e.elim (λe=> .inl (.inl e)) (λe=>(qY b e).imp .inr (λe=>by have:=aa.size;omega)));have h3:=h2.kp ck (λe=>dI _ e au.1) (λe=>dI _ e au.2.1) (λe=>dI _ e au.2.2.1) (λe=>dI _ e au.2.2.2);have aw:=h3.cells;have cA:Kp (λb=>¬X b\/b=wb) w w3:=am.It ck (λb e=> .inr (.inl (dI b e)));refine PT 13 O (Sv O) (aa.kp.trans av)$ qE$ RI O$ QA O$ Qd Yw O$ Qd VB O$ Qd Sg O$ qV (PX U3 O O aw O)$ SA O$ QA O$ Qd Zt O ?_;rw[show(len:Int)-1=((len-1:Nat):Int) by omega];refine Qb O (RV Rl O O O aw ξ) ?_;rintro w4 ⟨aM,ar⟩;have h4:=h3.re ar (show Q7 w4 wb (swC Q.s st len (.slice a2 l.length c2) (len-1) T.length sum (z30 bs bx bw) false) 181 from aM);have ji:=fL.own ar (λb e=> .inl (by rw[e];exact au.1));have eH:=dj.kp ar (λb hb e=>fm b hb (by rw[e];exact au.1));have fC:=h4.cells;have af:=Ext.Qh w4;have fW:=cA.trans (ar.PU λb e=>Or.inr e);have jf:=QQ 8 T.length;have eM:=QQ 4 sum;have vQ:(l++zeros (500-l.length)).length=500:=by rw[List.length_append,show(zeros (500-l.length)).length=500-l.length by simp[zeros]];omega
   rw[List.length_append] at vQ;refine PQ$ Qy.qb (e:=[(0,_),(6,_)]) ?_;refine An$ Qn [20,21] (λw'=>Ext w4 w') (by kernel_rfl) O$ R1 0 O O (af)$ Qs 1 O (R8 O) af$ Qs 2 O (Qz z1u O) af$ qL 3 O (λ_ h=>PX U54 O O (h.PN fC) O) af$ R1 4 O O (af)$ R1 6 O O (af)$ Qs 7 O (R8 O) af$ Qs 8 O (Qz z1v O) af$ qL 9 O (λ_ h=>PX U3 O O (h.PN fC) O) af$ Qs 10 O ((Rp O U3 SL ω)) af$ R1 13 O O (af)$ Qs 14 O (R8 O) af ?_;refine Qs 15 O (Qz z4Q O) af$ qL 16 O (λ_ h=>PX RQ O O (h.PN fC) O) af$ Qs 17 O (Rp O RQ SL ω) af$ qL 5 O (λ_ h=>zh5 (l:=l++zeros (500-l.length)) Tr U5 U9 O (by rw[List.length_append,vQ];exact eH.rd.ext h) (by rw[List.length_append];omega)) af ?_;refine Sc (i:=11) (by kernel_rfl)$ SW (i:=11) O O O (yc zkO O) (z19 T.length 8 _ ω ω) ?_;rintro _ w5 ⟨rfl,aU⟩;refine⟨af.trans aU,?_⟩;refine Qs 12 O (XW O O (by first|omega|(simp;done)|(simp;omega))) (af.trans aU) ?_;refine Sc (i:=18) (by kernel_rfl)$ SW (i:=18) O O O (yc zkO O) (z19 sum 4 _ ω ω) ?_;rintro _ w6 ⟨rfl,aS⟩;refine⟨(af.trans aU).trans aS,?_⟩;have cW:=(af.trans aU).trans aS
   have lK:∀b,(X b\/(Value.slice a3 500 c3).ownBlock=some b)->b<w6.heap.size:=λb hb=>by
    have:=cW.size;have:=ar.size;have:=ck.size;rcases hb with e| e
    ·have:=hX b e;omega
    ·have:=dj.lt e;omega
   refine Qs 19 O (XW O O (by first|omega|(simp;done)|(simp;omega))) ((af.trans aU).trans aS) ?_;refine Ut [20] ?_;have iN:(l++zeros (500-l.length)++Vg 8 T.length++Vg 4 sum).length=512:=by rw[List.length_append,List.length_append,List.length_append,vQ,QQ,QQ]
   refine qO 20$ Xr (i:=20) O O O (T6 zg3 O O) (z0I (ji.ext' cW) lK ω (h4.ext cW) ⟨.inl au.1,.inl au.2.1,.inl au.2.2.1,.inl au.2.2.2⟩ ω _ iN) ?_;rintro _ w7 ⟨rfl,tw,h7,aA⟩;refine⟨trivial,?_⟩;have bU:=h7.cells;refine PT 21 O (Sv O) trivial$ qE$ Qx O$ QA O$ Qd z0d O$ Qb O (RV VK O O O bU ξ) ?_;rintro w8 ⟨co,aK⟩;have pW:=(tw.own aK (λb e=> .inl (by rw[e];exact au.1))).less (Y:=X) (λb e=> .inl e);refine PQ$ Qy.qb (e:=[(7,_)]) ?_;refine Qx O$ Qc O$ PO func53 O (⟨_,rfl,rfl,_,pW,λj hj=>?_,⟨l++zeros (500-l.length),?_,by rw[List.length_append,vQ]⟩,λy hy=>?_,?_⟩)
   ·by_cases e:j=len-1
    ·subst e;refine⟨zeros (500-l.length)++Vg 8 T.length++Vg 4 sum,?_⟩;rw[Tk];show l++_++_++_=_;rw[<-hl,List.take_of_length_le ω];simp only[List.append_assoc]
    ·obtain⟨z,hz⟩:=Gx j ω hj;exact⟨z,by rw[SD _ _ ω];exact hz⟩
   ·rw[Tk];show _++_++_=_;unfold YS;simp only[List.append_assoc]
   ·rw[SD _ _ ω];exact Gy y hy
   ·refine((fW.trans cW.kp).It aA λb e=>?_).trans (aK.PU λb e=> .inr e);rcases e with e| e
    ·by_cases hb:X b
     ·exact absurd (.inl hb) e
     ·exact .inr (.inl hb)
    ·exact .inr (.inr e)
  case dU=>
   refine Rr O (λi9=>?_)$ λi9=>?_
   ·have zw:=hq.1 i9;have hr:500<T.length%512/\T.length / 512=len-2/\2<=len:=by omega
    have aT:=Ext.Qh w1;refine An$ An$ Qn [17,18] (λw'=>Kp (λb=>(Value.slice a0 (T.length%512) c0).ownBlock=some b) w1 w') (by kernel_rfl) O$ R1 0 O O (aT.kp)$ Qs 1 O (R8 O) (aT.kp)$ Qs 2 O (Qz z1u O) (aT.kp)$ qL 3 O (λ_ h=>PX U54 O O (h.PN ai (λe=>bE _ e au.1)) O) (aT.kp)$ R1 4 O O (aT.kp)$ Qs 5 O (R8 O) (aT.kp)$ Qs 6 O (Qz Ua O) (aT.kp)$ qL 7 O (λ_ h=>PX Tr O O (h.PN ai (λe=>bE _ e au.1)) O) (aT.kp)$ R1 8 O O (aT.kp)$ R1 9 O O (aT.kp)$ Qs 10 O (R8 O) (aT.kp) ?_;refine Qs 11 O (Qz Ua O) (aT.kp)$ qL 12 O (λ_ h=>PX Tr O O (h.PN ai (λe=>bE _ e au.1)) O) (aT.kp)$ Qs 13 O (TP Tr O) (aT.kp)$ Qs 14 O (YM O O ω) (aT.kp) ?_;rw[show(512:Int)-((T.length%512:Nat):Int)=((512-T.length%512:Nat):Int) by omega];refine Sc (i:=15) (by kernel_rfl)$ Ru (i:=15) O O O (zjN Tr U3 U9 Y7 O O (ky.ext aT) ω) ?_;rintro v2 w2 ⟨cS,am,tT⟩;refine⟨aT.kp.trans am,?_⟩;rw[show T.length%512+(512-T.length%512)=512 by omega,<-List.map_append] at cS;have vQ:(T.drop (512*(T.length / 512))++zeros (512-T.length%512)).length=512:=by rw[List.length_append,List.length_drop,show(zeros (512-T.length%512)).length=512-T.length%512 by simp[zeros]];omega
    refine Sc (i:=16) (by kernel_rfl)$ zfc (i:=16) O O O (zh5 (l:=T.drop (512*(T.length / 512))++zeros (512-T.length%512)) Tr U5 U9 O (by rw[vQ];exact cS.rd) ω) (aT.kp.trans am) ?_;have bA:=aT.kp.trans am;have ev:Sp Q txt K X w2:=ge.step bA (λb e=> .inr e) (λb e=> .inl (.inl e));have h2:=h1.kp bA (λe=>bE _ e au.1) (λe=>bE _ e au.2.1) (λe=>bE _ e au.2.2.1) (λe=>bE _ e au.2.2.2);have nE:=bA.size;refine Ut [17]$ qO 17$ Xr (i:=17) O O O (T6 zg3 O O) (z0I ev (λb hb=>by have:=hX b hb;omega) ω h2 au ω _ vQ) ?_;rintro _ w3 ⟨rfl,fL,h3,av⟩;refine⟨trivial,?_⟩;have aw:=h3.cells;refine PT 18 O (Sv O) trivial$ qE$ Qx O$ RA O$ Re O$ St O$ QA O$ Qd Ua O$ Qb O (RV z3g O O O aw ξ) ?_;rintro w4 ⟨aM,ar⟩;have h4:=h3.re ar (show Q7 w4 wb (swC Q.s st len (.slice none 0 0) (T.length / 512+1) T.length sum (z30 bs bx bw) false) 181 from aM);have ji:=fL.own ar (λb e=>by rw[e];exact au.1);have lT:(T.drop (512*(T.length / 512))).take 512=T.drop (512*(T.length / 512)):=List.take_of_length_le (by rw[List.length_drop];omega);refine PQ$ Qy.qb (e:=[(0,_),(4,_)]) ?_;refine(aq _ _ ⟨rfl,_,.slice none 0 0,_,[],ji.less (λb e=>e.elim id (λe=>by cases e)),h4,Sl.nil w4 _ 1,Nat.zero_le _,(λb e=>by cases e),(List.drop_of_length_le ω).symm,λj hj m8=>?_,λy hy=>?_,?_⟩).qb
    ·by_cases e:j=T.length / 512
     ·subst e;exact⟨zeros (512-T.length%512),by rw[Tk,lT];rfl⟩
     ·exact⟨[],by rw[SD _ _ ω,List.append_nil];exact jm j ω⟩
    ·rw[SD _ _ ω]
    ·refine((ad.kp.It bA λb e=> .inr (.inl (bE b e))).trans av).trans (ar.PU λb e=> .inr e)
   ·have zw:¬T.length / 512<len-1:=λe=>by rw[hq.2 e] at i9;cases i9
    have Nl:T.length / 512=len-1:=by omega
    have fu:(T.drop (512*(T.length / 512))).length=T.length%512:=by rw[List.length_drop];omega
    refine PR ((aq _ _ ⟨rfl,txt,.slice a0 (T.length%512) c0,T.length / 512,T.drop (512*(T.length / 512)),ge.more ω,h1,by rw[fu];exact ky,ω,bE,by rw[Nl],λj hj m8=>⟨[],by rw[List.append_nil];exact jm j ω⟩,λy hy=>rfl,ad.kp⟩).qb)
 case gl=>
  refine S5 (λw'=>Ext w w') O$ Qi 0 O O (hg)$ PT 1 O (R8 O) hg$ PT 2 O (Qz Zt O) hg$ qT 3 O (λ_ h=>PX U3 O O (h.PN hB) O) hg$ Qi 4 O O (hg)$ PT 5 O (R8 O) hg$ PT 6 O (Qz Yw O) hg$ PT 7 O (Qz VB O) hg$ PT 8 O (Qz Sg O) hg$ qT 9 O (λ_ h=>PX U3 O O (h.PN hB) O) hg$ PT 10 O (YM O O ω) hg ?_;rw[show(len:Int)-1=((len-1:Nat):Int) by omega];rcases Nat.lt_or_ge (T.length / 512) (len-1) with hq|hq
  ·refine PT 11 O (ylt O O) hg$ Vd$ Qi 12 O O (hg)$ Qi 13 O O (hg)$ PT 14 O (R8 O) hg$ PT 15 O (Qz Ua O) hg$ qT 16 O (λ_ h=>PX Tr O O (h.PN hB) O) hg$ PT 17 O (TP Tr O) hg$ PT 18 O (Zr O O) hg$ Vd$ PT 19 O (W2 O O) hg$ qE$ Qy.qb (e:=[(0,_),(2,_),(4,_),(38,_)]) ?_;exact(aW _ _ ⟨true,rfl,⟨λ_=>hq,λ_=>rfl⟩,hg⟩).qb
  ·refine PT 11 O (ylt O O) hg$ UQ$ Qi 12 O O (hg)$ qJ 13 O (hg)$ qJ 14 O (hg)$ qJ 15 O (hg)$ qJ 16 O (hg)$ qJ 17 O (hg)$ qJ 18 O (hg)$ PT 19 O (Vt O O) hg$ qE$ Qy.qb (e:=[(0,_),(2,_),(4,_),(38,_)]) ?_;exact(aW _ _ ⟨false,rfl,⟨λe=>(by cases e),λe=>by omega⟩,hg⟩).qb
end
open Go.Shelf
def BdM (w:World)(b:Nat)(l:PV)(v:Value):Prop:=(∃p,(p= .pointer none\/p=ptr b 0)/\Q7 w b [p,v] 160)/\Sl w v 5 1 l.length (l.map U8)/\v.ownBlock≠some b
section
variable {w w':World}{b:Nat}{l s:PV}{v:Value}{S':Nat->Prop}
def BdM.kp (h:BdM w b l v)(hk:Kp S' w w')(h1:¬S' b)(h2:∀g,v.ownBlock=some g->¬S' g):BdM w' b l v:=by
 obtain⟨⟨p,hp,hB⟩,hS,hn⟩:=h
 exact⟨⟨p,hp,hk.PN hB h1⟩,hS.kp hk h2,hn⟩
def BdM.new (h:Q7 w b [.pointer none,.slice none 0 0] 160):BdM w b [] (.slice none 0 0):=⟨⟨_,.inl O,h⟩,Sl.nil w _ 1,λe=>by cases e⟩
def Q7.shape {cs:List Value}{T:TypeId}(h:Q7 w b cs T):w.shape? b=some (T,cs.length):=by
 obtain⟨fz,hb,-⟩:=h
 simp[World.shape?,hb]
def zdc (h:BdM w b l v):Qu prog 110 [ptr b 0] w λr w'=>r= .tuple #[]/\BdM w' b l v/\Kp (λk=>k=b) w w':=by
 obtain⟨⟨p,hp,hB⟩,hS,hn⟩:=h
 rcases hp with rfl|rfl
 ·refine Calls.mono (Any.Builder_copyCheck_fresh {zh6 with} zgZ.toX72 b w (hB.cell 0) hB.shape (hB.free (i:=0) ξ)) λ_ _ ⟨he,hw⟩=>⟨_,he,rfl,?_,?_⟩
  ·rw[hw];have hk:=UM w b 0 (ptr b 0);exact⟨⟨_,.inr O,Y0 hB 0 (ptr b 0)⟩,hS.kp hk (λg hg e=>hn (e▸hg)),hn⟩
  ·rw[hw];exact UM w b 0 _
 ·exact Calls.mono (Any.Builder_copyCheck_used {zh6 with} zgZ.toX72 b w (hB.cell 0)) λ_ _ ⟨he,hw⟩=>⟨_,he,rfl,by rw[hw];exact⟨⟨_,.inr O,hB⟩,hS,hn⟩,by rw[hw];exact Kp.refl _ _⟩
def z5N (h:BdM w b l v)(s:PV)(hl:l.length+s.length<=140737488355328):Qu prog 69 [ptr b 0,S s] w λ_ w'=>∃v',BdM w' b (l++s) v'/\Kp (λk=>k=b\/v.ownBlock=some k) w w'/\(∀g,v'.ownBlock=some g->v.ownBlock=some g\/w.heap.size<=g):=by
 refine py (e:=[(0,_),(1,_)]) func69 O ntmps69 O O$ qN O$ TN O$ RZ O$ Qk zhE O (zdc h) ?_
 rintro _ w1 ⟨rfl,⟨⟨p,hp,ai⟩,ky,dl⟩,ay⟩
 have nR:=ay.size
 have l1:=ai.lt
 refine qM O$ Qp O$ QA O$ Qd z1B O$ qV (PX Tr O O ai O)$ Q4 O$ PY O O (zks Tr U9 Y7 O O ky hl) ?_
 rintro v2 w2 ⟨cS,am,xC⟩
 have ak:=am.PN ai dl
 have nE:=am.size
 have kj:v2.ownBlock≠some b:=λe=>by
  rcases xC b e with e| e
  ·exact dl e
  ·omega
 refine QA O$ Qd z1B O$ Qb O (RV z3g O O (Yr cS) ak ξ) ?_
 rintro w3 ⟨aw,av⟩
 refine qM O$ Q4 O$ qV (Wf U9 O)$ Rt O$ PO func69 O ?_
 rw[<-List.length_append,<-List.map_append] at cS
 refine⟨_,rfl,v2,⟨⟨p,hp,aw⟩,cS.kp av (λg hg e=>kj (e▸hg)),kj⟩,((ay.PU λk e=> .inl e).trans (am.PU λk e=> .inr e)).trans (av.PU λk e=> .inl e),λg hg=>(xC g hg).imp id λe=>by omega⟩
def za5 (w:World)(a:Addr)(n:Nat):Kp (λk=>k=a.block) w (w.freeze a n):=by
 by_cases h0:n=0
 ·subst h0;rw[show w.freeze a 0=w by simp[World.freeze]];exact Kp.refl _ w
 ·unfold World.freeze;rw[if_neg h0]
  exact⟨rfl,rfl,rfl,ξ,λk _ hn=>by
   simp only[Array.getElem?_modify]
   rw[if_neg (λh=>hn h.symm)]⟩
section
variable {P:Program}{e:Env}{d:Option Nat}{ty t it el:TypeId}{pos:String}{aft:Array Edge}{g:Option (Nat×Bool)}{x y:Operand}{n c:Nat}{a:Option Addr}
def zlK (hx:look e x=some (.slice a n c))(hc:a≠none->c≠0):Y P e ⟨d,.call ⟨.builtin .unsafeSliceData,#[x],#[t]⟩,ty,pos,aft,g⟩ (.pointer a) w w:=fun ρ hρ=>by
 have hr:∀w,(Builtin.unsafeSliceData_ #[t] ty #[.slice a n c]).run P w= .ok (.pointer a) w:=λw=>by
  cases a with
  |none=>rfl
  |some a=>exact Lib.run_unsafeSliceData_row (P:=P) w #[t] ty a n c (hc ξ)
 simp[execOp,resolve,invoke,builtin,hρ _ _ hx,hr]
theorem zlF (hp:P.underlying t=some (.pointer el))(hc:P.cellsOf el=1)(hx:look e x=some (.pointer a))(hy:look e y=some (I (l.length:Int)))(hS:Sl w (.slice a l.length c) el 1 l.length (l.map U8))(Gq:l.length<=9223372036854775807)(h0:l=[]\/∃g,a=some ⟨g,0,none⟩):
  Yp P e ⟨d,.call ⟨.builtin .unsafeString,#[x,y],#[t,it]⟩,ty,pos,aft,g⟩ w λr w'=>r=S l/\Kp (λk=>(Value.slice a l.length c).ownBlock=some k) w w':=by
 by_cases hl:l=[]
 ·subst hl;have hr:=Lib.run_unsafeString_none (P:=P) w t it ty a;refine⟨_,w,fun ρ hρ=>?_,rfl,Kp.refl _ _⟩;have h1:=hρ _ _ hx;have h2:ρ y= .int .i64 0:=hρ _ _ hy;simp[execOp,resolve,invoke,builtin,h1,h2,hr]
  rfl
 ·obtain⟨b,rfl⟩:=h0.resolve_left hl;obtain⟨cur,kD,jZ,nO,aH,nS⟩:=hS.row;have bq:=World.ownsRow.cells hS (g:=b) O;simp only[Nat.mul_one] at aH nS
  have hr:=Lib.run_unsafeString_row (P:=P) w t it ty el hp hc b cur.length (by unfold We at kD;simp[World.shape?,kD]) l hl ω Gq (λj x hj=>by
   have:=bq j (U8 x) (by rw[List.getElem?_map,hj];rfl)
   exact this)
  refine⟨_,_,fun ρ hρ=>?_,rfl,(za5 w ⟨b,0,none⟩ l.length).PU λk e=>by rw[show k=b from e];rfl⟩;simp[execOp,resolve,invoke,builtin,hρ _ _ hx,hρ _ _ hy,hr]
end
def z3u (h:BdM w b l v)(h0:l=[]->v= .slice none 0 0)(hl:l.length<=140737488355328):Qu prog 70 [ptr b 0] w λr w'=>r=S l/\Kp (λk=>v.ownBlock=some k) w w':=by
 obtain⟨⟨p,hp,hB⟩,hS,hn⟩:=h
 obtain⟨a,c,rfl,ha⟩:=hS.rd.shape
 have hg:=Ext.Qh w
 have Ck:l=[]\/∃g,a=some ⟨g,0,none⟩:=by
  rcases hS.shape with⟨e,h1⟩|⟨g,cap,e,h1⟩
  ·exact .inl (List.eq_nil_of_length_eq_zero h1)
  ·cases e;exact .inr ⟨g,rfl⟩
 have sA:a≠none->c≠0:=λe=>by
  by_cases iK:l=[]
  ·have:=h0 iK
   injection this with e1 _ _
   exact absurd e1 e
  ·have th:l.length≠0:=by simpa using iK
   rcases hS.shape with⟨_,h1⟩|⟨g,cap,e2,h1⟩
   ·omega
   ·cases e2;omega
 refine py (e:=[(0,_)]) func70 O ntmps70 O O$ RN O$ An$ Qn [10,11] (λw'=>Ext w w') (by kernel_rfl) O$ R1 0 O O (hg)$ Qs 1 O (R8 O) hg$ Qs 2 O (Qz z1B O) hg$ qL 3 O (λ_ h=>PX Tr O O (h.PN hB) O) hg$ R1 5 O O (hg)$ Qs 6 O (R8 O) hg$ Qs 7 O (Qz z1B O) hg$ qL 8 O (λ_ h=>PX Tr O O (h.PN hB) O) hg$ Qs 9 O (TP Tr O) hg$ Qs 4 O (zlK O sA) hg ?_
 refine Ut [10]$ qO 10$ YZ (i:=10) O O O (zlF zmo (by kernel_rfl) O O (hS.ext hg) ω Ck) ?_
 rintro _ w1 ⟨rfl,ay⟩
 refine⟨trivial,?_⟩
 refine PT 11 O (Sv O) trivial$ qE$ PO func70 O ?_
 exact⟨_,rfl,rfl,hg.kp.trans ay⟩
end
def srC (s st len n sum:Nat):List Value:=[ptr s 0,I (st:Int),I (len:Int),I (n:Int),U sum]
section
variable {w w':World}{Q:Sj}{txt:Int->PV}{K:Nat}{X:Nat->Prop}{st len n sum rb:Nat}{T:PV}
def z8s (hP:Sp Q txt K X w)(hX:∀b,X b->b<w.heap.size)(hK:K<1000000000000)(h1:1<=len)(cd:st+len<=Q.L.length)(hn:n<=len*512-12)(i8:sum<4294967296)(hf:∃z,txt ((st+(len-1):Nat):Int)=z++YS n sum/\z.length=500):
  Qu prog 54 [ptr Q.s 0,.agg #[I (st:Int),I (len:Int)]] w λv w'=>∃rb,v= .tuple #[ptr rb 0,I 0]/\Q7 w' rb (srC Q.s st len n sum) 186/\w.heap.size<=rb/\Sp Q txt K (λb=>X b\/b=rb) w'/\Kp (λb=>¬X b) w w':=by
 have dS:=hP.n
 obtain⟨z,hz,yw⟩:=hf
 have iN:=z4Y n sum
 refine py (e:=[(0,_),(1,_)]) func54 O ntmps54 O O$ qN O$ PY O O (Se O (cs:=[I (st:Int),I (len:Int)]) O) ?_
 rintro _ w1 ⟨bx,rfl,fg,ad,jp⟩
 refine TN O$ RZ O$ qV (QB (news:=[I (st:Int),I (len:Int)]) YE O Sd O (jp.cells (n:=2) O) O)$ qV (Tq (cs:=[_,_,_]) YJ O zfQ O O)$ qV (Tq (cs:=[_,_,_,_,_]) zjz O ziT O O)$ PY O O (Se O (cs:=[ptr Q.s 0,I (st:Int),I (len:Int),I 0,U 0]) O) ?_
 rintro _ w2 ⟨rb,rfl,qv,ae,ak⟩
 have aG:=ad.trans ae
 have Gz:=ae.PN jp
 have z1:=ad.size
 have z2:=ae.size
 have ev:Sp Q txt K (λb=>X b\/b=rb) w2:=hP.ext aG (λb e=>e.imp id λe=>by omega)
 refine Qc O$ QS O$ QA O$ Qd z0b O$ qV (QB zeh O YJ O (Q7.cells (n:=3) ak (news:=[_,_,_]) O) O)$ Qk ziy O (z0V ev h1 cd) ?_
 rintro _ w3 ⟨rfl,ah⟩
 have fL:=ev.ext' ah
 have aw:=ah.PN ak
 have AU:=ah.PN Gz
 have z3:=ah.size
 have l2:=ak.lt
 have dh:=fL.read (λb hb=>by
  rcases hb with e| e
  ·have:=hX b e;omega
  ·omega) hK (no:=((st+(len-1):Nat):Int)) ω ω
 rw[hz] at dh
 refine RZ O$ RA O$ Re O$ Qx O$ Qd S4 O$ qV (PX U3 O O AU O)$ Qd Sg O$ qV (PX U3 O O AU O)$ R7 O$ SA O ?_
 rw[show(st:Int)+(len:Int)-1=((st+(len-1):Nat):Int) by omega]
 refine Qk zch O (dh) ?_
 rintro _ w4 ⟨rfl,ji,ar⟩
 have aM:=ar.PN aw (λe=>e (.inr O))
 refine Q4 O$ TK O$ Rt O$ Qy.qb (e:=[(4,_),(5,_),(6,_),(8,_),(9,_)]) ?_
 refine QS O$ RA O$ Re O$ RI O$ qV (Wf U9 O) ?_
 rw[show((z++YS n sum).length:Int)=512 by rw[List.length_append,iN,yw];rfl]
 refine SA O ?_
 rw[show(512:Int)-12=((500:Nat):Int) by omega]
 refine qV (ZJ (m:=500) U9 O O (by rw[List.length_append,iN,yw];omega)) ?_
 rw[show(z++YS n sum).drop 500=YS n sum from List.drop_left' yw]
 refine RZ O$ qV (z2c (m:=8) U9 O O (by rw[iN];omega)) ?_
 rw[show(YS n sum).take 8=Vg 8 n from List.take_left' (QQ _ _)]
 have tV:QL (Qm (Vg 8 n))=n:=z1R ω
 have GA:QL (Qm (Vg 4 sum))=sum:=z1R ω
 have jf:=QQ 8 n
 have eM:=QQ 4 sum
 refine Qk zjZ O (z3U (Vg 8 n) ω _) ?_
 rintro _ w5 ⟨rfl,aU⟩
 rw[tV]
 have aJ:=aU.PN aM
 have fT:=ji.ext' aU
 refine Qc O$ An$ RI O$ QA O$ Qd z0b O$ qV (QB zeh O YJ O (Q7.cells (n:=3) aJ (news:=[_,_,_]) O) O)$ Qk zia O (z2k fT ω) ?_
 rintro _ w6 ⟨rfl,aS⟩
 have aY:=aS.PN aJ
 have nM:=fT.ext' aS
 refine qV ((Rp O U3 SL ω))$ RK O$ QW$ PQ$ Qy.qb (e:=[(4,_),(5,_),(6,_),(10,_),(11,_),(54,_)]) ?_
 refine TT O$ RI O$ Q4 O$ qV (QU O SL U3 ω)$ Q4 O$ qV (ZJ (m:=8) U9 O O (by rw[iN];omega)) ?_
 rw[show(YS n sum).drop 8=Vg 4 sum from List.drop_left' (QQ _ _)]
 refine Qk zjZ O (z3U (Vg 4 sum) ω _) ?_
 rintro _ w7 ⟨rfl,cu⟩
 rw[GA]
 have bU:=cu.PN aY
 refine qV (z3H O SL RQ)$ QA O$ Qd z1x O$ Qb O (RV Rl O O O bU ξ) ?_
 rintro w8 ⟨co,aK⟩
 replace co:Q7 w8 rb [ptr Q.s 0,I (st:Int),I (len:Int),I (n:Int),U 0] 186:=co
 refine QA O$ Qd zeE O ?_
 rw[Nat.mod_eq_of_lt (show sum<2^32 by omega)]
 refine Qb O (RV Ql O O O co ξ) ?_
 rintro w9 ⟨cF,ax⟩
 refine qM O$ Q4 O$ Rt O$ PO func54 O ?_
 have qg:=(((nM.ext' cu).own aK (λb e=> .inr e)).own ax (λb e=> .inr e))
 refine⟨_,rfl,rb,rfl,cF,ω,qg,?_⟩
 have GB:Kp (λb=>¬X b) w w4:=((aG.trans ah).kp (S:=λb=>¬X b)).trans (ar.PU λb e e2=>e (.inl e2))
 refine(((GB.trans (aU.trans (aS.trans cu)).kp).It aK λb e=> .inl ω).It ax λb e=> .inl ω)
def zau (hB:Q7 w rb (srC Q.s st len n sum) 186):Qu prog 279 [ptr rb 0] w λv w'=>v=I (n:Int)/\w'=w:=by
 replace hB:Q7 w rb [ptr Q.s 0,I (st:Int),I (len:Int),I (n:Int),U sum] 186:=hB
 refine py (e:=[(0,_)]) func279 O ntmps279 O O$ RN O$ QS O$ qV (R9 ze4 O O)$ Re O$ Qx O$ QA O$ Qd z1x O$ qV (PX U3 O O hB O)$ Qc O$ PO func279 O ?_
 exact⟨_,rfl,rfl,rfl⟩
def zc0 (hP:Sp Q txt K (λb=>X b\/b=rb) w)(hX:∀b,X b->b<w.heap.size)(vR:¬X rb)(hK:K<1000000000000)(cd:st+len<=Q.L.length)(hL:Laid txt st T)(hB:Q7 w rb (srC Q.s st len T.length sum) 186)(hT:T.length<=len*512)(off n:Nat)(ho:off+n<=T.length):
  Qu prog 280 [ptr rb 0,I (off:Int),I (n:Int)] w λv w'=>v= .tuple #[S ((T.drop off).take n),I 0]/\Sp Q txt K (λb=>X b\/b=rb) w'/\Q7 w' rb (srC Q.s st len T.length sum) 186/\Kp (λb=>¬X b) w w':=by
 have dS:=hP.n
 have lrb:=hB.lt
 replace hB:Q7 w rb [ptr Q.s 0,I (st:Int),I (len:Int),I (T.length:Int),U sum] 186:=hB
 refine py (e:=[(0,_),(1,_),(2,_)]) func280 O ntmps280 O O$ qN O$ Rt O$ RP$ Qx O$ qV (R9 ze4 O O)$ Qc O$ PZ O$ Qx O$ RT O$ QW$ Qp O$ RT O$ QW ?_
 refine QY O$ Qp O$ Q4 O$ QA O$ Qd z1x O$ qV (PX U3 O O hB O)$ RK O$ QW$ QY O$ Qp O$ Q4 O$ QA O$ Qd z1x O$ qV (PX U3 O O hB O) ?_
 refine Q4 O$ SA O$ RK O$ QW$ QY O$ Qc O$ Qy.qb (e:=[(0,_),(1,_),(2,_),(6,_),(7,_),(15,_)]) ?_
 refine TT O$ PM$ Qx O$ QA O$ Qd z0b O$ Qd Wg O$ qV (PX Y1 O O hB O)$ Qk z5I O (hP.size) ?_
 rintro _ w ⟨rfl,rfl⟩
 refine S7 O$ PY O O (SE (cs:=[_,_]) zfO O) ?_
 rintro _ w1 ⟨bb,rfl,u7,ad,tc⟩
 have vS:=BdM.new tc
 have z1:=ad.size
 refine PQ$ RP$ SK (α:=Nat×Value) ((0,Value.slice none 0 0)) (λy=>[(0,ptr rb 0),(1,I ((off+y.1:Nat):Int)),(2,I ((n-y.1:Nat):Int)),(8,I 512),(9,ptr bb 0)]) (λy w'=>y.1<=n/\BdM w' bb ((T.drop off).take y.1) y.2/\(y.1=0->y.2= .slice none 0 0)/\(∀g,y.2.ownBlock=some g->w.heap.size<=g)/\Sp Q txt K (λb=>(X b\/b=rb)\/b=bb\/y.2.ownBlock=some b) w'/\Kp (λb=>¬(X b\/b=rb)) w w') (λy=>n-y.1) ?hI ?hround
 case hI=>exact⟨Nat.zero_le _,vS,λ_=>rfl,λg hg=>(by cases hg),hP.ext ad (λb e=>e.imp id λe=>e.elim (λe=>by omega) (λe=>by cases e)),ad.kp⟩
 case hround=>
  rintro⟨m,v⟩ w2 ⟨hm,lD,JH,gW,ev,am⟩ ih;dsimp only at hm lD JH gW ev ih⊢;have ak:=am.PN hB (λe=>e (.inr O));have hg:=Ext.Qh w2;have z2:=am.size;have lbb:bb<w2.heap.size:=by obtain⟨⟨p,hp,hb⟩,-,-⟩:=lD;exact hb.lt
  have mJ:∀b,((X b\/b=rb)\/b=bb\/v.ownBlock=some b)->b<w2.heap.size:=λb hb=>by
   rcases hb with(e|e)|e| e
   ·have:=hX b e;omega
   ·omega
   ·omega
   ·exact lD.2.1.lt e
  try dsimp only
  refine QS O$ RK O$ PQ$ Q8 O (λh0=>?_)$ λh0=>?_
  ·obtain⟨q,hq⟩:∃q,min (n-m) (512-(off+m)%512)=q:=⟨_,rfl⟩;have dG:=ev.z0s (x:=((st+(off+m) / 512:Nat):Int)) ω ω;have kh:=hL.piece (off:=off+m) (n:=q) ω ω;have dh:=(ev.ext' hg).read (λb hb=>by have:=mJ b hb;have:=hg.size;omega) hK (no:=((st+(off+m) / 512:Nat):Int)) ω ω;obtain⟨t,ht⟩:∃t,txt ((st+(off+m) / 512:Nat):Int)=t:=⟨_,rfl⟩;rw[ht] at dG kh dh;refine PR$ PS$ An$ S5 (λw'=>Kp (λb=>¬((X b\/b=rb)\/b=bb\/v.ownBlock=some b)) w2 w') O$ Qi 0 O O (hg.kp)$ PT 1 O (R8 O) (hg.kp)$ PT 2 O (Qz z0b O) (hg.kp)$ PT 3 O (Qz Wg O) (hg.kp)$ qT 4 O (λ_ hS=>PX Y1 O O (hS.PN ak (λe=>e (.inl (.inr O)))) O) (hg.kp)$ Qi 5 O O (hg.kp)$ PT 6 O (R8 O) (hg.kp)$ PT 7 O (Qz z0b O) (hg.kp)$ PT 8 O (Qz VB O) (hg.kp)$ PT 9 O (Qz S4 O) (hg.kp) ?_;refine qT 10 O (λ_ hS=>PX U3 O O (hS.PN ak (λe=>e (.inl (.inr O)))) O) (hg.kp)$ Qi 11 O O (hg.kp)$ Qi 12 O O (hg.kp)$ PT 13 O (Yh O O ω) (hg.kp)$ PT 14 O (Wa O O ω) (hg.kp) ?_;rw[show(st:Int)+((off+m:Nat):Int) / 512=((st+(off+m) / 512:Nat):Int) by omega];refine T9 15 O zch O (dh) ?_;rintro _ w3 ⟨rfl,fL,av⟩;refine⟨hg.kp.trans av,?_⟩;have ck:=hg.kp.trans av;have vT:=lD.kp ck (λe=>e (.inr (.inl O))) (λg hg e=>e (.inr (.inr hg)));refine Qi 16 O O (hg.kp.trans av)$ PT 17 O (Sz O O) (hg.kp.trans av)$ PT 18 O (Sz O O) (hg.kp.trans av)$ PT 19 O (Sv O) (hg.kp.trans av)$ PT 20 O (Sv O) (hg.kp.trans av)$ qE$ QS O$ RA O$ Re O$ RI O$ Q4 O$ qV (yre O O ω) ?_;rw[show((off+m:Nat):Int)%512=(((off+m)%512:Nat):Int) by omega];refine qV (ZJ U9 O O ω)$ S7 O$ Qp O$ Q4 O$ qV (Wf U9 O)$ qV (ymi O O) ?_;rw[show min ((n-m:Nat):Int) ((t.drop ((off+m)%512)).length:Int)=((q:Nat):Int) by rw[List.length_drop];omega];refine qV (z2c (m:=q) U9 O O (by rw[List.length_drop];omega)) ?_;rw[kh];have EI:((T.drop (off+m)).take q).length=q:=by rw[List.length_take,List.length_drop];omega
   have i7:((T.drop off).take m).length<=m:=by rw[List.length_take];omega
   refine RZ O$ Qk zhV O (z5N vT ((T.drop (off+m)).take q) ω) ?_;rintro _ w4 ⟨v4,rP,ar,qr⟩;have z3:=ck.size;refine qM O$ Qp O$ qV (Wf U9 O) ?_;rw[EI];refine R7 O$ Qc O$ PW O$ Qp O$ qV (Wf U9 O) ?_;rw[EI];refine SA O$ Qc O$ PM ?_;rw[show((off+m:Nat):Int)+(q:Int)=((off+(m+q):Nat):Int) by omega,show((n-m:Nat):Int)-(q:Int)=((n-(m+q):Nat):Int) by omega];refine(ih (m+q,v4) _ ⟨by dsimp only;omega,?_,λe=>by dsimp only at e;omega,λg hg=>(qr g hg).elim (gW g) (λe=>by omega),?_,?_⟩ (by dsimp only;omega)).qb
   ·dsimp only;rw[List.take_add,List.drop_drop];exact rP
   ·exact fL.step ar (λb e=> .inr e) (λb e=>by
     rcases e with e|e| e
     ·exact .inl (.inl e)
     ·exact .inl (.inr (.inl e))
     ·exact(qr b e).imp (λe=> .inr (.inr e)) id)
   ·refine(am.trans (ck.PU λb e e2=>e (.inl e2))).It ar λb e=> .inl ?_;rcases e with e| e
    ·omega
    ·exact gW b e
  ·have AV:m=n:=by omega
   subst AV;refine Q5 O$ qN O$ Qk ziM O (z3u lD (λe=>JH (by have:=congrArg List.length e;rw[List.length_take,List.length_drop,List.length_nil] at this;omega)) (by rw[List.length_take,List.length_drop];omega)) ?_;rintro _ w3 ⟨rfl,av⟩;refine Rt O$ PO func280 O ?_;have cA:Kp (λb=>¬(X b\/b=rb)) w w3:=am.It av (λb e=> .inl (gW b e));exact⟨_,rfl,rfl,ev.step av (λb e=> .inr (.inr e)) (λb e=> .inl (.inl e)),cA.PN hB (λe=>e (.inr O)),cA.PU λb e e2=>e (.inl e2)⟩
end
section
variable {t:TypeId}{u:Value}{p:Ry}{g:List (List Nat)}{E:List (Nat×Nat)}{R:Src t u (YI p g E)}{k x:Nat}{X Y:Nat->Prop}{w w':World}
def z8u (k v:Nat)(w:World):Qu prog 140 [ptr k 0,I (v:Int)] w λr w'=>∃bk bi,r= .func (.func 170) #[] #[ptr bk 0,ptr bi 0]/\Q7 w' bk [ptr k 0] 28/\Q7 w' bi [I (v:Int)] 3/\w.heap.size<=bk/\w.heap.size<=bi/\Ext w w':=by
 refine py (e:=[(0,_),(1,_)]) func140 O ntmps140 O O$ qN O$ PY O O (Se O (cs:=[ptr k 0]) O) ?_
 rintro _ w1 ⟨bk,rfl,fH,ad,xo⟩
 refine PY O O (Se O (cs:=[I (v:Int)]) O) ?_
 rintro _ w2 ⟨bi,rfl,xE,ae,GC⟩
 refine S7 O$ qV (ymf (first:=[]) (caps:=[.tmp 2,.tmp 3]) O O)$ Qc O$ PO func140 O ?_
 have:=ad.size
 exact⟨_,rfl,bk,bi,rfl,ae.PN xo,GC,ω,ω,ad.trans ae⟩
def z7F {l bk bi v:Nat}(jF:g.length<50)(hv:v<g.length)(h:W9 R k x X w)(fH:Q7 w bk [ptr k 0] 28)(xE:Q7 w bi [I (v:Int)] 3)(Z:Nat->Prop)(hZ:∀j,Z j->X j)(J:(Nat->Prop)->Nat->World->Prop)(F:World->Prop)
  (h0:∀(Y:Nat->Prop) (w':World),(∀j,X j->Y j)->(∀j,Y j->X j\/w.heap.size<=j)->W9 R k x Y w'->Kp (λj=>¬X j) w w'->J Y 0 w')
  (hround:∀(Y:Nat->Prop) (i s:Nat) (w':World),(∀j,X j->Y j)->(∀j,Y j->X j\/w.heap.size<=j)->(Qe g v)[i]? =some s->J Y i w'->z3l prog l [QJ s,I 0] w' λr w''=>(r= .bool true/\J Y (i+1) w''/\Kp (λj=>¬Y j\/Z j) w' w'')\/(r= .bool false/\F w'')):
  Qu prog 170 [.func (.yield l) #[] #[],ptr bk 0,ptr bi 0] w λr w'=>r= .tuple #[]/\((∃Y,(∀j,X j->Y j)/\(∀j,Y j->X j\/w.heap.size<=j)/\J Y (Qe g v).length w')\/F w'):=by
 have aR:=h.lt
 have fU:(Qe g v).length<=g.length:=by
  unfold Qe;rw[List.getElem?_eq_getElem hv];exact h.ok.gr.len (List.getElem_mem hv)
 refine py (e:=[(0,_),(1,_),(2,_)]) func170 O ntmps170 O O$ qN O$ qV ((PX YV O O fH O))$ qV ((PX U3 O O xE O))$ Qk zk8 O (z6S jF hv h) ?_
 rintro _ w1 ⟨vv,rfl,ky,je,h1,ay⟩
 have dh:=ky.rd
 obtain⟨a,c,rfl,ha⟩:=dh.shape
 refine Q4 O$ qV (Sz (v:= .slice a (Qe g v).length c) O O)$ qV (Sz (v:=I 0) O O)$ Rt O$ QS O$ RA O$ Re O$ Qx O$ SR QE O$ Q4 O$ PQ$ PS ?_
 obtain⟨Y,hY⟩:∃Y:Nat->Prop,(λj=>X j\/(Value.slice a (Qe g v).length c).ownBlock=some j)=Y:=⟨_,rfl⟩
 rw[hY] at h1
 have aN:∀j,X j->Y j:=λj hj=>by rw[<-hY];exact .inl hj
 have lL:∀j,Y j->X j\/w.heap.size<=j:=λj hj=>by
  rw[<-hY] at hj;exact hj.imp id (je j)
 have JI:∀j,(Value.slice a (Qe g v).length c).ownBlock=some j->Y j/\¬Z j:=λj hj=>⟨by rw[<-hY];exact .inr hj,λe=>by have h2:=je j hj;have h3:=aR j (hZ j e);omega⟩
 refine SK (α:=Nat) (0) (λi=>[(0,.func (.yield l) #[] #[]),(19,.slice a (Qe g v).length c),(20,I ((Qe g v).length:Int)),(21,I (i:Int))]) (λi w'=>i<=(Qe g v).length/\J Y i w'/\Rd w' (.slice a (Qe g v).length c) 1 (Qe g v).length ((Qe g v).map QJ)) (λi=>(Qe g v).length-i) ?hI ?hround
 case hI=>exact⟨Nat.zero_le _,h0 Y w1 aN lL h1 ay,dh⟩
 case hround=>
  rintro i w2 ⟨hi,hJ,AW⟩ ih
  try dsimp only
  refine qN O$ RT O$ PQ$ An$ Q8 O (λhq=>?_)$ λhq=>?_
  ·obtain⟨s,hs⟩:∃s,(Qe g v)[i]? =some s:=⟨_,List.getElem?_eq_getElem ω⟩;rcases AW.2 with⟨⟨ca,cc⟩,ju,xy⟩|⟨b,off,cap,ju,hc⟩
   ·omega
   cases ju;have bq:w2.cell? ⟨b,off+i*1,none⟩=some (QJ s):=hc (i*1) _ (by rw[Nat.mul_one,List.getElem?_map,hs];rfl);refine PR$ RP$ qN O$ qV (Rh QE Ql O O ω)$ qV (QF RQ O O bq)$ S7 O$ Qp O$ z47 O O (yy O O) (hround Y i s w2 aN lL hs hJ) ?_;rintro r w3 gh;rcases gh with⟨rfl,Nm,av⟩|⟨rfl,hF⟩
   ·refine qV ((T7 O))$ Re O$ PM$ PW O$ R7 O$ Q4 O$ PQ ?_;exact(ih (i+1) _ ⟨ω,Nm,AW.kp av (λj hj e=>e.elim (λe=>e (JI j hj).1) (JI j hj).2)⟩ ω).qb
   ·refine qV ((T7 O))$ PQ$ Qa O$ PO func170 O ?_;exact⟨_,rfl,rfl,.inr hF⟩
  ·have dq:i=(Qe g v).length:=by omega
   subst dq;refine Q5 O$ Rq func170 O ?_;exact⟨_,rfl,rfl,.inl ⟨Y,aN,lL,hJ⟩⟩
end
structure StO (Q:Sj)(txt:Int->PV)(K st len:Nat)(T:PV):Prop where
 k:K<1000000000000
 fit:st+len<=Q.L.length
 laid:Laid txt st T
 len:T.length<=len*512
def z8z {Q:Sj}{txt:Int->PV}{K st len:Nat}{T:PV}(o:StO Q txt K st len T)(rb sum:Nat):Src 124 (ptr rb 0) T where
 inv X w:=Sp Q txt K (λb=>X b\/b=rb) w/\Q7 w rb (srC Q.s st len T.length sum) 186/\¬X rb
 fl:=279
 fr:=280
 cl:=zht
 cr:=zhl
 ml:=by kernel_rfl
 mr:=by kernel_rfl
 ext:=λh hx hY=>⟨h.1.ext hx λb e=>e.elim (λe=>(hY b e).elim (λe=> .inl (.inl e)) .inr) (λe=> .inl (.inr e)),hx.PN h.2.1,λe=>(hY _ e).elim h.2.2 (λe=>by have:=h.2.1.lt;omega)⟩
 step:=λh hk hS hY=>⟨h.1.step hk (λb e=> .inl (hS b e)) λb e=>e.elim (λe=>(hY b e).elim (λe=> .inl (.inl e)) .inr) (λe=> .inl (.inr e)),hk.PN h.2.1 (λe=>h.2.2 (hS _ e)),λe=>(hY _ e).elim h.2.2 (λe=>by have:=h.2.1.lt;omega)⟩
 len:=λh=>(zau (Q:=Q) h.2.1).mono λv w' ⟨hv,hw⟩=>⟨hv,by rw[hw];exact Ext.refl _⟩
 rd:=λoff n h hX Cj=>(zc0 h.1 hX h.2.2 o.k o.fit o.laid h.2.1 o.len off n Cj).mono λv w' ⟨hv,h1,h2,h3⟩=>⟨hv,⟨h1,h2,h.2.2⟩,h3⟩
section
variable {t:TypeId}{u:Value}{p:Ry}{g:List (List Nat)}{E:List (Nat×Nat)}{k x:Nat}{X S:Nat->Prop}{w w':World}
def W9.re {R R':Src t u (YI p g E)}(h:W9 R k x X w)(hk:Kp S w w')(hS:∀j,S j->j≠k/\j≠x/\j≠1/\j≠2)(hI:R'.inv X w'):W9 R' k x X w':=
 ⟨h.ok,hk.PN h.PN (λe=>(hS _ e).1 O),hk.PN h.ix (λe=>(hS _ e).2.1 O),h.xk,h.xx,hI,λj hj=>by have:=h.lt j hj;have:=hk.size;omega,h.x1,h.x2,hk.PN h.gam (λe=>(hS _ e).2.2.1 O),hk.PN h.una (λe=>(hS _ e).2.2.2 O)⟩
def z8a {Q:Sj}{txt:Int->PV}{K st len rb sum:Nat}(hp:Ue p g E)(o:StO Q txt K st len (YI p g E))(hI:(z8z o rb sum).inv X w)(hX:∀j,X j->j<w.heap.size)(x1:X 1)(x2:X 2)(hG:Q7 w 1 (Ts .gamma) 294)(hU:Q7 w 2 (Ts .unary) 294):
  Qu prog 55 [ptr rb 0] w λv w'=>∃k x,v= .tuple #[ptr k 0,I 0]/\w.heap.size<=k/\w.heap.size<=x/\W9 (z8z o rb sum) k x (λj=>X j\/j=x\/j=k) w'/\Kp (λj=>¬X j) w w':=by
 refine py (e:=[(0,_)]) func55 O ntmps55 O O$ qN O$ Rt O$ QS O$ qV (R9 ze4 O O)$ Re O$ Qx O$ qV (zkj ze4 (λ_ h=>by cases h) rfl) ?_
 refine Qk zlu O (z7s hp (z8z o rb sum) hI hX) ?_
 rintro _ w1 ⟨k,x,rfl,ai,ak,hx,hk,bE,nj,ay⟩
 refine TK O$ Rt O$ PO func55 O ?_
 have z1:=ay.size
 have l1:=ai.lt
 have l2:=ak.lt
 refine⟨_,rfl,k,x,rfl,hk,hx,⟨hp,ai,ak,.inr (.inr O),.inr (.inl O),nj,λj hj=>?_,.inl x1,.inl x2,ay.PN hG (λe=>e x1),ay.PN hU (λe=>e x2)⟩,ay⟩
 rcases hj with e|e| e
 ·have:=hX j e;omega
 ·omega
 ·omega
end
theorem zel {n each:Nat}(he:1<=each):max (1:Int) (((n:Int)+(each:Int)-1) / (each:Int))=((WA n each:Nat):Int):=by
 unfold WA
 rw[show(n:Int)+(each:Int)-1=((n+each-1:Nat):Int) by omega]
 have h:((n+each-1:Nat):Int) / (each:Int)=(((n+each-1) / each:Nat):Int):=rfl
 rw[h]
 generalize (n+each-1) / each=q
 omega
section
variable {w w':World}{Q:Sj}{txt:Int->PV}{vb width st each n:Nat}{xs:List Nat}
abbrev shV (n width each:Nat):Value:= .agg #[I (n:Int),I (width:Int),I (each:Int)]
def ZO (n width each:Nat)(he:1<=each/\each<=512)(hn:n<=4194304)(w:World):Qu prog 57 [shV n width each] w λv w'=>v=I (WA n each:Int)/\Ext w w':=by
 refine py (e:=[(0,_)]) func57 O ntmps57 O O$ qN O$ PY O O (Se O (cs:=[I (n:Int),I (width:Int),I (each:Int)]) O) ?_
 rintro _ w1 ⟨b1,rfl,bL,ad,ai⟩
 refine S7 O$ Qd ZC O$ qV (PX U3 O O ai O)$ Qd Xg O$ qV (PX U3 O O ai O)$ R7 O$ SA O$ Qd Xg O$ qV (PX U3 O O ai O)$ qV (Yh O O ω)$ qV (yma O O)$ Qc O ?_
 rw[zel he.1]
 refine PO func57 O ?_
 exact⟨_,rfl,rfl,ad⟩
def z2v (n width each x:Nat)(hw:width=1\/width=2\/width=4\/width=8)(hx:x<2^(8*width))(w:World):Qu prog 60 [shV n width each,Qg x] w λv w'=>v= .bool true/\Ext w w':=by
 refine py (e:=[(0,_),(1,_)]) func60 O ntmps60 O O$ qN O$ PY O O (Se O (cs:=[I (n:Int),I (width:Int),I (each:Int)]) O) ?_
 rintro _ w1 ⟨b1,rfl,bL,ad,ai⟩
 refine S7 O$ Qd UG O$ qV (PX U3 O O ai O) ?_
 by_cases h8:width=8
 ·refine Ss O$ SM$ Q4 O$ S6$ S6$ S6$ Sa O$ Qc O$ PO func60 O ?_;exact⟨_,rfl,rfl,ad⟩
 ·have Nn:8*width<=32:=by omega
  have hp:1*2^(8*width)%18446744073709551616=2^(8*width):=by
   have:=Nat.pow_le_pow_right (show 0<2 by decide) Nn;rw[Nat.one_mul,Nat.mod_eq_of_lt ω]
  refine Ss O$ QW$ Qp O$ Qd UG O$ qV (PX U3 O O ai O)$ qV (Xq O O ω) ?_;rw[show(8:Int)*(width:Int)=((8*width:Nat):Int) by omega];refine qV (Sr (8*width) (2^(8*width)) O O ω O) ?_;rw[hp]
  generalize 2^(8*width)=P at hx⊢
  refine RT O$ SM$ QY O$ Qc O$ PO func60 O ?_;exact⟨_,rfl,rfl,ad⟩
def Z8 (n width each x:Nat)(hw:width<=8)(hx:x<18446744073709551616)(w:World):Qu prog 62 [shV n width each,Qg x] w λv w'=>v=S (Vg width x)/\Ext w w':=by
 have fF:maxLen=9223372036854775807:=rfl
 refine py (e:=[(0,_),(1,_)]) func62 O ntmps62 O O$ qN O$ PY O O (Se O (cs:=[I (n:Int),I (width:Int),I (each:Int)]) O) ?_
 rintro _ w0 ⟨b0,rfl,t8,ku,ki⟩
 refine S7 O$ Qd UG O$ qV (PX U3 O O ki O)$ PY O O (pmk (c:=width) (n:=width) Tr Y7 O O O ω ω ω) ?_
 rintro _ w1 ⟨b1,rfl,⟨bL,ad,ai⟩,-⟩
 refine Qc O$ QS O$ SR Tr O$ Q4 O$ PQ$ PS ?_
 rw[<-z3q x width] at ai
 have l0:=ki.lt
 refine SK (α:=Nat) (0) (λk=>[(1,Qg x),(2,ptr b0 0),(5,.slice (some ⟨b1,0,none⟩) width width),(11,I (width:Int)),(12,I (k:Int))]) (λk w'=>k<=width/\Q7 w' b1 (z2Y x width k) 5/\Q7 w' b0 [I (n:Int),I (width:Int),I (each:Int)] 141/\Ext w0 w') (λk=>width-k) ?hI ?hround
 case hI=>exact⟨ω,ai,ad.PN ki,ad⟩
 case hround=>
  rintro k w2 ⟨hk,ak,AX,ae⟩ ih
  try dsimp only
  refine qN O$ RT O$ PQ$ An$ Q8 O (λaR=>?_)$ λaR=>?_
  ·have Gp:k<width:=by omega
   refine PR$ RP$ Qx O$ Qc O$ PW O$ Qp O$ Q4 O$ Qd UG O$ qV (PX U3 O O AX O)$ SA O$ Q4 O$ SA O$ qV (Xq O O ω) ?_;rw[show(8:Int)*(((width:Int)-1)-(k:Int))=((8*(width-1-k):Nat):Int) from by omega];refine qV (Vm (8*(width-1-k)) (2^(8*(width-1-k))) O O (by simp only[IntKind.bits];omega) O) ?_;refine qV (z4m O SL U5)$ qV (Rh Tr Y7 O O ω)$ Qb O (RV Y7 O O O ak (by simp;omega)) ?_;rintro w3 ⟨aw,av⟩;rw[z6D x width k Gp] at aw;refine PQ$ PM$ PW O$ R7 O$ Q4 O$ PQ ?_;exact(ih (k+1) w3 ⟨ω,aw,av.PN AX ω,ae.It av (λi hi=>by rw[hi,bL];exact Nat.le_refl _)⟩ ω).qb
  ·have:k=width:=by omega
   subst this;rw[z5z] at ak;refine Q5 O$ Qx O$ qV (z8j (l:=Vg k x) Tr U5 U9 O ak (by rw[List.drop_zero];exact List.take_of_length_le (by rw[List.length_map,QQ];omega)) (by simp[Vg])) ?_;refine Qc O$ PO func62 O ?_;exact⟨_,rfl,rfl,ku.trans ae⟩
def Ui (h:Vn Q txt vb width st xs w):Qu prog 59 [ptr vb 0] w λv w'=>v=I 0/\w'=w:=by
 have hB:=h.cells
 refine py (e:=[(0,_)]) func59 O ntmps59 O O$ RN O$ RP$ Qx O$ qV (R9 XA O O)$ Qc O$ PZ O$ Qx O$ QA O$ Qd z9O O$ qV (PX U4 O O hB O)$ Qc O$ TT O$ PM ?_
 refine RN O$ PO func59 O ?_
 exact⟨_,rfl,rfl,rfl⟩
theorem z5F (h:Vn Q txt vb width st xs w){i:Nat}(hi:i<xs.length)(hn:Q.L.length<=4096):Qu prog 72 [ptr vb 0,I (i:Int)] w λv w'=>v= .tuple #[I ((st+i / (512 / width):Nat):Int),I ((i%(512 / width)*width:Nat):Int)]/\Ext w w':=by
 have hB:=h.cells
 have hg:=Ext.Qh w
 obtain⟨e1,e2,e3,e4,e5⟩:=h.e
 obtain⟨a1,a2,a3⟩:=h.at_ hi
 have kB:=h.n
 have hd:((i:Nat):Int) / ((512 / width:Nat):Int)=((i / (512 / width):Nat):Int):=rfl
 have hm:((i:Nat):Int)%((512 / width:Nat):Int)=((i%(512 / width):Nat):Int):=rfl
 have Co:((i%(512 / width):Nat):Int)*(width:Int)=((i%(512 / width)*width:Nat):Int):=by rw[Int.natCast_mul]
 have fJ:(st:Int)+((i / (512 / width):Nat):Int)=((st+i / (512 / width):Nat):Int):=by rw[Int.natCast_add]
 generalize i / (512 / width)=q at*
 generalize i%(512 / width)=r at*
 generalize 512 / width=each at*
 refine py (e:=[(0,_),(1,_)]) func72 O ntmps72 O O$ qN O$ Rt O$ An$ S5 (λw'=>Ext w w') O$ Qi 0 O O (hg)$ PT 1 O (R8 O) hg$ PT 2 O (Qz ZD O) hg$ PT 3 O (Qz S4 O) hg$ qT 4 O (λ_ h=>PX U3 O O (h.PN hB) O) hg$ Qi 5 O O (hg)$ Qi 6 O O (hg)$ PT 7 O (R8 O) hg$ PT 8 O (Qz S8 O) hg ?_
 refine PT 9 O (Qz Xg O) hg$ qT 10 O (λ_ h=>PX U3 O O (h.PN hB) O) hg$ Qi 13 O O (hg)$ Qi 14 O O (hg)$ PT 15 O (R8 O) hg$ PT 16 O (Qz S8 O) hg$ PT 17 O (Qz Xg O) hg$ qT 18 O (λ_ h=>PX U3 O O (h.PN hB) O) hg$ Qi 20 O O (hg)$ PT 21 O (R8 O) hg$ PT 22 O (Qz S8 O) hg$ PT 23 O (Qz UG O) hg$ qT 24 O (λ_ h=>PX U3 O O (h.PN hB) O) hg$ PT 11 O (Yh O O ω) hg ?_
 rw[hd]
 refine PT 12 O (Wa O O ω) hg$ PT 26 O (Sv O) hg ?_
 rw[fJ]
 refine PT 19 O (yre O O ω) hg ?_
 rw[hm]
 refine PT 25 O (Xq O O (by rw[Co];omega)) hg ?_
 rw[Co]
 refine PT 27 O (Sv O) hg$ qE$ Qy.qb (e:=[(4,_),(5,_)]) ?_
 refine PO func72 O ?_
 exact⟨_,rfl,rfl,hg⟩
end
section
variable {w w':World}{Q:Sj}{txt:Int->PV}{K:Nat}{X:Nat->Prop}{vb width st n:Nat}{xs:List Nat}
def Vn.zl9 (h:Vn Q txt vb width st xs w){i x:Nat}(hi:xs[i]? =some x):x<2^(8*width)/\x<18446744073709551616:=by
 have h1:=(h.t i x hi).2
 have:=Nat.pow_le_pow_right (show 0<2 by decide) (show 8*width<=64 by have:=h.e;omega)
 exact⟨h1,ω⟩
theorem z43 (hP:Sp Q txt K X w)(hX:∀b,X b->b<w.heap.size)(hK:K<1000000000000)(hv:Vn Q txt vb width st xs w)(dF:X vb){i x:Nat}(hi:xs[i]? =some x):
  Qu prog 44 [ptr vb 0,I (i:Int)] w λv w'=>v= .tuple #[Qg x,I 0]/\Sp Q txt K X w'/\Kp (λb=>¬X b) w w':=by
 have dS:=hP.n
 have au:i<xs.length:=by
  rcases Nat.lt_or_ge i xs.length with h| h
  ·exact h
  ·rw[List.getElem?_eq_none h] at hi;cases hi
 have Cv:=z5F hv au dS
 obtain⟨a1,a2,a3⟩:=hv.at_ au
 have Cy:=(hv.t i x hi).1
 have ns:=(hv.zl9 hi).1
 have dG:=hP.z0s (x:=((st+i / (512 / width):Nat):Int)) (Int.natCast_nonneg _) (Int.ofNat_lt.2 a1)
 have kB:=hv.n
 have Po:=hv.e.2.2.2.2
 have oW:∀w1,Ext w w1->Qu prog 68 [ptr Q.s 0,I ((st+i / (512 / width):Nat):Int)] w1 λv w'=>v= .tuple #[S (txt ((st+i / (512 / width):Nat):Int)),I 0]/\Sp Q txt K X w'/\Kp (λb=>¬X b) w1 w':=λw1 ad=>(hP.ext' ad).read (λb hb=>by have:=hX b hb;have:=ad.size;omega) hK (Int.natCast_nonneg _) (Int.ofNat_lt.2 a1)
 generalize i / (512 / width)=q at*
 generalize i%(512 / width)=r at*
 generalize ho:r*width=o at*
 obtain⟨t,ht⟩:∃t,txt ((st+q:Nat):Int)=t:=⟨_,rfl⟩
 rw[ht] at Cy dG oW
 have hB:=hv.cells
 refine py (e:=[(0,_),(1,_)]) func44 O ntmps44 O O$ qN O$ Rt O$ QS O$ Qk za0 O (Ui hv) ?_
 rintro _ w ⟨rfl,rfl⟩
 refine RZ O$ RA O$ Re O$ QS O$ RT O$ QW$ Qp O$ Q4 O$ QA O$ Qd S8 O$ Qd ZC O$ qV (PX U3 O O hB O)$ UZ O$ QW ?_
 refine QY O$ Re O$ RI O$ Qk zhw O (Cv) ?_
 rintro _ w1 ⟨rfl,ad⟩
 have ai:=ad.PN hB
 refine Q4 O$ TK O$ Rt O$ Qy.qb (e:=[(0,_),(4,_),(5,_),(7,_),(8,_)]) ?_
 refine Qx O$ QA O$ Qd WV O$ qV (PX Y1 O O ai O)$ Q4 O$ Qk zch O (oW w1 ad) ?_
 rintro _ w2 ⟨rfl,ev,am⟩
 have ak:=am.PN ai (λe=>e dF)
 refine Q4 O$ TK O$ Rt O$ QS O$ RA O$ Re O$ RN O$ An$ RI O$ Qp O$ QA O$ Qd S8 O$ Qd UG O$ qV (PX U3 O O ak O) ?_
 refine R7 O ?_
 rw[show(o:Int)+(width:Int)=((o+width:Nat):Int) by omega]
 refine qV (zkl (m:=o) (n:=o+width) U9 O O O ω) ?_
 rw[show o+width-o=width by omega,Cy]
 have eP:=QQ width x
 obtain⟨s,hs⟩:∃s,Vg width x=s:=⟨_,rfl⟩
 have jD:QL (Qm s)=x:=by rw[<-hs];exact z1R ns
 rw[hs] at eP⊢
 refine PY O O (zcm U9 Tr U5 O) ?_
 rintro _ w3 ⟨b7,c7,rest,rfl,⟨mH,ah,aw⟩,Ew⟩
 refine SR Tr O$ Q4 O$ PQ$ Qy.qb (e:=[(4,_),(5,_),(11,_),(58,_),(59,_),(60,_)]) ?_
 refine PS$ SK (α:=Nat) (0) (λi=>[(11,Qg (QL (Qm (s.take i)))),(58,.slice (some ⟨b7,0,none⟩) s.length c7),(59,I (s.length:Int)),(60,I (i:Int))]) (λi w'=>w'=w3/\i<=s.length) (λi=>s.length-i) ?hI ?hround
 case hI=>exact⟨rfl,Nat.zero_le _⟩
 case hround=>
  rintro i w4 ⟨rfl,hi⟩ ih
  try dsimp only
  refine qN O$ RT O$ PQ$ An$ Q8 O (λh0=>?_)$ λh0=>?_
  ·obtain⟨c,hc⟩:∃c,s[i]? =some c:=⟨_,List.getElem?_eq_getElem ω⟩;have fk:=c.toNat_lt;have fJ:=z2f hc
   have aR:QL (Qm (s.take i))<72057594037927936:=by
    have h1:=S9 (Qm (s.take i));rw[bitsT_length,List.length_take] at h1;have h2:2^(8*min i s.length)<=2^56:=Nat.pow_le_pow_right ψ ω;omega
   have bq:w4.cell? ⟨b7,0+i*1,none⟩=some (U8 c):=by
    rw[aw.cell,Nat.zero_add,Nat.mul_one,List.getElem?_append_left (by rw[List.length_map];omega),List.getElem?_map,hc];rfl
   refine PR$ RP$ qN O$ qV (Rh Tr Y7 O O ω)$ qV (QF U5 O O bq) ?_
   generalize QL (Qm (s.take i))=q at fJ aR
   refine Qc O$ St O$ qV (Sr 8 256 O O ψ O)$ Q4 O$ qV ((z4x O U5 SL ψ))$ qV (z1V O O ω ω) ?_
   have pH:(q*256%18446744073709551616 |||c.toNat)=QL (Qm (s.take (i+1))):=by
    rw[fJ,Nat.mod_eq_of_lt ω,Nat.mul_comm q];exact(Nat.two_pow_add_eq_or_of_lt (i:=8) fk q).symm
   rw[pH];refine Qc O$ PM$ PW O$ R7 O$ Q4 O$ PQ ?_;exact(ih (i+1) _ ⟨rfl,ω⟩ ω).qb
  ·have dq:i=s.length:=by omega
   subst dq;rw[List.take_length,jD];refine Q5 O$ Qx O$ Rt O$ PO func44 O ?_;exact⟨_,rfl,rfl,ev.ext' ah,(ad.kp.trans am).trans ah.kp⟩
theorem VH (hP:Sp Q txt K X w)(hX:∀b,X b->b<w.heap.size)(hK:K<1000000000000)(hv:Vn Q txt vb width st xs w)(dF:X vb){i x:Nat}(hi:i<xs.length)(hx:x<2^(8*width)):
  Qu prog 99 [ptr vb 0,I (i:Int),Qg x] w λv w'=>v=I 0/\VcW Q txt (K+1) X vb width st (xs.set i x) w w':=by
 have dS:=hP.n
 have Cv:∀w1,Ext w w1->Qu prog 72 [ptr vb 0,I (i:Int)] w1 λv w'=>v= .tuple #[I ((st+i / (512 / width):Nat):Int),I ((i%(512 / width)*width:Nat):Int)]/\Ext w1 w':=λw1 ad=>z5F (hv.ext ad) hi dS
 obtain⟨a1,a2,a3⟩:=hv.at_ hi
 obtain⟨e1,e2,e3,e4,e5⟩:=hv.e
 have ns:x<18446744073709551616:=by
  have:=Nat.pow_le_pow_right (show 0<2 by decide) (show 8*width<=64 by omega);omega
 have dG:=hP.z0s (x:=((st+i / (512 / width):Nat):Int)) (Int.natCast_nonneg _) (Int.ofNat_lt.2 a1)
 have kB:=hv.n
 obtain⟨t,ht⟩:∃t,txt ((st+i / (512 / width):Nat):Int)=t:=⟨_,rfl⟩
 have gZ:=hv.t.set ω hx hi ht (by rw[ht] at dG;omega)
 have oW:∀w1,Ext w w1->Qu prog 68 [ptr Q.s 0,I ((st+i / (512 / width):Nat):Int)] w1 λv w'=>v= .tuple #[S (txt ((st+i / (512 / width):Nat):Int)),I 0]/\Sp Q txt K X w'/\Kp (λb=>¬X b) w1 w':=λw1 ad=>(hP.ext' ad).read (λb hb=>by have:=hX b hb;have:=ad.size;omega) hK (Int.natCast_nonneg _) (Int.ofNat_lt.2 a1)
 have iz:(xs.set i x).length=xs.length:=by simp
 have hB:=hv.cells
 have kw:=hv.wd
 have cd:=hv.fit
 rw[ht] at dG oW
 have vU:∀w',Q7 w' vb [I (xs.length:Int),I (width:Int),I ((512 / width:Nat):Int),I (st:Int),I (WA xs.length (512 / width):Int),ptr Q.s 0,.bool false] 143->Vn Q (z0z txt ((st+i / (512 / width):Nat):Int) (some (t.take (i%(512 / width)*width)++Vg width x++t.drop (i%(512 / width)*width+width)))) vb width st (xs.set i x) w':=λw' hb=>⟨by rw[iz];exact hb,kw,gZ,by rw[iz];exact kB,by rw[iz];exact cd⟩
 clear gZ
 have mA:st+i / (512 / width)<Q.L.length:=a1
 generalize i / (512 / width)=q at*
 generalize i%(512 / width)=r at*
 generalize ho:r*width=o at*
 have eP:=QQ width x
 have qc:(t.take o++Vg width x++t.drop (o+width)).length=512:=by rw[List.length_append,List.length_append,List.length_take,List.length_drop,eP];omega
 refine py (e:=[(0,_),(1,_),(2,_)]) func99 O ntmps99 O O$ RN O$ QS O$ Qk za0 O (Ui hv) ?_
 rintro _ w ⟨rfl,rfl⟩
 refine RZ O$ RA O$ Re O$ QS O$ RT O$ QW$ Qp O$ Q4 O$ QA O$ Qd S8 O$ Qd ZC O$ qV (PX U3 O O hB O)$ UZ O$ QW ?_
 refine QY O$ Qp O$ QA O$ Qd S8 O$ qV (QB z9U O z0g O (Q7.cells (n:=3) hB (news:=[_,_,_]) O) O)$ Q4 O$ Qk zkC O (z2v xs.length width (512 / width) x kw hx w) ?_
 rintro _ w1 ⟨rfl,ad⟩
 have ai:=ad.PN hB
 refine qV ((T7 O))$ QY O$ PQ$ Qy.qb (e:=[(0,_),(1,_),(2,_),(6,_),(36,_)]) ?_
 refine TT O$ RI O$ Qk zhw O (Cv w1 ad) ?_
 rintro _ w2 ⟨rfl,ae⟩
 have ak:=ae.PN ai
 refine Q4 O$ TK O$ TN O$ RZ O$ QA O$ Qd WV O$ qV (PX Y1 O O ak O)$ Q4 O$ Qk zch O (oW w2 (ad.trans ae)) ?_
 rintro _ w3 ⟨rfl,fL,av⟩
 have aw:=av.PN ak (λe=>e dF)
 have ag:=Ext.Qh w3
 have cA:Kp (λb=>¬X b) w w3:=(ad.trans ae).kp.trans av
 have aR:(t.take o).length=o:=by rw[List.length_take];omega
 have No:(t.drop (o+width)).length=512-(o+width):=by rw[List.length_drop];omega
 refine Q4 O$ TK O$ Rt O$ QS O$ RA O$ PQ$ Qy.qb (e:=[(0,_),(2,_),(6,_),(8,_),(9,_),(10,_),(11,_),(53,_)]) ?_
 refine TT O$ An$ S5 (λw'=>Kp (λb=>¬X b) w3 w') O$ Qi 0 O O (ag.kp)$ PT 1 O (R8 O) (ag.kp)$ PT 2 O (Qz WV O) (ag.kp)$ qT 3 O (λ_ h=>PX Y1 O O (h.PN aw (λe=>e dF)) O) (ag.kp)$ Qi 4 O O (ag.kp)$ Qi 5 O O (ag.kp)$ Qi 6 O O (ag.kp)$ PT 7 O (z2c U9 O O ω) (ag.kp)$ Qi 8 O O (ag.kp)$ PT 9 O (R8 O) (ag.kp)$ PT 10 O (Qz S8 O) (ag.kp) ?_
 refine qT 11 O (λ_ hS=>QB z9U O z0g O (Q7.cells (n:=3) (hS.PN aw (λe=>e dF)) (news:=[_,_,_]) O) O) (ag.kp)$ Qi 12 O O (ag.kp)$ Qi 15 O O (ag.kp)$ Qi 16 O O (ag.kp)$ Qi 17 O O (ag.kp)$ PT 18 O (R8 O) (ag.kp)$ PT 19 O (Qz S8 O) (ag.kp)$ PT 20 O (Qz UG O) (ag.kp)$ qT 21 O (λ_ h=>PX U3 O O (h.PN aw (λe=>e dF)) O) (ag.kp)$ PT 22 O (Wa O O ω) (ag.kp) ?_
 rw[show(o:Int)+(width:Int)=((o+width:Nat):Int) by omega]
 refine PT 23 O (ZJ U9 O O ω) (ag.kp)$ T9 13 O zgB O (Z8 _ _ _ x e5 ns _) ?_
 rintro _ w4 ⟨rfl,aC⟩
 refine⟨ag.kp.trans aC.kp,?_⟩
 have dD:=ag.trans aC
 refine PT 14 O (XW O O (by first|omega|(simp;done)|(simp;omega))) (ag.kp.trans aC.kp) ?_
 refine PT 24 O (XW O O (by rw[List.length_append,aR,eP,No];omega)) (ag.kp.trans aC.kp) ?_
 refine T9 25 O zh2 O ((fL.ext' dD).write (λb hb=>by have:=hX b hb;have:=cA.size;have:=dD.size;omega) hK (no:=((st+q:Nat):Int)) ω ω _ qc) ?_
 rintro _ w5 ⟨rfl,fT,aj⟩
 refine⟨dD.kp.trans aj,?_⟩
 have fE:Kp (λb=>¬X b) w3 w5:=dD.kp.trans aj
 refine PT 26 O (Sv O) (dD.kp.trans aj)$ qE$ Qy.qb (e:=[(6,_)]) ?_
 refine PO func99 O ?_
 exact⟨_,rfl,rfl,_,fT,vU w5 (fE.PN aw (λe=>e dF)),λy hy=>SD _ _ (by rw[iz] at hy;omega),cA.trans fE⟩
end
section
variable {w w':World}{Q:Sj}{txt:Int->PV}{K:Nat}{X:Nat->Prop}{vb width st each n:Nat}{xs:List Nat}
theorem z15 (hP:Sp Q txt K X w)(hX:∀b,X b->b<w.heap.size)(hK:K<=900000000000)(hv:Vn Q txt vb width st xs w)(dF:X vb){f:Nat}(qn:CF prog f)(caps:List Value)(PN:Nat->PV)(aH:∀b,(PN b).length<=512)
  (hf:∀(b:Nat) (w1:World),b<WA xs.length (512 / width)->Kp (λb=>¬X b) w w1->Qu prog f ([I (b:Int)]++caps) w1 λv w2=>v=S (PN b)/\Ext w1 w2):
  Qu prog 63 [ptr vb 0,.func (.func f) #[] caps.toArray] w λv w'=>v=I 0/\∃txt',Sp Q txt' (K+WA xs.length (512 / width)) X w'/\Kp (λb=>¬X b) w w'/\(∀b,b<WA xs.length (512 / width)->txt' ((st+b:Nat):Int)=PN b++zeros (512-(PN b).length))/\(∀y:Int,y<(st:Int)\/(st:Int)+(WA xs.length (512 / width):Int)<=y->txt' y=txt y):=by
 have fF:maxLen=9223372036854775807:=rfl
 have dS:=hP.n
 have hB:=hv.cells
 have cd:=hv.fit
 have kB:=hv.n
 obtain⟨e1,e2,e3,e4,e5⟩:=hv.e
 have xv:=ZO xs.length width (512 / width) ⟨ω,e2⟩ kB w
 obtain⟨N,hN⟩:∃N,WA xs.length (512 / width)=N:=⟨_,rfl⟩
 rw[hN] at hB cd xv hf⊢
 refine py (e:=[(0,_),(1,_)]) func63 O ntmps63 O O$ RN O$ QS O$ QA O$ Qd S8 O$ qV (QB z9U O z0g O (Q7.cells (n:=3) hB (news:=[_,_,_]) O) O)$ Qk zir O (xv) ?_
 rintro _ w1 ⟨rfl,ad⟩
 refine Q4 O$ PQ$ PS$ SK (α:=Nat) (0) (λk=>[(0,ptr vb 0),(1,.func (.func f) #[] caps.toArray),(12,I (N:Int)),(13,I (k:Int))]) (λk w'=>k<=N/\Kp (λb=>¬X b) w w'/\∃txt',Sp Q txt' (K+k) X w'/\(∀b,b<k->txt' ((st+b:Nat):Int)=PN b++zeros (512-(PN b).length))/\(∀y:Int,y<(st:Int)\/(st:Int)+(k:Int)<=y->txt' y=txt y)) (λk=>N-k) ?hI ?hround
 case hI=>exact⟨Nat.zero_le _,ad.kp,txt,hP.ext' ad,λb hb=>by omega,λy _=>rfl⟩
 case hround=>
  rintro k w2 ⟨hk,am,txt2,ev,JJ,pY⟩ ih;have ak:=am.PN hB (λe=>e dF)
  try dsimp only
  refine qN O$ RT O$ PQ$ An$ Q8 O (λh0=>?_)$ λh0=>?_
  ·have GD:k<N:=by omega
   refine PR$ RP$ Qx O$ S7 O$ Qp O$ RB O O (T6 qn O O) (hf k w2 GD am) ?_;rintro _ w3 ⟨rfl,ah⟩;have aw:=ah.PN ak;have fL:=ev.ext' ah;have ag:=Ext.Qh w3;have hl:=aH k;have cA:=am.trans ah.kp;obtain⟨t,ht⟩:∃t,PN k=t:=⟨_,rfl⟩;rw[ht] at hl⊢;have hz:(zeros (512-t.length)).length=512-t.length:=by simp[zeros]
   have cJ:=fL.size;have Az:∀w4,Ext w3 w4->Qu prog 49 [ptr Q.s 0] w4 λv w'=>v=I 512/\w'=w4:=λw4 hx=>(fL.ext' hx).size;refine Qc O$ An$ S5 (λw'=>Kp (λb=>¬X b) w3 w') O$ Qi 0 O O (ag.kp)$ PT 1 O (R8 O) (ag.kp)$ PT 2 O (Qz WV O) (ag.kp)$ qT 3 O (λ_ h=>PX Y1 O O (h.PN aw (λe=>e dF)) O) (ag.kp)$ Qi 4 O O (ag.kp)$ PT 5 O (R8 O) (ag.kp)$ PT 6 O (Qz ZD O) (ag.kp)$ PT 7 O (Qz S4 O) (ag.kp)$ qT 8 O (λ_ h=>PX U3 O O (h.PN aw (λe=>e dF)) O) (ag.kp)$ Qi 9 O O (ag.kp)$ PT 10 O (Wa O O ω) (ag.kp) ?_;refine Qi 11 O O (ag.kp)$ Qi 12 O O (ag.kp)$ PT 13 O (R8 O) (ag.kp)$ PT 14 O (Qz WV O) (ag.kp)$ qT 15 O (λ_ h=>PX Y1 O O (h.PN aw (λe=>e dF)) O) (ag.kp)$ Qi 17 O O (ag.kp)$ PT 18 O (Wf U9 O) (ag.kp)$ T9 16 O z5I O (Az _ ag) ?_;rintro _ w4 ⟨rfl,rfl⟩;refine⟨ag.kp,?_⟩;refine PT 19 O (YM O O ω) (ag.kp) ?_;rw[show(512:Int)-(t.length:Int)=((512-t.length:Nat):Int) by omega];refine qO 20$ YZ (i:=20) O O O (pmk (c:=512-t.length) (n:=512-t.length) Tr Y7 O O O ω ω ω) ?_;rintro _ w4 ⟨b4,rfl,⟨eM,aC,aM⟩,-⟩;refine⟨ag.kp.trans aC.kp,?_⟩;have dD:=ag.trans aC;refine qO 21$ zjq (i:=21) O O O (z8j (l:=zeros (512-t.length)) Tr U5 U9 O aM (z1o _) hz) (dD.kp)$ PT 22 O (XW O O (by rw[hz];omega)) (dD.kp) ?_;have qc:(t++zeros (512-t.length)).length=512:=by rw[List.length_append,hz];omega
   rw[show(st:Int)+(k:Int)=((st+k:Nat):Int) by omega];refine T9 23 O zh2 O ((fL.ext' dD).write (λb hb=>by have:=hX b hb;have:=cA.size;have:=dD.size;omega) ω (no:=((st+k:Nat):Int)) ω ω _ qc) ?_;rintro _ w5 ⟨rfl,fT,aj⟩;refine⟨dD.kp.trans aj,?_⟩;have fE:Kp (λb=>¬X b) w3 w5:=dD.kp.trans aj;refine PT 24 O (Sv O) (dD.kp.trans aj)$ qE$ Qx O$ RA O$ Re O$ PM$ PW O$ R7 O$ Q4 O$ PQ ((ih (k+1) w5 ⟨ω,cA.trans fE,_,fT,λb hb=>?_,λy hy=>?_⟩ ω).qb)
   ·by_cases e:b=k
    ·subst e;rw[Tk,ht];rfl
    ·rw[SD _ _ ω];exact JJ b ω
   ·rw[SD _ _ ω];exact pY y ω
  ·have GD:k=N:=by omega
   subst GD;refine Q5 O$ RN O$ PO func63 O ?_;exact⟨_,rfl,rfl,txt2,ev,am,JJ,pY⟩
theorem z65 (l:PV):∀n,((List.replicate n l).flatten).length=n*l.length
 |0=>by simp
 |n+1=>by rw[List.replicate_succ,List.flatten_cons,List.length_append,z65 l n,Nat.add_mul];omega
def z6j {bf:Nat}{s:PV}(b:Nat)(hB:Q7 w bf [S s] 9):Qu prog 64 ([I (b:Int)]++[ptr bf 0]) w λv w2=>v=S s/\Ext w w2:=by
 show Qu _ _ [I (b:Int),ptr bf 0] _ _
 refine py (e:=[(0,_),(1,_)]) func64 O ntmps64 O O$ qN O$ S7 O$ qV (PX U9 O O hB O)$ Qc O$ PO func64 O ?_
 exact⟨_,rfl,rfl,Ext.refl _⟩
theorem Zm (hP:Sp Q txt K X w)(hX:∀b,X b->b<w.heap.size)(hK:K<=900000000000)(hv:Vn Q txt vb width st xs w)(dF:X vb){x:Nat}(hx:x<2^(8*width)):
  Qu prog 34 [ptr vb 0,Qg x] w λv w'=>v=I 0/\VcW Q txt (K+WA xs.length (512 / width)) X vb width st (List.replicate xs.length x) w w':=by
 have hB:=hv.cells
 have kB:=hv.n
 obtain⟨e1,e2,e3,e4,e5⟩:=hv.e
 have ns:x<18446744073709551616:=by
  have:=Nat.pow_le_pow_right (show 0<2 by decide) (show 8*width<=64 by omega);omega
 have eP:=QQ width x
 have iN:(List.replicate (512 / width) (Vg width x)).flatten.length=512:=by
  rw[z65,eP];exact e3
 refine py (e:=[(0,_),(1,_)]) func34 O ntmps34 O O$ RN O$ QS O$ Qk za0 O (Ui hv) ?_
 rintro _ w ⟨rfl,rfl⟩
 refine RZ O$ RA O$ Re O$ QS O$ QA O$ Qd S8 O$ qV (QB z9U O z0g O (Q7.cells (n:=3) hB (news:=[_,_,_]) O) O)$ Q4 O$ Qk zkC O (z2v xs.length width (512 / width) x hv.wd hx w) ?_
 rintro _ w1 ⟨rfl,ad⟩
 have ai:=ad.PN hB
 have aT:=Ext.Qh w1
 refine qV ((T7 O))$ Re O$ An$ QH (λe' w'=>∃bf,e'=[(0,ptr vb 0),(6,ptr bf 0)]/\Q7 w' bf [S (List.replicate (512 / width) (Vg width x)).flatten] 9/\Ext w1 w'/\w1.heap.size<=bf) ?bF$ λbF=>?dg
 case bF=>
  rintro e' w2 ⟨bf,rfl,dw,ae,GE⟩;have aG:=ad.trans ae;have nR:=ad.size;have ev:Sp Q txt K (λb=>X b\/b=bf) w2:=hP.ext aG (λb e=>e.imp id λe=>by omega);have lbf:=dw.lt;have hw:=z15 ev (λb hb=>by rcases hb with e|e;(have:=hX b e;have:=aG.size;omega);omega) hK (hv.ext aG) (.inl dF) zlV [ptr bf 0] (λ_=>(List.replicate (512 / width) (Vg width x)).flatten) (λ_=>by rw[iN];omega) (λb w3 _ av=>z6j b (av.PN dw (λe=>e (.inr O))));refine Qx O$ qV (ymf (first:=[]) (caps:=[.tmp 6]) O O)$ Qk zkE O (hw) ?_;rintro _ w3 ⟨rfl,txt3,fL,av,qZ,mB⟩;refine Qc O$ PO func34 O ?_;have dB:Kp (λb=>¬X b) w1 w3:=ae.kp.trans (av.PU λb e e2=>e (.inl e2));have iz:(List.replicate xs.length x).length=xs.length:=List.length_replicate;refine⟨_,rfl,rfl,txt3,fL.less (λb e=> .inl e),⟨?_,hv.wd,VcT.fill hx ω (λi hi=>?_),by rw[iz];exact kB,by rw[iz];exact hv.fit⟩,λy hy=>mB y (by rw[iz] at hy;exact hy),ad.kp.trans dB⟩
  ·rw[iz];exact(ad.kp.trans dB).PN hB (λe=>e dF)
  ·have rI:=z0S (each:=512 / width) ω hi;exact⟨_,qZ _ rI⟩
 case dg=>
  have ao:=aT;have bJ:=ao.size;refine Qn [13] (λw'=>Ext w1 w') (by kernel_rfl) O$ R1 0 O O (ao)$ Qs 1 O (R8 O) ao$ Qs 2 O (Qz S8 O) ao$ qL 3 O (λ_ h=>QB z9U O z0g O (Q7.cells (n:=3) (h.PN ai) (news:=[_,_,_]) O) O) ao$ R1 4 O O (ao)$ R1 6 O O (ao)$ Qs 7 O (R8 O) ao$ Qs 8 O (Qz S8 O) ao$ Qs 9 O (Qz Xg O) ao$ qL 10 O (λ_ h=>PX U3 O O (h.PN ai) O) ao$ XN (i:=5) (j:=12) (by kernel_rfl) ?_ ?_
  ·refine SW (i:=5) O O O (yc zgB O) (Z8 _ _ _ x e5 ns _) ?_;rintro _ w5 ⟨rfl,aU⟩;refine⟨ao.trans aU,?_⟩;have ao:=ao.trans aU
   try have aX:=aU.PN aX
   have bJ:=Nat.le_trans bJ aU.size;refine XN (i:=11) (j:=12) (by kernel_rfl) ?_ ?_
   ·refine SW (i:=11) O O O (yc zh8 O) (z0n (Vg width x) (512 / width) ω ω _) ?_;rintro _ w11 ⟨rfl,bc⟩;refine⟨ao.trans bc,?_⟩;have ao:=ao.trans bc
    try have aX:=bc.PN aX
    have bJ:=Nat.le_trans bJ bc.size;refine Sc (i:=12) (by kernel_rfl)$ Ru (i:=12) O O O (SE (cs:=[_]) ti9 O) ?_;rintro _ w12 ⟨bf,rfl,GE,aI,aX⟩;refine⟨ao.trans aI,?_⟩;have ao:=ao.trans aI;have oX:w1.heap.size<=bf:=by omega
    have bJ:=Nat.le_trans bJ aI.size;refine Ut [13]$ qO 13$ QO (i:=13) O O (RV ti9 O O O aX ξ) ?_;rintro w13 ⟨bZ,dB⟩;refine⟨trivial,?_⟩;refine qE$ Qy.qb (e:=[(0,_),(4,_),(6,_)]) ?_;exact(bF _ _ ⟨bf,rfl,bZ,ao.It dB (λj e=>by omega),oX⟩).qb
   ·refine Ru (i:=12) O O O (SE (cs:=[_]) ti9 O) ?_;rintro _ w12 ⟨bf,rfl,GE,aI,aX⟩;refine⟨ao.trans aI,?_⟩;have ao:=ao.trans aI;have oX:w1.heap.size<=bf:=by omega
    have bJ:=Nat.le_trans bJ aI.size;refine Sc (i:=11) (by kernel_rfl)$ SW (i:=11) O O O (yc zh8 O) (z0n (Vg width x) (512 / width) ω ω _) ?_;rintro _ w11 ⟨rfl,bc⟩;refine⟨ao.trans bc,?_⟩;have ao:=ao.trans bc
    try have aX:=bc.PN aX
    have bJ:=Nat.le_trans bJ bc.size;refine Ut [13]$ qO 13$ QO (i:=13) O O (RV ti9 O O O aX ξ) ?_;rintro w13 ⟨bZ,dB⟩;refine⟨trivial,?_⟩;refine qE$ Qy.qb (e:=[(0,_),(4,_),(6,_)]) ?_;exact(bF _ _ ⟨bf,rfl,bZ,ao.It dB (λj e=>by omega),oX⟩).qb
  ·refine Ru (i:=12) O O O (SE (cs:=[_]) ti9 O) ?_;rintro _ w12 ⟨bf,rfl,GE,aI,aX⟩;refine⟨ao.trans aI,?_⟩;have ao:=ao.trans aI;have oX:w1.heap.size<=bf:=by omega
   have bJ:=Nat.le_trans bJ aI.size;refine Sc (i:=5) (by kernel_rfl)$ SW (i:=5) O O O (yc zgB O) (Z8 _ _ _ x e5 ns _) ?_;rintro _ w5 ⟨rfl,aU⟩;refine⟨ao.trans aU,?_⟩;have ao:=ao.trans aU
   try have aX:=aU.PN aX
   have bJ:=Nat.le_trans bJ aU.size;refine Sc (i:=11) (by kernel_rfl)$ SW (i:=11) O O O (yc zh8 O) (z0n (Vg width x) (512 / width) ω ω _) ?_;rintro _ w11 ⟨rfl,bc⟩;refine⟨ao.trans bc,?_⟩;have ao:=ao.trans bc
   try have aX:=bc.PN aX
   have bJ:=Nat.le_trans bJ bc.size;refine Ut [13]$ qO 13$ QO (i:=13) O O (RV ti9 O O O aX ξ) ?_;rintro w13 ⟨bZ,dB⟩;refine⟨trivial,?_⟩;refine qE$ Qy.qb (e:=[(0,_),(4,_),(6,_)]) ?_;exact(bF _ _ ⟨bf,rfl,bZ,ao.It dB (λj e=>by omega),oX⟩).qb
end
def zgQ (s:PV){a c:Nat}(h:a<=c):(s.drop (min a s.length)).take (min c s.length-min a s.length)=(s.drop a).take (c-a):=by
 by_cases ha:a<=s.length
 ·rw[Nat.min_eq_left ha];by_cases hc:c<=s.length
  ·rw[Nat.min_eq_left hc]
  ·rw[Nat.min_eq_right ω,List.take_of_length_le (by rw[List.length_drop];omega),List.take_of_length_le (by rw[List.length_drop];omega)]
 ·rw[Nat.min_eq_right (show s.length<=a by omega),Nat.min_eq_right (show s.length<=c by omega),Nat.sub_self,List.take_zero,List.drop_of_length_le (show s.length<=a by omega),List.take_nil]
section
variable {w w':World}{Q:Sj}{txt:Int->PV}{K:Nat}{X:Nat->Prop}{vb width st each n:Nat}{xs:List Nat}
theorem z6G {bt ba:Nat}{s:PV}(b:Nat)(hb:b<=1000000)(hs:s.length<=100000000)(hT:Q7 w bt [S s] 9)(hA:Q7 w ba [I 512] 3):Qu prog 71 ([I (b:Int)]++[ptr bt 0,ptr ba 0]) w λv w2=>v=S ((s.drop (b*512)).take 512)/\Ext w w2:=by
 show Qu _ _ [I (b:Int),ptr bt 0,ptr ba 0] _ _
 have h:=zgQ s (a:=b*512) (c:=(b+1)*512) ω
 rw[show(b+1)*512-b*512=512 by omega] at h
 refine py (e:=[(0,_),(1,_),(2,_)]) func71 O ntmps71 O O$ qN O$ S7 O$ qV ((PX U9 O O hT O))$ Q4 O$ qV ((PX U3 O O hA O))$ qV (Xq O O ω)$ qV ((PX U9 O O hT O))$ qV (Wf U9 O)$ qV (ymi O O)$ Q4 O$ R7 O$ qV ((PX U3 O O hA O))$ qV (Xq O O ω) ?_
 refine qV ((PX U9 O O hT O))$ qV (Wf U9 O)$ qV (ymi O O) ?_
 rw[show min ((b:Int)*512) (s.length:Int)=((min (b*512) s.length:Nat):Int) by omega,show min (((b:Int)+1)*512) (s.length:Int)=((min ((b+1)*512) s.length:Nat):Int) by omega]
 refine qV (zkl (m:=min (b*512) s.length) (n:=min ((b+1)*512) s.length) U9 O O O ω) ?_
 rw[h]
 refine Qc O$ PO func71 O ?_
 exact⟨_,rfl,rfl,Ext.refl _⟩
theorem Zc (hP:Sp Q txt K X w)(hX:∀b,X b->b<w.heap.size)(hK:K<=900000000000)(hv:Vn Q txt vb width st xs w)(dF:X vb){s:PV}(hs:s.length=xs.length*width):
  Qu prog 42 [ptr vb 0,S s] w λv w'=>v=I 0/\VcW Q txt (K+WA xs.length (512 / width)) X vb width st (YY width xs.length s) w w':=by
 have dS:=hP.n
 have hB:=hv.cells
 have kB:=hv.n
 have cd:=hv.fit
 obtain⟨e1,e2,e3,e4,e5⟩:=hv.e
 have Pp:s.length<=33554432:=by
  have:xs.length*width<=4194304*8:=Nat.mul_le_mul kB e5;omega
 have oY:(xs.length:Int)*(width:Int)=((s.length:Nat):Int):=by rw[hs,Int.natCast_mul]
 have gV:((512 / width:Nat):Int)*(width:Int)=512:=by rw[<-Int.natCast_mul,e3];rfl
 refine py (e:=[(0,_),(1,_)]) func42 O ntmps42 O O$ qN O$ PY O O (Se O (cs:=[S s]) O) ?_
 rintro _ w1 ⟨bt,rfl,qc,ad,JK⟩
 have ai:=ad.PN hB
 have aT:=Ext.Qh w1
 refine Qc O$ QS O$ Qk za0 O (Ui (hv.ext ad)) ?_
 rintro _ w1 ⟨rfl,rfl⟩
 refine RZ O$ RA O$ Re O$ An$ An$ S5 (λw'=>Ext w1 w') O$ qT 0 O (λ_ h=>(PX U9 O O (h.PN JK) O)) aT$ PT 1 O (Wf U9 O) aT$ Qi 2 O O (aT)$ PT 3 O (R8 O) aT$ PT 4 O (Qz S8 O) aT$ PT 5 O (Qz ZC O) aT$ qT 6 O (λ_ h=>(PX U3 O O (h.PN ai) O)) aT$ Qi 7 O O (aT) ?_
 refine PT 8 O (R8 O) aT$ PT 9 O (Qz S8 O) aT$ PT 10 O (Qz UG O) aT$ qT 11 O (λ_ h=>(PX U3 O O (h.PN ai) O)) aT$ PT 12 O (Xq O O (by rw[oY];omega)) aT ?_
 rw[oY]
 refine PT 13 O (yne O O) aT$ UQ$ qE$ TT O$ An ?_
 obtain⟨w2,mz⟩:∃w2,w1.drew=w2:=⟨_,rfl⟩
 rw[mz] at aT⊢
 have ak:=aT.PN ai
 have aa:=Ext.Qh w2
 refine Qn [12] (λw'=>Ext w2 w') (by kernel_rfl) O$ R1 0 O O (aa)$ Qs 1 O (R8 O) aa$ Qs 2 O (Qz S8 O) aa$ Qs 3 O (Qz Xg O) aa$ qL 4 O (λ_ h=>PX U3 O O (h.PN ak) O) aa$ R1 5 O O (aa)$ Qs 6 O (R8 O) aa$ Qs 7 O (Qz S8 O) aa$ Qs 8 O (Qz UG O) aa$ qL 9 O (λ_ h=>PX U3 O O (h.PN ak) O) aa$ Qs 10 O (Xq O O (by rw[gV];omega)) aa ?_
 rw[gV]
 refine Sc (i:=11) (by kernel_rfl)$ Ru (i:=11) O O O (SE (cs:=[_]) Rl O) ?_
 rintro _ w3 ⟨ba,rfl,Pq,ah,xF⟩
 refine⟨aa.trans ah,?_⟩
 have dX:=aa.trans ah
 refine Ut [12]$ qO 12$ QO (i:=12) O O (RV Rl O O O xF ξ) ?_
 rintro w4 ⟨AY,ar⟩
 refine⟨trivial,?_⟩
 have dA:Ext w2 w4:=dX.It ar (λj e=>by have:=aa.size;omega)
 have dY:=aT.trans dA
 have ce:=ad.trans dY
 have z1:=ad.size
 have z2:=aT.size
 have z3:=aa.size
 have AZ:=dY.PN JK
 have ji:Sp Q txt K (λb=>X b\/b=bt\/b=ba) w4:=hP.ext ce (λb e=>e.imp id λe=>by omega)
 have lbt:=AZ.lt
 have lba:=AY.lt
 have hw:=z15 ji (λb hb=>by rcases hb with e|e|e;(have:=hX b e;have:=ce.size;omega);omega;omega) hK (hv.ext ce) (.inl dF) zlA [ptr bt 0,ptr ba 0] (λb=>(s.drop (b*512)).take 512) (λ_=>by rw[List.length_take];omega) (λb w3 hb av=>z6G b ω ω (av.PN AZ (λe=>e (.inr (.inl O)))) (av.PN AY (λe=>e (.inr (.inr O)))))
 refine qE$ Qy.qb (e:=[(0,_),(3,_),(4,_),(6,_)]) ?_
 refine Qx O$ qV (ymf (first:=[]) (caps:=[.tmp 3,.tmp 6]) O O)$ Qk zkE O (hw) ?_
 rintro _ w5 ⟨rfl,txt5,fT,aj,C6,rQ⟩
 refine Qc O$ PO func42 O ?_
 have cO:Kp (λb=>¬X b) w w5:=ce.kp.trans (aj.PU λb e e2=>e (.inl e2))
 have iz:=z4t width xs.length s
 refine⟨_,rfl,rfl,txt5,fT.less (λb e=> .inl e),⟨?_,hv.wd,VcT.load hs ω (λi hi=>?_),by rw[iz];exact kB,by rw[iz];exact hv.fit⟩,λy hy=>rQ y (by rw[iz] at hy;exact hy),cO⟩
 ·rw[iz];exact cO.PN hB (λe=>e dF)
 ·have rI:=z0S (each:=512 / width) ω hi;rw[e3];exact⟨_,C6 _ rI⟩
theorem z8c (hP:Sp Q txt K X w)(hX:∀b,X b->b<w.heap.size)(hK:K<1000000000000)(hv:Vn Q txt vb width st xs w)(dF:X vb):
  Qu prog 39 [ptr vb 0] w λv w'=>v= .tuple #[S (SF width xs),I 0]/\Sp Q txt K X w'/\Kp (λb=>¬X b) w w':=by
 have dS:=hP.n
 have hB:=hv.cells
 have kB:=hv.n
 have cd:=hv.fit
 obtain⟨e1,e2,e3,e4,e5⟩:=hv.e
 have lvb:=hX vb dF
 have vU:=λ(b:Nat)=>hv.t.block (b:=b)
 have GF:=λ(l:List Nat)=>RD width l
 have hN:∀b,b*(512 / width)<xs.length->b<WA xs.length (512 / width):=λb hb=>by
  have:=z0S (each:=512 / width) (n:=xs.length) ω hb;rw[Nat.mul_div_cancel _ ω] at this;exact this
 generalize 512 / width=each at*
 refine py (e:=[(0,_)]) func39 O ntmps39 O O$ qN O$ Rt O$ QS O$ Qk za0 O (Ui hv) ?_
 rintro _ w ⟨rfl,rfl⟩
 refine RZ O$ RA O$ Re O$ qN O$ PY O O (SE (cs:=[_,_]) zfO O) ?_
 rintro _ w1 ⟨bb,rfl,u7,ad,tc⟩
 have vS:=BdM.new tc
 have ai:=ad.PN hB
 have z1:=ad.size
 refine PQ$ QS O$ QA O$ Qd S8 O$ Qd ZC O$ qV (PX U3 O O ai O)$ Rt O$ PS ?_
 rw[show(xs.length:Int)=((xs.length-0*each:Nat):Int) by rw[Nat.zero_mul];rfl]
 refine SK (α:=Nat×Value) ((0,Value.slice none 0 0)) (λy=>[(0,ptr vb 0),(5,ptr bb 0),(6,I ((xs.length-y.1*each:Nat):Int)),(7,I (y.1:Int))]) (λy w'=>y.1<=xs.length/\BdM w' bb (SF width (xs.take (y.1*each))) y.2/\(y.1=0->y.2= .slice none 0 0)/\(0<y.1->0<xs.length)/\(∀g,y.2.ownBlock=some g->w.heap.size<=g)/\Sp Q txt K (λb=>X b\/b=bb\/y.2.ownBlock=some b) w'/\Kp (λb=>¬X b) w w') (λy=>xs.length-y.1*each) ?hI ?hround
 case hI=>
  refine⟨Nat.zero_le _,?_,λ_=>rfl,λe=>absurd e ψ,λg hg=>(by cases hg),hP.ext ad (λb e=>e.imp id λe=>e.elim (λe=>by omega) (λe=>by cases e)),ad.kp⟩;show BdM w1 bb (SF width (xs.take (0*each))) (.slice none 0 0);rw[Nat.zero_mul,List.take_zero];exact vS
 case hround=>
  rintro⟨b,v⟩ w2 ⟨fg,lD,t8,nl,gW,ev,am⟩ ih;dsimp only at fg lD t8 nl gW ev ih⊢;have ak:=am.PN hB (λe=>e dF);have hg:=Ext.Qh w2;have z2:=am.size;have lbb:bb<w2.heap.size:=by obtain⟨⟨p,hp,hb⟩,-,-⟩:=lD;exact hb.lt
  have mJ:∀b,(X b\/b=bb\/v.ownBlock=some b)->b<w2.heap.size:=λb hb=>by
   rcases hb with e|e| e
   ·have:=hX b e;omega
   ·omega
   ·exact lD.2.1.lt e
  have M2:=GF (xs.take (b*each))
  try dsimp only
  refine QS O$ RK O$ PQ$ Q8 O (λh0=>?_)$ λh0=>?_
  ·have GG:b*each<xs.length:=by omega
   have Pr:=hN b GG;obtain⟨m,hm⟩:∃m,min (xs.length-b*each) each=m:=⟨_,rfl⟩;have dG:=ev.z0s (x:=((st+b:Nat):Int)) ω ω;have Co:m*width<=each*width:=Nat.mul_le_mul_right _ ω;have kh:=vU b (by rw[dG];omega) m ω ω;have dh:=(ev.ext' hg).read (λb hb=>by have:=mJ b hb;have:=hg.size;omega) hK (no:=((st+b:Nat):Int)) ω ω;obtain⟨t,ht⟩:∃t,txt ((st+b:Nat):Int)=t:=⟨_,rfl⟩;rw[ht] at dG kh dh;refine PR$ RP$ An$ S5 (λw'=>Kp (λj=>¬(X j\/j=bb\/v.ownBlock=some j)) w2 w') O$ Qi 0 O O (hg.kp)$ PT 1 O (R8 O) (hg.kp)$ PT 2 O (Qz WV O) (hg.kp)$ qT 3 O (λ_ hS=>PX Y1 O O (hS.PN ak (λe=>e (.inl dF))) O) (hg.kp)$ Qi 4 O O (hg.kp)$ PT 5 O (R8 O) (hg.kp)$ PT 6 O (Qz ZD O) (hg.kp)$ PT 7 O (Qz S4 O) (hg.kp)$ qT 8 O (λ_ hS=>PX U3 O O (hS.PN ak (λe=>e (.inl dF))) O) (hg.kp)$ Qi 9 O O (hg.kp) ?_;refine PT 10 O (Wa O O ω) (hg.kp) ?_;rw[show(st:Int)+(b:Int)=((st+b:Nat):Int) by omega];refine T9 11 O zch O (dh) ?_;rintro _ w3 ⟨rfl,fL,av⟩;refine⟨hg.kp.trans av,?_⟩;have ck:=hg.kp.trans av;have vT:=lD.kp ck (λe=>e (.inr (.inl O))) (λg hg e=>e (.inr (.inr hg)));have aw:=ck.PN ak (λe=>e (.inl dF));refine Qi 12 O O (hg.kp.trans av)$ PT 13 O (Sz O O) (hg.kp.trans av)$ PT 14 O (Sz O O) (hg.kp.trans av)$ PT 15 O (Sv O) (hg.kp.trans av)$ PT 16 O (Sv O) (hg.kp.trans av)$ qE$ QS O$ RA O$ Re O$ RI O$ QA O$ Qd S8 O$ Qd Xg O$ qV (PX U3 O O aw O) ?_;refine qV (ymi O O) ?_;rw[show min ((xs.length-b*each:Nat):Int) (each:Int)=(m:Int) by omega];refine S7 O$ Qp O$ Q4 O$ QA O$ Qd S8 O$ Qd UG O$ qV (PX U3 O O aw O)$ qV (Xq O O (by rw[<-Int.natCast_mul];omega)) ?_;rw[<-Int.natCast_mul];refine qV (z2c (m:=m*width) U9 O O ω) ?_;rw[kh];have i7:=GF ((xs.drop (b*each)).take m);have GH:((xs.drop (b*each)).take m).length=m:=by rw[List.length_take,List.length_drop];omega
   have GI:(xs.take (b*each)).length*width<=4194304*8:=Nat.mul_le_mul (by rw[List.length_take];omega) e5;rw[GH] at i7;refine Qk zhV O (z5N vT (SF width ((xs.drop (b*each)).take m)) ω) ?_;rintro _ w4 ⟨v4,rP,ar,qr⟩;have z3:=ck.size;refine PQ$ PW O$ Qp O$ SA O$ Qc O$ PM$ St O$ R7 O$ Qc O ?_;rw[show((xs.length-b*each:Nat):Int)-(m:Int)=((xs.length-(b+1)*each:Nat):Int) by rw[Nat.add_mul];omega];refine(ih (b+1,v4) _ ⟨?_,?_,λe=>by dsimp only at e;omega,λ_=>by omega,λg hg=>(qr g hg).elim (gW g) (λe=>by omega),?_,?_⟩ ?_).qb
   ·show b+1<=xs.length;have:b*1<=b*each:=Nat.mul_le_mul_left _ ω;omega
   ·show BdM w4 bb (SF width (xs.take ((b+1)*each))) v4
    have e:xs.take ((b+1)*each)=xs.take (b*each)++(xs.drop (b*each)).take m:=by
     rw[Nat.add_mul,Nat.one_mul,List.take_add]
     congr 1
     by_cases hc:xs.length-b*each<=each
     ·rw[List.take_of_length_le (by rw[List.length_drop];omega),List.take_of_length_le (by rw[List.length_drop];omega)]
     ·rw[show m=each by omega]
    rw[e];unfold SF at rP⊢;rw[List.flatMap_append];exact rP
   ·exact fL.step ar (λj e=> .inr e) (λj e=>by
     rcases e with e|e| e
     ·exact .inl (.inl e)
     ·exact .inl (.inr (.inl e))
     ·exact(qr j e).imp (λe=> .inr (.inr e)) id)
   ·refine(am.trans (ck.PU λb e e2=>e (.inl e2))).It ar λb e=> .inl ?_;rcases e with e| e
    ·omega
    ·exact gW b e
   ·dsimp only;rw[Nat.add_mul];omega
  ·have cH:xs.take (b*each)=xs:=List.take_of_length_le ω;rw[cH] at lD;have Np:=GF xs;have GI:xs.length*width<=4194304*8:=Nat.mul_le_mul kB e5
   have sx:SF width xs=[]->v= .slice none 0 0:=λe=>t8 (by
    have e1:=congrArg List.length e;rw[Np,List.length_nil] at e1;have e2:xs.length=0:=(Nat.mul_eq_zero.1 e1).resolve_right ω
    omega)
   refine Q5 O$ qN O$ Qk ziM O (z3u lD sx ω) ?_;rintro _ w3 ⟨rfl,av⟩;refine Rt O$ PO func39 O ?_;exact⟨_,rfl,rfl,ev.step av (λb e=> .inr (.inr e)) (λb e=> .inl (.inl e)),am.It av (λb e=> .inl (gW b e))⟩
end
section
variable {w w':World}{Q:Sj}{txt:Int->PV}{K:Nat}{X:Nat->Prop}{vb width st each n:Nat}{xs:List Nat}
theorem z6l (hP:Sp Q txt K X w)(hX:∀b,X b->b<w.heap.size)(hv:Vn Q txt vb width st xs w)(dF:X vb)(dy:2<=st)(hc:∀i,st<=i->i<st+WA xs.length (512 / width)->Q.L[i]? =some true):
  Qu prog 40 [ptr vb 0] w λv w'=>v=I 0/\∃txt',Sp (Q.Rx (Rn Q.L st (WA xs.length (512 / width)) false)) txt' K X w'/\(∀y:Int,y<(st:Int)\/(st:Int)+(WA xs.length (512 / width):Int)<=y->txt' y=txt y)/\Kp (λb=>¬X b\/b=vb) w w':=by
 have hB:=hv.cells
 have cd:=hv.fit
 have lE:1<=WA xs.length (512 / width):=Nat.le_max_left _ _
 have hg:=Ext.Qh w
 have Nq:=(hP.ext' hg).zlD (λb hb=>by have:=hX b hb;have:=hg.size;omega) lE dy cd hc
 generalize WA xs.length (512 / width)=N at*
 refine py (e:=[(0,_)]) func40 O ntmps40 O O$ RN O$ QS O$ Qk za0 O (Ui hv) ?_
 rintro _ w ⟨rfl,rfl⟩
 refine RZ O$ RA O$ Re O$ An$ An$ S5 (λw'=>Kp (λb=>¬X b) w w') O$ Qi 0 O O (hg.kp)$ PT 1 O (R8 O) (hg.kp)$ PT 2 O (Qz WV O) (hg.kp)$ qT 3 O (λ_ h=>PX Y1 O O (h.PN hB (λe=>e dF)) O) (hg.kp)$ Qi 4 O O (hg.kp)$ PT 5 O (R8 O) (hg.kp)$ PT 6 O (Qz ZD O) (hg.kp)$ qT 7 O (λ_ hS=>QB YE O Sd O (Q7.cells (n:=2) (hS.PN hB (λe=>e dF)) (news:=[_,_]) O) O) (hg.kp) ?_
 refine T9 8 O zlb O (Nq) ?_
 rintro _ w1 ⟨rfl,txt1,ge,o2,ay⟩
 refine⟨hg.kp.trans ay,?_⟩
 have dC:=hg.kp.trans ay
 have ai:=dC.PN hB (λe=>e dF)
 refine PT 9 O (Sv O) (hg.kp.trans ay)$ qE$ Qx O$ RA O$ Re O$ Qx O$ QA O$ Qd z9O O$ Qb O (RV VK O O O ai ξ) ?_
 rintro w2 ⟨ak,am⟩
 refine qM O$ Qc O$ PO func40 O ?_
 exact⟨_,rfl,rfl,txt1,ge.own am (λb e=>by rw[e];exact dF),o2,(dC.PU λb e=> .inl e).trans (am.PU λb e=> .inr e)⟩
def VcT.any {txt:Int->PV}{st width each n:Nat}(he:1<=each)(hw:each*width<=512)(h:∀i,i<n->(txt ((st+i / each:Nat):Int)).length=512):∃xs:List Nat,xs.length=n/\VcT txt st width each xs:=by
 refine⟨(List.range n).map λi=>QL (Qm (((txt ((st+i / each:Nat):Int)).drop (i%each*width)).take width)),ξ,λi x hx=>?_⟩
 rw[List.getElem?_map] at hx
 by_cases hi:i<n
 ·rw[List.getElem?_range hi] at hx;cases hx;have hl:=h i hi;have hm:(i%each+1)*width<=each*width:=Nat.mul_le_mul_right _ (Nat.mod_lt _ he);rw[Nat.add_mul,Nat.one_mul] at hm
  have aH:(((txt ((st+i / each:Nat):Int)).drop (i%each*width)).take width).length=width:=by
   rw[List.length_take,List.length_drop,hl];omega
  refine⟨?_,?_⟩
  ·have hb:=z9k (((txt ((st+i / each:Nat):Int)).drop (i%each*width)).take width);rw[aH] at hb;exact hb.symm
  ·have h1:=S9 (Qm (((txt ((st+i / each:Nat):Int)).drop (i%each*width)).take width));rw[bitsT_length,aH] at h1;exact h1
 ·rw[List.getElem?_eq_none (by simpa using hi)] at hx;cases hx
theorem za8 (hP:Sp Q txt K X w)(hX:∀b,X b->b<w.heap.size)(hK:K<=800000000000){a:Nat}(hp:Pre Q.L a)(n width:Nat)(hn:n<=4194304)(kw:width=1\/width=2\/width=4\/width=8)(cd:a+WA n (512 / width)<=Q.L.length):
  Qu prog 33 [ptr Q.s 0,I (n:Int),I (width:Int)] w λv w'=>∃vb txt',v= .tuple #[ptr vb 0,I 0]/\w.heap.size<=vb/\Sp (Q.Rx (Rn Q.L a (WA n (512 / width)) true)) txt' (K+WA n (512 / width)) (λb=>X b\/b=vb) w'/\Vn (Q.Rx (Rn Q.L a (WA n (512 / width)) true)) txt' vb width a (List.replicate n 0) w'/\(∀y:Int,y<(a:Int)\/(a:Int)+(WA n (512 / width):Int)<=y->txt' y=txt y)/\Kp (λb=>¬X b) w w':=by
 have lE:1<=WA n (512 / width):=Nat.le_max_left _ _
 have dS:=hP.n
 obtain⟨e1,e2,e3,e4,e5⟩:64<=512 / width/\512 / width<=512/\512 / width*width=512/\1<=width/\width<=8:=by
  rcases kw with e|e|e|e<;>subst e<;>decide
 have fu:(Rn Q.L a (WA n (512 / width)) true).length=Q.L.length:=R5 cd
 refine py (e:=[(0,_),(1,_),(2,_)]) func33 O ntmps33 O O$ qN O$ Rt O$ RP$ Qx O$ qV (R9 Y1 O O)$ Qc O$ PZ O$ An$ QH (λe' w'=>w'=w/\e'=[(0,ptr Q.s 0),(1,I (n:Int)),(2,I (width:Int)),(15,.bool false)]) ?aq$ λaq=>?dU
 case aq=>
  rintro e' w' ⟨rfl,rfl⟩;refine TT O$ PM$ RI O$ Q4 O$ Qk z5I O (hP.size) ?_;rintro _ w' ⟨rfl,rfl⟩;refine Q4 O$ qV (Yh O O ω) ?_;rw[show(512:Int) / (width:Int)=((512 / width:Nat):Int) from rfl];refine qV (Tq (cs:=[_,_,_]) z0g O zj0 O O)$ Q4 O$ qV (Tq (cs:=[_,_,_,_,_,_,_]) ziL O zhF O O)$ PY O O (Se O (cs:=[I (n:Int),I (width:Int),I ((512 / width:Nat):Int),I 0,I 0,ptr Q.s 0,.bool false]) O) ?_;rintro _ w1 ⟨vb,rfl,dF,ad,ai⟩;refine S7 O$ Qp O$ QA O$ Qd S8 O$ qV (QB z9U O z0g O (Q7.cells (n:=3) ai (news:=[_,_,_]) O) O)$ Qk zir O (ZO n width (512 / width) ⟨ω,e2⟩ hn _) ?_;rintro _ w2 ⟨rfl,ae⟩;have aG:=ad.trans ae;have ak:=ae.PN ai;have z1:=ad.size;have z2:=ae.size;have l1:=ai.lt;have ev:Sp Q txt K (λb=>X b\/b=vb) w2:=hP.ext aG (λb e=>e.imp id λe=>by omega)
  have fx:∀b,(X b\/b=vb)->b<w2.heap.size:=λb hb=>by
   rcases hb with e| e
   ·have:=hX b e;have:=aG.size;omega
   ·omega
  obtain⟨N,hN⟩:∃N,WA n (512 / width)=N:=⟨_,rfl⟩;rw[hN] at lE cd fu⊢;refine Qk zjy O (ev.take fx hp lE cd) ?_;rintro _ w3 ⟨rfl,fL,av⟩;have aw:=av.PN ak (λe=>e (.inr O));have z3:=av.size;refine Q4 O$ TK O$ PY O O (SE (cs:=[_,_]) Sd O) ?_;rintro _ w4 ⟨b9,rfl,jg,aC,aM⟩;refine Qb O (QT (news:=[I (a:Int),I (N:Int)]) Sd O O O O aM ξ) ?_;rintro w5 ⟨aJ,aj⟩;replace aJ:Q7 w5 b9 [I (a:Int),I (N:Int)] 118:=aJ;have cC:Ext w3 w5:=aC.It aj (λj e=>by omega);have cY:=cC.PN aw;have fT:=fL.ext' cC;refine Qc O$ Qy.qb (e:=[(0,_),(8,_),(9,_),(10,_)]) ?_;refine QS O$ RA O$ Re O$ Qx O$ qV (QB YE O Sd O (Q7.cells (n:=2) aJ (news:=[_,_]) O) O)$ QA O$ Qd ZD O$ Qb O (QT (news:=[I (a:Int),I (N:Int)]) Sd O O O O cY ξ) ?_;rintro w6 ⟨aY,aL⟩;replace aY:Q7 w6 vb [I (n:Int),I (width:Int),I ((512 / width:Nat):Int),I (a:Int),I (N:Int),ptr Q.s 0,.bool false] 143:=aY;have nM:=fT.own aL (λb e=> .inr e);have aH:(Q.Rx (Rn Q.L a N true)).L.length=Q.L.length:=fu
  obtain⟨xs,bR,Cy⟩:=VcT.any (txt:=txt) (st:=a) (width:=width) (each:=512 / width) (n:=n) ω ω (λi hi=>by
   have rI:=z0S (each:=512 / width) ω hi;rw[hN] at rI
   generalize i / (512 / width)=q at rI⊢
   exact nM.z0s ω (by rw[aH];omega))
  have Nr:Vn (Q.Rx (Rn Q.L a N true)) txt vb width a xs w6:=⟨by rw[bR,hN];exact aY,kw,Cy,ω,by rw[bR,hN,aH];exact cd⟩
  have lK:∀b,(X b\/b=vb)->b<w6.heap.size:=λb hb=>by
   have:=fx b hb;have:=cC.size;have:=aL.size;omega
  have tz:=Zm nM lK ω Nr (.inr O) (x:=0) (Nat.two_pow_pos _);rw[bR,hN] at tz;refine PQ$ QS O$ Qk zgA O (tz) ?_;rintro _ w7 ⟨rfl,hW⟩;obtain⟨txt7,tw,Ce,Cz,aA⟩:=hW;refine RZ O$ RA O$ Re O$ Qx O$ Rt O$ PO func33 O ?_;have iz:(List.replicate n 0).length=n:=List.length_replicate;refine⟨_,rfl,vb,txt7,rfl,ω,tw,Ce,λy hy=>Cz y (by rw[iz,hN];exact hy),?_⟩;have cA:Kp (λb=>¬X b) w' w3:=aG.kp.trans (av.PU λb e e2=>e (.inl e2));exact((cA.trans cC.kp).It aL (λb e=> .inl ω)).trans (aA.PU λb e e2=>e (.inl e2))
 case dU=>
  rcases kw with rfl|rfl|rfl|rfl
  ·refine St O$ RT O$ QW$ Qp O$ RK O$ QW$ QY O$ Qp O$ RA O$ QW$ Q4 O$ S6$ QY O$ Q4 O ?_;refine S6$ QY O$ Q4 O$ S6$ QY O$ QY O$ Qc O$ Qy.qb (e:=[(0,_),(1,_),(2,_),(6,_),(7,_),(15,_)]) ?_;exact(aq _ _ ⟨rfl,rfl⟩).qb
  ·refine St O$ RT O$ QW$ Qp O$ RK O$ QW$ QY O$ Qp O$ RA O$ SM$ Qp O$ RA O$ QW$ Sa O ?_;refine Q4 O$ S6$ QY O$ Q4 O$ S6$ QY O$ QY O$ Qc O$ Qy.qb (e:=[(0,_),(1,_),(2,_),(6,_),(7,_),(15,_)]) ?_;exact(aq _ _ ⟨rfl,rfl⟩).qb
  ·refine St O$ RT O$ QW$ Qp O$ RK O$ QW$ QY O$ Qp O$ RA O$ SM$ Qp O$ RA O$ SM$ Sa O ?_;refine Qp O$ RA O$ QW$ Sa O$ Q4 O$ S6$ QY O$ QY O$ Qc O$ Qy.qb (e:=[(0,_),(1,_),(2,_),(6,_),(7,_),(15,_)]) ?_;exact(aq _ _ ⟨rfl,rfl⟩).qb
  ·refine St O$ RT O$ QW$ Qp O$ RK O$ QW$ QY O$ Qp O$ RA O$ SM$ Qp O$ RA O$ SM$ Sa O ?_;refine Qp O$ RA O$ SM$ Sa O$ Qp O$ RA O$ QW$ Sa O$ QY O$ Qc O$ Qy.qb (e:=[(0,_),(1,_),(2,_),(6,_),(7,_),(15,_)]) ?_;exact(aq _ _ ⟨rfl,rfl⟩).qb
end
structure Gr where
 n:Nat
 succ:Nat->List Nat
 lt:∀v u,u∈succ v->u<n
def Zx {g:List (List Nat)}(h:Tl g)(v u:Nat)(hu:u∈Qe g v):u<g.length:=by
 unfold Qe at hu
 cases e:g[v]? with
 |none=>rw[e] at hu;cases hu
 |some l=>rw[e] at hu;exact h.lt l (List.mem_of_getElem? e) u hu
abbrev Ds:=List (Option Nat)
section
end
section
end
/-! ### The same with a flag: whether there were some -/
/-! ### A run -/
structure BfS where
 t:Nat
 done:Bool
 d:Ds
section
variable {g:List (List Nat)}
end
def z8P {v:Nat}(h:v<=200000):Nat.log2 (v+1)<=17:=by
 have h1:=Nat.log2_self_le (n:=v+1) ω
 have h3:2^Nat.log2 (v+1)<2^18:=by
  have:(2:Nat)^18=262144:=by decide
  omega
 have:=(Nat.pow_lt_pow_iff_right (by decide:1<2)).1 h3
 omega
def YN.zeC {k:Nat}{q:Cd×Nat}(h:YN k q)(hk:1<=k/\k<=3):(q.1.enc q.2).length<=40:=by
 rw[YA]
 rcases h with⟨e,h⟩|⟨e,h⟩|⟨e,h⟩
 ·rw[e];show q.2+1+0<=_;omega
 ·have:=z8P h;rw[e];show Nat.log2 (q.2+1)+1+Nat.log2 (q.2+1)<=_;omega
 ·have h3:=z8P h;have h4:Nat.log2 (q.2+1) / k<=Nat.log2 (q.2+1):=Nat.div_le_self _ _;have hm:Nat.log2 (q.2+1) / k*k<=Nat.log2 (q.2+1):=Nat.div_mul_le_self _ _
  have h5:(SJ (q.2+1-2^(Nat.log2 (q.2+1) / k*k)) (2^(Nat.log2 (q.2+1) / k*k)*2^k-2^(Nat.log2 (q.2+1) / k*k))).2<=20:=by
   have h6:R3 (2^(Nat.log2 (q.2+1) / k*k)*2^k-2^(Nat.log2 (q.2+1) / k*k)-1)<=20:=by
    refine Si ?_;have h7:=Nat.pow_le_pow_right (show 0<2 by decide) (show Nat.log2 (q.2+1) / k*k+k<=20 by omega);rw[Nat.pow_add] at h7;have:=Nat.two_pow_pos (Nat.log2 (q.2+1) / k*k);omega
   unfold SJ;dsimp only;split
   ·show R3 _-1<=20;omega
   ·exact h6
  rw[e];show Nat.log2 (q.2+1) / k+1+(SJ _ _).2<=_;omega
def z83 {p:Th}(hp:p.RE)(hz:p.zeta<=3){x:Nat}(hx:x<65536){succ ref:List Nat}(hs:QP succ)(hr:QP ref){r:Nat}(jB:r<=p.Qq)(LU:succ.length<=40)(BS:ref.length<=40):(Qo (SG p x succ ref r)).length<=6600:=by
 have az:QP (Qw succ ref):=hs.sub List.filter_sublist
 have fu:(Qw succ ref).length<=succ.length:=List.length_filter_le _ _
 have h1:=(Ul succ ref).z2W
 rw[List.length_map] at h1
 have h2:=z3z p.interval az
 have h3:=(VQ p.interval (Qw succ ref)).length_le
 have aH:(SG p x succ ref r).length<=165:=by
  unfold SG;rw[List.length_cons];split
  ·simp
  rw[List.length_append,List.length_append];have e1:(if 0<p.Qq then [(Cd.unary,r)] else []).length<=1:=by split<;>simp
  have e2:(if 0<r then(Cd.gamma,(Sk succ ref).length-1)::Rv 0 (Sk succ ref).dropLast else []).length<=42:=by
   split
   ·rw[List.length_cons,Un,List.length_dropLast];omega
   ·simp
  have e3:(if Qw succ ref=[] then [] else(if 0<p.interval then(Cd.gamma,(R4 p.interval (Qw succ ref)).1.length)::QV x p.interval none (R4 p.interval (Qw succ ref)).1 else [])++QX x p.zeta none (R4 p.interval (Qw succ ref)).2).length<=121:=by
   split
   ·simp
   ·rw[List.length_append,UB];split
    ·rw[List.length_cons,TM];omega
    ·simp;omega
  omega
 have:=z3M (n:=40) (L:=SG p x succ ref r) (λq hq=>(z1L hp hx hs hr jB q hq).zeC ⟨hp.2.2.1,hz⟩)
 omega
section
variable {p:Ry}{g:List (List Nat)}{E:List (Nat×Nat)}
def zgs (h:Ue p g E)(xG:g.length<=40)(hz:p.zeta<=3){i:Nat}(hi:i<g.length):(Z4 p g E i).length<=6600:=by
 unfold Z4
 have uY:g[i]? =some g[i]:=List.getElem?_eq_getElem hi
 have sS:i<E.length:=by have:=h.pk.el;omega
 have JL:E[i]? =some E[i]:=List.getElem?_eq_getElem sS
 have ii:=h.pk.ok.ent i _ JL
 rw[uY,JL]
 rw[uY] at ii
 show(Qo (SG p.list i g[i] (RM g i E[i].1) E[i].1)).length<=6600
 have h2:QP (RM g i E[i].1)/\(RM g i E[i].1).length<=40:=by
  rcases Ys g i E[i].1 with e| e
  ·rw[e];exact⟨⟨List.Pairwise.nil,λy h=>(by cases h)⟩,Nat.zero_le _⟩
  ·exact⟨h.gr.ok _ e,by have:=h.gr.len e;omega⟩
 have jB:E[i].1<=p.list.Qq:=by
  rcases ii with e|⟨-,h3,-⟩
  ·rw[e];exact Nat.zero_le _
  ·exact h3
 have hm:g[i]∈g:=List.getElem_mem hi
 exact z83 h.RE.1 hz ω (h.gr.ok _ hm) h2.1 jB (by have:=h.gr.len hm;omega) h2.2
def zdx (h:Ue p g E)(xG:g.length<=40)(hz:p.zeta<=3):∀n,n<=g.length->(RG p g E n).length<=n*6600
 |0,_=>by simp[RG]
 | n + 1, hn => by
   have:=zdx h xG hz n ω;have:=zgs h xG hz (i:=n) ω;rw[Uo,List.length_append,Nat.add_mul];omega
def zdL {n u:Nat}(hn:1<=n):(Vf n u).bits<=3*n:=by
 show(u-1) / 2^Zq n u+n<=_
 have h:u<2*n*2^Zq n u:=by
  unfold Zq;split
  ·rename_i e
   have:=(Nat.div_eq_zero_iff).1 e;omega
  ·rename_i e
   have h1:=Yq (v:=u / n);have h2:=(Nat.div_lt_iff_lt_mul ω).1 h1;have h3:1<=R3 (u / n):=by unfold R3;rw[if_neg e];omega
   rw[show R3 (u / n)=R3 (u / n)-1+1 by omega,Nat.pow_succ,Nat.mul_comm _ n,Nat.mul_comm _ 2,<-Nat.mul_assoc,Nat.mul_comm n 2] at h2;exact h2
 have h4:(u-1) / 2^Zq n u<2*n:=(Nat.div_lt_iff_lt_mul (Nat.two_pow_pos _)).2 ω
 omega
def zcZ (h:Ue p g E)(xG:g.length<=40)(hz:p.zeta<=3):(YI p g E).length<=36000:=by
 have h1:=zdx h xG hz g.length (Nat.le_refl _)
 have h2:g.length*6600<=40*6600:=Nat.mul_le_mul_right _ xG
 have h3:(pfm p g E).size<=2900:=by
  have hw:Zq (g.length+1) ((RG p g E g.length).length+1)<=30:=z0r ω;have hb:=zdL (n:=g.length+1) (u:=(RG p g E g.length).length+1) ω;have hm:(g.length+1)*Zq (g.length+1) ((RG p g E g.length).length+1)<=41*30:=Nat.mul_le_mul ω hw;show 12+((g.length+1)*Zq (g.length+1) ((RG p g E g.length).length+1)+7) / 8+((Vf (g.length+1) ((RG p g E g.length).length+1)).bits+7) / 8+4*((g.length+1+63) / 64)<=2900;omega
 rw[h.len]
 unfold Xw
 omega
end
structure ZM where
 p:Ry
 g:List (List Nat)
 E:List (Nat×Nat)
 st:Nat
 len:Nat
 rb:Nat
 sum:Nat
 k:Nat
 x:Nat
def U0 (G:ZM)(Q:Sj)(txt:Int->PV)(K:Nat)(X:Nat->Prop)(w:World):Prop:=∃o:StO Q txt K G.st G.len (YI G.p G.g G.E),W9 (z8z o G.rb G.sum) G.k G.x X w
section
variable {G:ZM}{w w':World}{Q Q':Sj}{txt txt':Int->PV}{K K':Nat}{X Y S':Nat->Prop}
def U0.sp (h:U0 G Q txt K X w):Sp Q txt K (λb=>X b\/b=G.rb) w:=by obtain⟨o,h⟩:=h;exact h.inv.1
def U0.rbB (h:U0 G Q txt K X w):Q7 w G.rb (srC Q.s G.st G.len (YI G.p G.g G.E).length G.sum) 186:=by obtain⟨o,h⟩:=h;exact h.inv.2.1
def U0.rbX (h:U0 G Q txt K X w):¬X G.rb:=by obtain⟨o,h⟩:=h;exact h.inv.2.2
def U0.lt (h:U0 G Q txt K X w):∀b,X b->b<w.heap.size:=by obtain⟨o,h⟩:=h;exact h.lt
def U0.lt1 (h:U0 G Q txt K X w):∀b,(X b\/b=G.rb)->b<w.heap.size:=λb hb=>hb.elim (h.lt b) (λe=>by rw[e];exact h.rbB.lt)
def U0.Wv (h:U0 G Q txt K X w):K<1000000000000:=by obtain⟨o,h⟩:=h;exact o.k
def U0.xk (h:U0 G Q txt K X w):X G.k/\X G.x/\X 1/\X 2:=by obtain⟨o,h⟩:=h;exact⟨h.xk,h.xx,h.x1,h.x2⟩
theorem U0.ok (h:U0 G Q txt K X w):Ue G.p G.g G.E:=by obtain⟨o,h⟩:=h;exact h.ok
theorem U0.upd (h:U0 G Q txt K X w)(hk:Kp S' w w')(hS:∀b,S' b->¬(X b\/b=G.rb)\/(X b/\b≠G.k/\b≠G.x/\b≠1/\b≠2))(hP:Sp Q' txt' K' (λb=>X b\/b=G.rb) w')(hs:Q'.s=Q.s)(hl:Q'.L.length=Q.L.length)(hK:K'<1000000000000)(ht:∀y:Int,(G.st:Int)<=y->y<(G.st:Int)+(G.len:Int)->txt' y=txt y):U0 G Q' txt' K' X w':=by
 have vR:=h.rbX
 have CA:=h.rbB
 obtain⟨o,h⟩:=h
 have aH:=o.len
 refine⟨⟨hK,by rw[hl];exact o.fit,o.laid.Vr λk hk=>ht _ ω ω,o.len⟩,h.re hk (λj hj=>?_) ⟨hP,?_,vR⟩⟩
 ·rcases hS j hj with e| e
  ·exact⟨λe2=>e (.inl (e2▸h.xk)),λe2=>e (.inl (e2▸h.xx)),λe2=>e (.inl (e2▸h.x1)),λe2=>e (.inl (e2▸h.x2))⟩
  ·exact e.2
 ·rw[hs];exact hk.PN CA (λe=>(hS _ e).elim (λe=>e (.inr O)) (λe=>vR e.1))
def U0.zlW (h:U0 G Q txt K X w)(hk:Kp S' w w')(hS:∀b,S' b->¬(X b\/b=G.rb))(aN:∀j,X j->Y j)(hY:∀j,Y j->X j\/(w.heap.size<=j/\j<w'.heap.size))(hP:Sp Q' txt' K' (λb=>Y b\/b=G.rb) w')(hs:Q'.s=Q.s)(hl:Q'.L.length=Q.L.length)(hK:K'<1000000000000)(ht:∀y:Int,(G.st:Int)<=y->y<(G.st:Int)+(G.len:Int)->txt' y=txt y):U0 G Q' txt' K' Y w':=by
 have vR:=h.rbX
 have CA:=h.rbB
 obtain⟨o,h⟩:=h
 have aH:=o.len
 have hI:(z8z (⟨hK,by rw[hl];exact o.fit,o.laid.Vr λk hk=>ht _ ω ω,o.len⟩:StO Q' txt' K' G.st G.len (YI G.p G.g G.E)) G.rb G.sum).inv Y w':=⟨hP,by rw[hs];exact hk.PN CA (λe=>hS _ e (.inr O)),λe=>(hY _ e).elim vR (λe=>by have:=CA.lt;omega)⟩
 refine⟨_,⟨h.ok,hk.PN h.PN (λe=>hS _ e (.inl h.xk)),hk.PN h.ix (λe=>hS _ e (.inl h.xx)),aN _ h.xk,aN _ h.xx,hI,λj hj=>?_,aN _ h.x1,aN _ h.x2,hk.PN h.gam (λe=>hS _ e (.inl h.x1)),hk.PN h.una (λe=>hS _ e (.inl h.x2))⟩⟩
 rcases hY j hj with e| e
 ·have:=h.lt j e;have:=hk.size;omega
 ·exact e.2
def U0.grow (h:U0 G Q txt K X w)(hx:Ext w w')(hY:∀j,Y j->X j\/(w.heap.size<=j/\j<w'.heap.size))(aN:∀j,X j->Y j):U0 G Q txt K Y w':=by
 obtain⟨o,h⟩:=h
 exact⟨o,h.grow hx hY aN⟩
def U0.ext (h:U0 G Q txt K X w)(hx:Ext w w'):U0 G Q txt K X w':=h.grow hx (λj hj=> .inl hj) λj hj=>hj
def U0.own (h:U0 G Q txt K X w)(hk:Kp S' w w')(hS:∀j,S' j->X j/\j≠G.k/\j≠G.x/\j≠1/\j≠2):U0 G Q txt K X w':=by
 obtain⟨o,h⟩:=h
 exact⟨o,h.own hk hS⟩
theorem U0.step (h:U0 G Q txt K X w)(hk:Kp S' w w')(hS:∀j,S' j->X j/\j≠G.k/\j≠G.x/\j≠1/\j≠2)(hY:∀j,Y j->X j\/(w.heap.size<=j/\j<w'.heap.size))(aN:∀j,X j->Y j):U0 G Q txt K Y w':=by
 obtain⟨o,h⟩:=h
 exact⟨o,h.step hk hS hY aN⟩
def U0.less (h:U0 G Q txt K Y w)(aN:∀j,X j->Y j)(hx:X G.k/\X G.x/\X 1/\X 2):U0 G Q txt K X w:=by
 obtain⟨o,h⟩:=h
 exact⟨o,h.less aN hx.1 hx.2.1 hx.2.2.1 hx.2.2.2⟩
theorem U0.more (h:U0 G Q txt K X w)(hK:K<=K')(JM:K'<1000000000000):U0 G Q txt K' X w:=h.upd (S':=λ_=>False) (Kp.refl _ w) (λ_ e=>e.elim) (h.sp.more hK) O O JM λ_ _ _=>rfl
def z1N (h:U0 G Q txt K X w):Qu prog 30 [ptr G.k 0] w λv w'=>v=I (G.g.length:Int)/\w'=w:=by
 obtain⟨o,h⟩:=h
 exact ze2 h
def z6R {l bk bi v:Nat}(jF:G.g.length<50)(hv:v<G.g.length)(h:U0 G Q txt K X w)(fH:Q7 w bk [ptr G.k 0] 28)(xE:Q7 w bi [I (v:Int)] 3)(Z:Nat->Prop)(hZ:∀j,Z j->X j)(J:(Nat->Prop)->Nat->World->Prop)(F:World->Prop)
  (h0:∀(Y:Nat->Prop) (w':World),(∀j,X j->Y j)->(∀j,Y j->X j\/w.heap.size<=j)->U0 G Q txt K Y w'->Kp (λj=>¬X j) w w'->J Y 0 w')
  (hround:∀(Y:Nat->Prop) (i s:Nat) (w':World),(∀j,X j->Y j)->(∀j,Y j->X j\/w.heap.size<=j)->(Qe G.g v)[i]? =some s->J Y i w'->z3l prog l [QJ s,I 0] w' λr w''=>(r= .bool true/\J Y (i+1) w''/\Kp (λj=>¬Y j\/Z j) w' w'')\/(r= .bool false/\F w'')):
  Qu prog 170 [.func (.yield l) #[] #[],ptr bk 0,ptr bi 0] w λr w'=>r= .tuple #[]/\((∃Y,(∀j,X j->Y j)/\(∀j,Y j->X j\/w.heap.size<=j)/\J Y (Qe G.g v).length w')\/F w'):=by
 obtain⟨o,h⟩:=h
 exact z7F jF hv h fH xE Z hZ J F (λY w' h1 h2 h3 h4=>h0 Y w' h1 h2 ⟨o,h3⟩ h4) hround
end
def GrR (w:World)(gb go:Nat)(g:List (List Nat)):Prop:=∀(v:Nat) (l:List Nat),g[v]? =some l->∃(a:Option Addr) (c:Nat),w.cell? ⟨gb,go+v*1,none⟩=some (.slice a l.length c)/\∀(i x:Nat),l[i]? =some x->∃lb lo,a=some ⟨lb,lo,none⟩/\w.cell? ⟨lb,lo+i*1,none⟩=some (QJ x)
def Rw {w w':World}{a:Addr}{u:Value}(hx:Ext w w')(h:w.cell? a=some u):w'.cell? a=some u:=by
 unfold World.cell? at h⊢
 cases hh:w.heap[a.block]? with
 |none=>rw[hh] at h;simp at h
 |some o=>rw[hx.heap hh id];rw[hh] at h;exact h
def GrR.ext {w w':World}{gb go:Nat}{g:List (List Nat)}(h:GrR w gb go g)(hx:Ext w w'):GrR w' gb go g:=λv l hl=>by
 obtain⟨a,c,h1,h2⟩:=h v l hl
 refine⟨a,c,Rw hx h1,λi x hi=>?_⟩
 obtain⟨lb,lo,e,h3⟩:=h2 i x hi
 exact⟨lb,lo,e,Rw hx h3⟩
theorem GrM.r {w:World}{v:Value}{g:List (List Nat)}(h:GrM w v g)(h1:1<=g.length):∃gb go gc,v= .slice (some ⟨gb,go,none⟩) g.length gc/\GrR w gb go g:=by
 obtain⟨vs,hr,hv⟩:=h.ex
 rcases hr.2 with⟨c,-,h0⟩|⟨gb,go,gc,e,hc⟩
 ·omega
 ·refine⟨gb,go,gc,e,λv l hl=>?_⟩;obtain⟨a,c,g1,g2,g3⟩:=hv v l hl;refine⟨a,c,by rw[Nat.mul_one];exact hc v _ g1,λi x hi=>?_⟩;rcases g3.2 with⟨c',-,h0⟩|⟨lb,lo,lc,e2,g7⟩
  ·have:l=[]:=List.eq_nil_of_length_eq_zero h0;rw[this] at hi;cases hi
  ·cases e2;exact⟨lb,lo,rfl,by rw[Nat.mul_one];exact g7 i _ (by rw[List.getElem?_map,hi];rfl)⟩
/-! ### Distances -/
structure RwM (w:World)(bg B:Nat)(L:List (List Nat)):Prop where
 ex:∃vs:List Value,Q7 w bg vs 62/\vs.length=L.length/\∀(i:Nat) (l:List Nat),L[i]? =some l->∃(a:Option Addr) (c:Nat),vs[i]? =some (.slice a l.length c)/\l.length<=c/\Rd w (.slice a l.length c) 1 l.length (l.map QJ)/\∀b,(Value.slice a l.length c).ownBlock=some b->B<=b/\b≠bg
section
variable {w w':World}{bg B:Nat}{L:List (List Nat)}
def RwM.ext (h:RwM w bg B L)(hx:Ext w w'):RwM w' bg B L:=by
 obtain⟨vs,h1,h2,h3⟩:=h.ex
 refine⟨vs,hx.PN h1,h2,λi l hl=>?_⟩
 obtain⟨a,c,g1,g2,g3,g4⟩:=h3 i l hl
 exact⟨a,c,g1,g2,g3.ext hx,g4⟩
def RwM.new {n:Nat}(h:Q7 w bg (List.replicate n (.slice none 0 0)) 62):RwM w bg B (List.replicate n []):=
 ⟨_,h,ξ,λi l hl=>by
  rw[List.getElem?_replicate] at hl;split at hl
  ·rename_i hi
   cases hl;exact⟨none,0,by rw[List.getElem?_replicate,if_pos hi];rfl,Nat.le_refl _,⟨rfl,.inl ⟨(none,0),rfl,rfl⟩⟩,λb hb=>by cases hb⟩
  ·cases hl⟩
theorem RwM.set (h:RwM w bg B L){f:Nat}{l:List Nat}{a:Option Addr}{c:Nat}(hk:Kp (λb=>b=bg) w w')(hB:∀vs,Q7 w bg vs 62->Q7 w' bg (vs.set (0+f*1) (.slice a l.length c)) 62)(hf:f<L.length)(pT:l.length<=c)(hr:Rd w (.slice a l.length c) 1 l.length (l.map QJ))(ho:∀b,(Value.slice a l.length c).ownBlock=some b->B<=b/\b≠bg):RwM w' bg B (L.set f l):=by
 obtain⟨vs,h1,h2,h3⟩:=h.ex
 refine⟨_,hB vs h1,by simp[h2],λi l' hl=>?_⟩
 rw[Nat.zero_add,Nat.mul_one]
 by_cases e:f=i
 ·subst e;rw[List.getElem?_set_self hf] at hl;cases hl;exact⟨a,c,List.getElem?_set_self (by rw[h2];exact hf),pT,hr.kp hk (λb hb e=>(ho b hb).2 e),ho⟩
 ·rw[List.getElem?_set_ne e] at hl;obtain⟨a',c',g1,g2,g3,g4⟩:=h3 i l' hl;exact⟨a',c',by rw[List.getElem?_set_ne e];exact g1,g2,g3.kp hk (λb hb e=>(g4 b hb).2 e),g4⟩
def RwM.gr (h:RwM w bg B L):GrM w (.slice (some ⟨bg,0,none⟩) L.length L.length) L:=by
 obtain⟨vs,h1,h2,h3⟩:=h.ex
 refine⟨vs,⟨by rw[h2,Nat.mul_one],.inr ⟨bg,0,L.length,rfl,λj u hj=>by rw[h1.cell,Nat.zero_add];exact hj⟩⟩,λi l hl=>?_⟩
 obtain⟨a,c,g1,g2,g3,g4⟩:=h3 i l hl
 exact⟨a,c,g1,g2,g3⟩
def RwM.lt (h:RwM w bg B L):bg<w.heap.size:=by obtain⟨vs,h1,-⟩:=h.ex;exact h1.lt
theorem RwM.cell (h:RwM w bg B L){f:Nat}{l:List Nat}(hf:L[f]? =some l):∃(a:Option Addr) (c:Nat),w.cell? ⟨bg,0+f*1,none⟩=some (.slice a l.length c)/\l.length<=c/\Rd w (.slice a l.length c) 1 l.length (l.map QJ)/\∀b,(Value.slice a l.length c).ownBlock=some b->B<=b/\b≠bg:=by
 obtain⟨vs,h1,h2,h3⟩:=h.ex
 obtain⟨a,c,g1,g2,g3,g4⟩:=h3 f l hf
 exact⟨a,c,by rw[h1.cell,Nat.zero_add,Nat.mul_one];exact g1,g2,g3,g4⟩
def EdR (w:World)(ea:Option Addr)(es:List (Nat×Nat)):Prop:=∀(i:Nat) (e:Nat×Nat),es[i]? =some e->e.1<4294967296/\e.2<4294967296/\∃eb eo,ea=some ⟨eb,eo,none⟩/\w.cell? ⟨eb,eo+i*2+0,none⟩=some (QJ e.1)/\w.cell? ⟨eb,eo+i*2+1,none⟩=some (QJ e.2)
def EdR.ext {ea:Option Addr}{es:List (Nat×Nat)}(h:EdR w ea es)(hx:Ext w w'):EdR w' ea es:=λi e he=>by
 obtain⟨h1,h2,eb,eo,h3,h4,h5⟩:=h i e he
 exact⟨h1,h2,eb,eo,h3,Rw hx h4,Rw hx h5⟩
end
def Tl.insert {g:List (List Nat)}(h:Tl g){f x k:Nat}{s:List Nat}(hs:g[f]? =some s)(hx:x<g.length)(hk:k<=s.length)(h1:∀y∈s.take k,y<x)(h2:∀y∈s.drop k,x<y):Tl (g.set f (s.take k++[x]++s.drop k)):=by
 have hm:=List.mem_of_getElem? hs
 have vV:=h.ok s hm
 have aR:=h.lt s hm
 have hn:=h.n
 refine⟨λl hl=>?_,λl hl y hy=>?_,by rw[List.length_set];exact h.n⟩
 ·rcases List.mem_or_eq_of_mem_set hl with e| e
  ·exact h.ok l e
  ·subst e;refine⟨?_,λy hy=>?_⟩
   ·have hr:List.Pairwise (·<·) s:=vV.ris;show List.Pairwise (·<·) _;rw[List.append_assoc,List.pairwise_append];refine⟨hr.sublist (List.take_sublist _ _),?_,λa ha b hb=>?_⟩
    ·rw[List.singleton_append,List.pairwise_cons];exact⟨h2,hr.sublist (List.drop_sublist _ _)⟩
    ·rw[List.singleton_append] at hb;rcases List.mem_cons.1 hb with e| e
     ·rw[e];exact h1 a ha
     ·exact Nat.lt_trans (h1 a ha) (h2 b e)
   ·rcases List.mem_append.1 hy with e| e
    ·rcases List.mem_append.1 e with e| e
     ·exact vV.lt y (List.mem_of_mem_take e)
     ·rw[List.mem_singleton.1 e];omega
    ·exact vV.lt y (List.mem_of_mem_drop e)
 ·rw[List.length_set];rcases List.mem_or_eq_of_mem_set hl with e| e
  ·exact h.lt l e y hy
  ·subst e;rcases List.mem_append.1 hy with e| e
   ·rcases List.mem_append.1 e with e| e
    ·exact aR y (List.mem_of_mem_take e)
    ·rw[List.mem_singleton.1 e];exact hx
   ·exact aR y (List.mem_of_mem_drop e)
def Tl.empty {n:Nat}(hn:n<=60):Tl (List.replicate n []):=
 ⟨λl hl=>by rw[List.eq_of_mem_replicate hl];exact⟨List.Pairwise.nil,λy h=>(by cases h)⟩,λl hl y hy=>(by rw[List.eq_of_mem_replicate hl] at hy;cases hy),by simpa using hn⟩
theorem Q7.uniq {w:World}{b:Nat}{cs cs':List Value}{T T':TypeId}(h:Q7 w b cs T)(h':Q7 w b cs' T'):cs=cs':=by
 obtain⟨fz,h1,-⟩:=h
 obtain⟨fz',h2,-⟩:=h'
 rw[h1] at h2
 have:=SH h2
 injection this with e1 e2 e3
 have:=congrArg Array.toList e1
 simpa using this
def zaS {n:Nat}(dl:1<=n)(hn:n<=40){w:World}{ea:Option Addr}{ec:Nat}{es:List (Nat×Nat)}(uX:es.length<=9000000000000000000)(hE:EdR w ea es):Qu prog 6 [I (n:Int),.slice ea es.length ec] w λv w'=>∃g bg,v= .slice (some ⟨bg,0,none⟩) g.length g.length/\g.length=n/\Tl g/\RwM w' bg w.heap.size g/\Ext w w':=by
 have fF:maxLen=9223372036854775807:=rfl
 refine py (e:=[(0,_),(1,_)]) func6 O ntmps6 O O$ qN O$ RZ O$ PY O O (pmk (c:=n) (n:=n) U23 Vz O O O ω ω ω) ?_
 rintro _ w1 ⟨bg,rfl,⟨JE,ad,ai⟩,-⟩
 have i3:RwM w1 bg w.heap.size (List.replicate n []):=RwM.new ai
 refine Qc O$ An$ RN O$ PS$ SK (α:=Nat×List (List Nat)) ((0,List.replicate n [])) (λy=>[(0,I (n:Int)),(1,.slice ea es.length ec),(5,.slice (some ⟨bg,0,none⟩) n n),(6,I (y.1:Int))]) (λy w'=>y.1<=es.length/\y.2.length=n/\Tl y.2/\RwM w' bg w.heap.size y.2/\Ext w w') (λy=>es.length-y.1) ?hI ?hround
 case hI=>exact⟨Nat.zero_le _,ξ,Tl.empty ω,i3,ad⟩
 case hround =>
  rintro⟨i,g⟩ w2 ⟨hi,gd,az,dc,ae⟩ ih;dsimp only at hi gd az dc ae ih⊢
  try dsimp only
  refine An$ RI O$ SR U22 O$ RT O$ PQ$ Q8 O (λhq=>?_)$ λhq=>?_
  ·have dq : i < es.length := by omega
   obtain⟨e,he⟩:∃e,es[i]? =some e:=⟨_,List.getElem?_eq_getElem dq⟩;obtain⟨e1,e2,eb,eo,rfl,gS,g7⟩:=(hE.ext ae) i e he;refine PR$ RP$ An$ RI O$ qV (Rh U22 z5V O O ω)$ Qd z7J O$ qV (QF RQ O O gS)$ qV (QU O RQ U3 ω)$ Q4 O ?_;by_cases hf:e.1<n
   ·by_cases ht:e.2<n
    ·refine UZ O$ QW$ Qp O$ Q4 O$ qV (Rh U22 z5V O O ω)$ Qd z2g O$ qV (QF RQ O O g7)$ qV (QU O RQ U3 ω)$ Q4 O$ UZ O$ QW ?_;obtain⟨s,hs⟩:∃s,g[e.1]? =some s:=⟨_,List.getElem?_eq_getElem ω⟩;obtain⟨a,c,gh,pT,eI,Ps⟩:=dc.cell hs;have fU:s.length<=n:=by rw[<-gd];exact az.len (List.mem_of_getElem? hs)
     refine QY O$ Re O$ RI O$ Q4 O$ qV (Rh U22 z5V O O ω)$ Qd z7J O$ qV (QF RQ O O gS)$ qV (Rh U23 Vz O O ω)$ qV (QF QE O O gh)$ S7 O$ Qc O$ RP ?_;have vI:List.Pairwise (·<·) s:=(az.ok s (List.mem_of_getElem? hs)).ris
     have Ns:∀(k y:Nat),s[k]? =some y->∀z∈s.drop k,y<=z:=λk y hy z hz=>by
      have ko:k<s.length:=by
       rcases Nat.lt_or_ge k s.length with h| h
       ·exact h
       ·rw[List.getElem?_eq_none h] at hy;cases hy
      have h1:List.Pairwise (·<·) (s.drop k):=vI.sublist (List.drop_sublist _ _);rw[List.drop_eq_getElem_cons ko] at h1 hz;rw[List.getElem?_eq_getElem ko] at hy;cases hy;rcases List.mem_cons.1 hz with e| e
      ·omega
      ·exact Nat.le_of_lt ((List.pairwise_cons.1 h1).1 z e)
     refine Tf (λe' w'=>∃k:Nat,e'=[(0,I (n:Int)),(1,.slice (some ⟨eb,eo,none⟩) es.length ec),(5,.slice (some ⟨bg,0,none⟩) n n),(6,I (i:Int)),(7,.slice a s.length c),(8,I (k:Int))]/\k<=s.length/\(∀y∈s.take k,y<e.2)/\(∀y,s[k]? =some y->e.2<=y)/\Ext w2 w') ?kN$ λkN=>?GN
     case kN =>
      rintro e' w3 ⟨k,rfl,hk,iD,de,ah⟩;have ag:=Ext.Qh w3;have vW:=eI.ext ah;have vX:=Rw ah g7;refine An$ QH (λe' w'=>∃q,e'=[(0,I (n:Int)),(1,.slice (some ⟨eb,eo,none⟩) es.length ec),(5,.slice (some ⟨bg,0,none⟩) n n),(6,I (i:Int)),(7,.slice a s.length c),(8,I (k:Int)),(76,.bool q)]/\(q=true->∀y∈s.drop k,e.2<y)/\Ext w2 w') ?db$ λdb=>?j3
      case db =>
       rintro e' w4 ⟨q,rfl,vK,aC⟩;have ez:=dc.ext aC;have nt:=eI.ext aC;have GJ:=Rw aC gS;have GK:=Rw aC g7;have ce:=ae.trans aC;refine Rr O (λCB=>?_)$ λCB=>?_
       ·have ao:=Ext.Qh w4;have bJ:=ao.size;have Jm:w.heap.size<=w4.heap.size:=ce.size;have Nt:=ez.lt
        have oZ:((s.take k++[e.2])++s.drop k).length=s.length+1:=by
         rw[List.length_append,List.length_append,List.length_take,List.length_drop,List.length_singleton];omega
        have j5:∀(l:List Nat),∀c∈l.map QJ,c.oneCell'=true:=λl c hc=>by obtain⟨z,-,rfl⟩:=List.mem_map.1 hc;rfl
        have nS:(s.take k).length=k:=by rw[List.length_take];omega
        have pL:(s.drop k).length=s.length-k:=List.length_drop ..;obtain⟨vs,rR,rx,-⟩:=id ez.ex;refine Qn [23] (λw'=>Ext w4 w') (by kernel_rfl) O$ R1 0 O O (ao)$ R1 1 O O (ao)$ R1 2 O O (ao)$ Qs 3 O (Rh U22 z5V O O ω) ao$ Qs 4 O (Qz z7J O) ao$ R1 7 O O (ao)$ R1 8 O O (ao)$ R1 11 O O (ao)$ R1 12 O O (ao)$ Qs 13 O (Rh U22 z5V O O ω) ao$ Qs 14 O (Qz z2g O) ao$ R1 18 O O (ao)$ R1 19 O O (ao) ?_;refine qL 5 O (λ_ h=>QF RQ O O (Rw h GJ)) ao$ Qs 9 O (zeK QE Ql O O ω) ao$ qL 15 O (λ_ h=>QF RQ O O (Rw h GK)) ao$ Qs 20 O (ZX QE Ql O O hk pT) ao$ XN (i:=6) (j:=16) (by kernel_rfl) ?_ ?_
        ·refine Ru (i:=6) O O O (Zh (cs:=[]) (zs:=[]) QE Ql O (by kernel_rfl) O O O ψ) ?_;rintro v6 w6 ⟨b6,rfl,⟨nV,aS,aY⟩,g8⟩;refine⟨ao.trans aS,?_⟩;have GL:w4.heap.size<=b6:=by omega
         have lb6:=aY.lt;have ao:=ao.trans aS
         try have cB:=cB.ext aS
         have bJ:=Nat.le_trans bJ aS.size;refine XN (i:=10) (j:=16) (by kernel_rfl) ?_ ?_
         ·refine Ru (i:=10) O O O (pap QE Ql O ψ O O g8 ((Wp (i:=k) nt hk).ext ao) (λc hc=>j5 s c (List.mem_of_mem_take hc)) ω ω) ?_;rintro v10 w10 ⟨cw,aB,cy,-⟩;refine⟨ao.It aB (λj e=>by have e:b6=j:=SH e;omega),?_⟩;have ao:=ao.It aB (λj e=>by have e:b6=j:=SH e;omega)
          try have cB:=cB.kp aB (λj hj e=>by have e:b6=j:=SH e;have hj:b16=j:=SH hj;omega)
          have cy:∀j,v10.ownBlock=some j->w4.heap.size<=j:=λj hj=>by rcases cy j hj with e|e;(have e:b6=j:=SH e;omega);omega
          have bJ:=Nat.le_trans bJ aB.size;have B0:=λ(j:Nat) (hj:v10.ownBlock=some j)=>cw.lt hj;refine Sc (i:=16) (by kernel_rfl)$ Ru (i:=16) O O O (Zh (cs:=[_]) (zs:=[Value.int .u32 0]) QE Ql O (by kernel_rfl) O O O ψ) ?_;rintro v16 w16 ⟨b16,rfl,⟨B1,bB,lM⟩,cB⟩;refine⟨ao.trans bB,?_⟩;have B2:w4.heap.size<=b16:=by omega
          have ao:=ao.trans bB
          try have g8:=g8.ext bB
          try have cw:=cw.ext bB
          have lb16:=lM.lt;have bJ:=Nat.le_trans bJ bB.size;refine Sc (i:=17) (by kernel_rfl)$ Ru (i:=17) O O O (pap QE Ql O ψ O O cw cB.rd (λc hc=>j5 [e.2] c hc) ω ω) ?_;rintro v17 w17 ⟨iO,cR,ek,-⟩;refine⟨ao.It cR (λj e=>cy j e),?_⟩;have ao:=ao.It cR (λj e=>cy j e);have ek:∀j,v17.ownBlock=some j->w4.heap.size<=j:=λj hj=>by rcases ek j hj with e|e;exact cy j e;omega
          have bJ:=Nat.le_trans bJ cR.size;refine Sc (i:=21) (by kernel_rfl)$ Ru (i:=21) O O O (pap QE Ql O ψ O O iO ((UX (i:=k) nt hk pT).ext ao) (λc hc=>j5 s c (List.mem_of_mem_drop hc)) ω ω) ?_;rintro v21 w21 ⟨en,jS,gP,-⟩;refine⟨ao.It jS (λj e=>ek j e),?_⟩;have ao:=ao.It jS (λj e=>ek j e);have gP:∀j,v21.ownBlock=some j->w4.heap.size<=j:=λj hj=>by rcases gP j hj with e|e;exact ek j e;omega
          refine Qs 22 O (Rh U23 Vz O O ω) ao ?_;have jT:=ao.PN rR;refine Ut [23]$ qO 23$ QO (i:=23) O O (RV Vz O O (Yr en) jT (by rw[rx];omega)) ?_;rintro w23 ⟨bG,ck⟩;refine⟨trivial,?_⟩;refine qE$ PM$ St O$ R7 O$ Qc O ?_;rw[show 0+k+1+(s.length-k)=(s.take k++[e.2]++s.drop k).length by rw[oZ];omega,show([]++List.take k (s.map QJ)++[QJ e.2]++List.drop k (s.map QJ))=(s.take k++[e.2]++s.drop k).map QJ by simp[List.map_take,List.map_drop]] at en;obtain⟨ra,rc,rfl,-⟩:=en.rd.shape
          have tA:(s.take k++[e.2]++s.drop k).length<=rc:=by
           rcases en.shape with⟨e1,e2⟩|⟨gg,cc,e1,e2⟩
           ·omega
           ·cases e1;exact e2
          have p8:=(ez.ext ao).set ck (f:=e.1) (l:=s.take k++[e.2]++s.drop k) (a:=ra) (c:=rc) (λvs' h'=>by rw[Q7.uniq h' jT];exact bG) ω tA en.rd (λj hj=>by have:=gP j hj;omega);have p9:=az.insert hs (x:=e.2) (k:=k) ω hk iD (vK CB);exact(ih (i+1,g.set e.1 (s.take k++[e.2]++s.drop k)) _ ⟨ω,by rw[List.length_set];exact gd,p9,p8,(ce.trans ao).It ck (λj e=>by omega)⟩ ω).qb
         ·refine Ru (i:=16) O O O (Zh (cs:=[_]) (zs:=[Value.int .u32 0]) QE Ql O (by kernel_rfl) O O O ψ) ?_;rintro v16 w16 ⟨b16,rfl,⟨B1,bB,lM⟩,cB⟩;refine⟨ao.trans bB,?_⟩;have B2:w4.heap.size<=b16:=by omega
          have ao:=ao.trans bB
          try have g8:=g8.ext bB
          try have cw:=cw.ext bB
          have lb16:=lM.lt;have bJ:=Nat.le_trans bJ bB.size;refine Sc (i:=10) (by kernel_rfl)$ Ru (i:=10) O O O (pap QE Ql O ψ O O g8 ((Wp (i:=k) nt hk).ext ao) (λc hc=>j5 s c (List.mem_of_mem_take hc)) ω ω) ?_;rintro v10 w10 ⟨cw,aB,cy,-⟩;refine⟨ao.It aB (λj e=>by have e:b6=j:=SH e;omega),?_⟩;have ao:=ao.It aB (λj e=>by have e:b6=j:=SH e;omega)
          try have cB:=cB.kp aB (λj hj e=>by have e:b6=j:=SH e;have hj:b16=j:=SH hj;omega)
          have cy:∀j,v10.ownBlock=some j->w4.heap.size<=j:=λj hj=>by rcases cy j hj with e|e;(have e:b6=j:=SH e;omega);omega
          have bJ:=Nat.le_trans bJ aB.size;have B0:=λ(j:Nat) (hj:v10.ownBlock=some j)=>cw.lt hj;refine Sc (i:=17) (by kernel_rfl)$ Ru (i:=17) O O O (pap QE Ql O ψ O O cw cB.rd (λc hc=>j5 [e.2] c hc) ω ω) ?_;rintro v17 w17 ⟨iO,cR,ek,-⟩;refine⟨ao.It cR (λj e=>cy j e),?_⟩;have ao:=ao.It cR (λj e=>cy j e);have ek:∀j,v17.ownBlock=some j->w4.heap.size<=j:=λj hj=>by rcases ek j hj with e|e;exact cy j e;omega
          have bJ:=Nat.le_trans bJ cR.size;refine Sc (i:=21) (by kernel_rfl)$ Ru (i:=21) O O O (pap QE Ql O ψ O O iO ((UX (i:=k) nt hk pT).ext ao) (λc hc=>j5 s c (List.mem_of_mem_drop hc)) ω ω) ?_;rintro v21 w21 ⟨en,jS,gP,-⟩;refine⟨ao.It jS (λj e=>ek j e),?_⟩;have ao:=ao.It jS (λj e=>ek j e);have gP:∀j,v21.ownBlock=some j->w4.heap.size<=j:=λj hj=>by rcases gP j hj with e|e;exact ek j e;omega
          refine Qs 22 O (Rh U23 Vz O O ω) ao ?_;have jT:=ao.PN rR;refine Ut [23]$ qO 23$ QO (i:=23) O O (RV Vz O O (Yr en) jT (by rw[rx];omega)) ?_;rintro w23 ⟨bG,ck⟩;refine⟨trivial,?_⟩;refine qE$ PM$ St O$ R7 O$ Qc O ?_;rw[show 0+k+1+(s.length-k)=(s.take k++[e.2]++s.drop k).length by rw[oZ];omega,show([]++List.take k (s.map QJ)++[QJ e.2]++List.drop k (s.map QJ))=(s.take k++[e.2]++s.drop k).map QJ by simp[List.map_take,List.map_drop]] at en;obtain⟨ra,rc,rfl,-⟩:=en.rd.shape
          have tA:(s.take k++[e.2]++s.drop k).length<=rc:=by
           rcases en.shape with⟨e1,e2⟩|⟨gg,cc,e1,e2⟩
           ·omega
           ·cases e1;exact e2
          have p8:=(ez.ext ao).set ck (f:=e.1) (l:=s.take k++[e.2]++s.drop k) (a:=ra) (c:=rc) (λvs' h'=>by rw[Q7.uniq h' jT];exact bG) ω tA en.rd (λj hj=>by have:=gP j hj;omega);have p9:=az.insert hs (x:=e.2) (k:=k) ω hk iD (vK CB);exact(ih (i+1,g.set e.1 (s.take k++[e.2]++s.drop k)) _ ⟨ω,by rw[List.length_set];exact gd,p9,p8,(ce.trans ao).It ck (λj e=>by omega)⟩ ω).qb
        ·refine Ru (i:=16) O O O (Zh (cs:=[_]) (zs:=[Value.int .u32 0]) QE Ql O (by kernel_rfl) O O O ψ) ?_;rintro v16 w16 ⟨b16,rfl,⟨B1,bB,lM⟩,cB⟩;refine⟨ao.trans bB,?_⟩;have B2:w4.heap.size<=b16:=by omega
         have ao:=ao.trans bB
         try have g8:=g8.ext bB
         try have cw:=cw.ext bB
         have lb16:=lM.lt;have bJ:=Nat.le_trans bJ bB.size;refine Sc (i:=6) (by kernel_rfl)$ Ru (i:=6) O O O (Zh (cs:=[]) (zs:=[]) QE Ql O (by kernel_rfl) O O O ψ) ?_;rintro v6 w6 ⟨b6,rfl,⟨nV,aS,aY⟩,g8⟩;refine⟨ao.trans aS,?_⟩;have GL:w4.heap.size<=b6:=by omega
         have lb6:=aY.lt;have ao:=ao.trans aS
         try have cB:=cB.ext aS
         have bJ:=Nat.le_trans bJ aS.size;refine Sc (i:=10) (by kernel_rfl)$ Ru (i:=10) O O O (pap QE Ql O ψ O O g8 ((Wp (i:=k) nt hk).ext ao) (λc hc=>j5 s c (List.mem_of_mem_take hc)) ω ω) ?_;rintro v10 w10 ⟨cw,aB,cy,-⟩;refine⟨ao.It aB (λj e=>by have e:b6=j:=SH e;omega),?_⟩;have ao:=ao.It aB (λj e=>by have e:b6=j:=SH e;omega)
         try have cB:=cB.kp aB (λj hj e=>by have e:b6=j:=SH e;have hj:b16=j:=SH hj;omega)
         have cy:∀j,v10.ownBlock=some j->w4.heap.size<=j:=λj hj=>by rcases cy j hj with e|e;(have e:b6=j:=SH e;omega);omega
         have bJ:=Nat.le_trans bJ aB.size;have B0:=λ(j:Nat) (hj:v10.ownBlock=some j)=>cw.lt hj;refine Sc (i:=17) (by kernel_rfl)$ Ru (i:=17) O O O (pap QE Ql O ψ O O cw cB.rd (λc hc=>j5 [e.2] c hc) ω ω) ?_;rintro v17 w17 ⟨iO,cR,ek,-⟩;refine⟨ao.It cR (λj e=>cy j e),?_⟩;have ao:=ao.It cR (λj e=>cy j e);have ek:∀j,v17.ownBlock=some j->w4.heap.size<=j:=λj hj=>by rcases ek j hj with e|e;exact cy j e;omega
         have bJ:=Nat.le_trans bJ cR.size;refine Sc (i:=21) (by kernel_rfl)$ Ru (i:=21) O O O (pap QE Ql O ψ O O iO ((UX (i:=k) nt hk pT).ext ao) (λc hc=>j5 s c (List.mem_of_mem_drop hc)) ω ω) ?_;rintro v21 w21 ⟨en,jS,gP,-⟩;refine⟨ao.It jS (λj e=>ek j e),?_⟩;have ao:=ao.It jS (λj e=>ek j e);have gP:∀j,v21.ownBlock=some j->w4.heap.size<=j:=λj hj=>by rcases gP j hj with e|e;exact ek j e;omega
         refine Qs 22 O (Rh U23 Vz O O ω) ao ?_;have jT:=ao.PN rR;refine Ut [23]$ qO 23$ QO (i:=23) O O (RV Vz O O (Yr en) jT (by rw[rx];omega)) ?_;rintro w23 ⟨bG,ck⟩;refine⟨trivial,?_⟩;refine qE$ PM$ St O$ R7 O$ Qc O ?_;rw[show 0+k+1+(s.length-k)=(s.take k++[e.2]++s.drop k).length by rw[oZ];omega,show([]++List.take k (s.map QJ)++[QJ e.2]++List.drop k (s.map QJ))=(s.take k++[e.2]++s.drop k).map QJ by simp[List.map_take,List.map_drop]] at en;obtain⟨ra,rc,rfl,-⟩:=en.rd.shape
         have tA:(s.take k++[e.2]++s.drop k).length<=rc:=by
          rcases en.shape with⟨e1,e2⟩|⟨gg,cc,e1,e2⟩
          ·omega
          ·cases e1;exact e2
         have p8:=(ez.ext ao).set ck (f:=e.1) (l:=s.take k++[e.2]++s.drop k) (a:=ra) (c:=rc) (λvs' h'=>by rw[Q7.uniq h' jT];exact bG) ω tA en.rd (λj hj=>by have:=gP j hj;omega);have p9:=az.insert hs (x:=e.2) (k:=k) ω hk iD (vK CB);exact(ih (i+1,g.set e.1 (s.take k++[e.2]++s.drop k)) _ ⟨ω,by rw[List.length_set];exact gd,p9,p8,(ce.trans ao).It ck (λj e=>by omega)⟩ ω).qb
       ·refine PR$ PM$ St O$ R7 O$ Qc O ?_;exact(ih (i+1,g) _ ⟨ω,gd,az,ez,ce⟩ ω).qb
      case j3=>
       refine S5 (λw'=>Ext w3 w') O$ Qi 0 O O (ag)$ Qi 1 O O (ag)$ PT 2 O (TP QE O) ag ?_;by_cases md:k=s.length
       ·refine PT 3 O (yeq O O) ag$ Vd$ Qi 4 O O (ag)$ qJ 5 O (ag)$ qJ 6 O (ag)$ qJ 7 O (ag)$ qJ 8 O (ag)$ qJ 9 O (ag)$ qJ 10 O (ag)$ qJ 11 O (ag)$ qJ 12 O (ag)$ qJ 13 O (ag)$ qJ 14 O (ag)$ PT 15 O (W2 O O) ag ?_;refine qE ?_;exact(db _ _ ⟨true,rfl,λ_ y hy=>(by rw[md,List.drop_length] at hy;cases hy),ah.trans ag⟩).qb
       ·obtain⟨y,hy⟩:∃y,s[k]? =some y:=⟨_,List.getElem?_eq_getElem ω⟩;rcases vW.2 with⟨⟨ca,cc⟩,ju,xy⟩|⟨lb,lo,cap,ju,fk⟩
        ·omega
        cases ju;have GM:w3.cell? ⟨lb,lo+k*1,none⟩=some (QJ y):=fk (k*1) _ (by rw[Nat.mul_one,List.getElem?_map,hy];rfl);refine PT 3 O (yeq O O) ag$ UQ$ Qi 4 O O (ag)$ Qi 5 O O (ag)$ Qi 6 O O (ag)$ PT 7 O (Rh QE Ql O O ω) ag$ Qi 9 O O (ag)$ Qi 10 O O (ag)$ PT 11 O (Rh U22 z5V O O ω) ag$ PT 12 O (Qz z2g O) ag$ qT 8 O (λ_ h=>QF RQ O O (Rw h GM)) ag$ qT 13 O (λ_ h=>QF RQ O O (Rw h vX)) ag ?_;have JN:=de y hy;by_cases IB:y=e.2
        ·refine PT 14 O (yne O O) ag$ UQ$ PT 15 O (Vt O O) ag$ qE ?_;exact(db _ _ ⟨false,rfl,λe=>(by cases e),ah.trans ag⟩).qb
        ·refine PT 14 O (yne O O) ag$ Vd$ PT 15 O (Vt O O) ag$ qE ?_;exact(db _ _ ⟨true,rfl,λ_ z hz=>(by have:=Ns k y hy z hz;omega),ah.trans ag⟩).qb
     case GN=>
      refine SK (α:=Nat) (0) (λk=>[(0,I (n:Int)),(1,.slice (some ⟨eb,eo,none⟩) es.length ec),(5,.slice (some ⟨bg,0,none⟩) n n),(6,I (i:Int)),(7,.slice a s.length c),(8,I (k:Int))]) (λk w'=>k<=s.length/\(∀y∈s.take k,y<e.2)/\Ext w2 w') (λk=>s.length-k) ?hI ?hround
      case hI=>exact⟨Nat.zero_le _,λy hy=>(by simp at hy),Ext.refl _⟩
      case hround=>
       rintro k w3 ⟨hk,iD,ah⟩ ih2;have ag:=Ext.Qh w3;have vW:=eI.ext ah;have vX:=Rw ah g7
       try dsimp only
       refine An$ An$ S5 (λw'=>Ext w3 w') O$ Qi 0 O O (ag)$ Qi 1 O O (ag)$ PT 2 O (TP QE O) ag ?_;by_cases ko:k<s.length
       ·obtain⟨y,hy⟩:∃y,s[k]? =some y:=⟨_,List.getElem?_eq_getElem ko⟩;rcases vW.2 with⟨⟨ca,cc⟩,ju,xy⟩|⟨lb,lo,cap,ju,fk⟩
        ·omega
        cases ju;have GM:w3.cell? ⟨lb,lo+k*1,none⟩=some (QJ y):=fk (k*1) _ (by rw[Nat.mul_one,List.getElem?_map,hy];rfl);refine PT 3 O (ylt O O) ag$ Vd$ Qi 4 O O (ag)$ Qi 5 O O (ag)$ Qi 6 O O (ag)$ PT 7 O (Rh QE Ql O O ω) ag$ Qi 9 O O (ag)$ Qi 10 O O (ag)$ PT 11 O (Rh U22 z5V O O ω) ag$ PT 12 O (Qz z2g O) ag$ qT 8 O (λ_ h=>QF RQ O O (Rw h GM)) ag$ qT 13 O (λ_ h=>QF RQ O O (Rw h vX)) ag ?_;by_cases JN:y<e.2
        ·refine PT 14 O (ylt O O) ag$ Vd$ PT 15 O (W2 O O) ag$ qE$ Qa O$ PR$ PS$ St O$ R7 O$ Qc O$ PM ((ih2 (k+1) _ ⟨ω,λz hz=>?_,ah.trans ag⟩ ω).qb);rw[QR hy] at hz;rcases List.mem_append.1 hz with e'|e'
         ·exact iD z e'
         ·rw[List.mem_singleton.1 e'];exact JN
        ·refine PT 14 O (ylt O O) ag$ UQ$ PT 15 O (W2 O O) ag$ qE$ PZ O$ Q5 O ?_;exact(kN _ _ ⟨k,rfl,hk,iD,λz hz=>(by rw[hy] at hz;cases hz;omega),ah.trans ag⟩).qb
       ·refine PT 3 O (ylt O O) ag$ UQ$ Qi 4 O O (ag)$ qJ 5 O (ag)$ qJ 6 O (ag)$ qJ 7 O (ag)$ qJ 8 O (ag)$ qJ 9 O (ag)$ qJ 10 O (ag)$ qJ 11 O (ag)$ qJ 12 O (ag)$ qJ 13 O (ag)$ qJ 14 O (ag)$ PT 15 O (Vt O O) ag ?_;refine qE$ PZ O$ Q5 O ?_;exact(kN _ _ ⟨k,rfl,hk,iD,λz hz=>(by rw[List.getElem?_eq_none ω] at hz;cases hz),ah.trans ag⟩).qb
    ·refine UZ O$ QW$ Qp O$ Q4 O$ qV (Rh U22 z5V O O ω)$ Qd z2g O$ qV (QF RQ O O g7)$ qV (QU O RQ U3 ω)$ Q4 O$ UZ O$ SM$ QY O$ PQ$ Qa O ?_;refine Q5 O$ St O$ R7 O$ Qc O ?_;exact(ih (i+1,g) _ ⟨ω,gd,az,dc,ae⟩ ω).qb
   ·refine UZ O$ SM$ Q4 O$ S6$ S6$ S6$ S6$ Sa O$ PQ$ Qa O$ Q5 O$ St O$ R7 O$ Qc O ?_;exact(ih (i+1,g) _ ⟨ω,gd,az,dc,ae⟩ ω).qb
  ·refine Q5 O$ Qx O$ Qc O$ PO func6 O ?_;exact⟨_,rfl,g,bg,by rw[gd];rfl,gd,az,dc,ae⟩
end Go.Proofs.YtffbidffdbpcoaaGreatDoor
