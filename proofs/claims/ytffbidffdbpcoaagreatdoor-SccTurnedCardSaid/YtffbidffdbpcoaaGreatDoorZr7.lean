/- Merged by program. -/
import Derived.Test.YtffbidffdbpcoaaGreatDoorZr6
import Derived.Shelf.Strings.Repeat
import Derived.Test.YtffbidffdbpcoaaGreatDoorProg
import Derived.Room.AppendFits
import Derived.Lib.UnsafeStr
set_option linter.all false
set_option maxRecDepth 1000000
set_option maxHeartbeats 16000000
namespace Go.Proofs.YtffbidffdbpcoaaGreatDoor
open Go Go.RowKit Go.Proofs.Tryz
def Sp (Q:Rg)(txt:Int->OO)(K:Nat)(X:Nat->Prop)(w:World):Prop:=∃P,Uj w P/\VY P txt K/\Q.Same P/\∀b,P.fp b->¬X b
section
variable {w w':World}{Q Q' P P':Rg}{X Y S':Nat->Prop}{txt txt':Int->OO}{K K':Nat}
theorem Sp.step (h:Sp Q txt K X w)(hk:Kp S' w w')(hS:∀b,S' b->X b)(hY:∀b,Y b->X b\/w.heap.size<=b):Sp Q txt K Y w':=by
 obtain⟨P,hm,hI,hs,hf⟩:=h
 refine⟨P,hm.kp hk λb hb e=>hf b hb (hS b e),hI,hs,λb hb e=>?_⟩
 rcases hY b e with e| e
 ·exact hf b hb e
 ·have:=hm.lt hb;omega
theorem Sp.ext (h:Sp Q txt K X w)(hx:Ext w w')(hY:∀b,Y b->X b\/w.heap.size<=b):Sp Q txt K Y w':=h.step (S':=λ_=>False) hx (λ_ e=>e.elim) hY
def Sp.ext' (h:Sp Q txt K X w)(hx:Ext w w'):Sp Q txt K X w':=h.ext hx λ_ e=> .inl e
def Sp.own (h:Sp Q txt K X w)(hk:Kp S' w w')(hS:∀b,S' b->X b):Sp Q txt K X w':=h.step hk hS λ_ e=> .inl e
def Sp.of (hf:∀b,P.fp b->¬X b)(hX:∀b,X b->b<w.heap.size)(hr:Up w P w' P')(hI:VY P' txt' K')(hs:Q'.Same P'):Sp Q' txt' K' X w'/\Kp (λb=>¬X b) w w':=
 ⟨⟨P',hr.m,hI,hs,λb hb e=>by
  rcases hr.fp b hb with h| h
  ·exact hf b h e
  ·have:=hX b e;omega⟩,hr.k.ON hf⟩
def VY.more (h:VY P txt K)(hK:K<=K'):VY P txt K':=by
 obtain⟨a1,a2,a3,a4,a5,a6,a7,a8,a9,b1,b2,b3,b4,b5,b6,b7⟩:=h
 exact⟨a1,a2,a3,a4,a5,a6,a7,a8,a9,b1,b2,b3,b4,ω,ω,b7⟩
theorem Sp.more (h:Sp Q txt K X w)(hK:K<=K'):Sp Q txt K' X w:=by
 obtain⟨P,hm,hI,hs,hf⟩:=h
 exact⟨P,hm,hI.more hK,hs,hf⟩
theorem Sp.less (h:Sp Q txt K X w)(hY:∀b,Y b->X b):Sp Q txt K Y w:=by
 obtain⟨P,hm,hI,hs,hf⟩:=h
 exact⟨P,hm,hI,hs,λb hb e=>hf b hb (hY b e)⟩
theorem Sp.size (h:Sp Q txt K X w):Ps prog 49 [ptr Q.s 0] w λv w'=>v=I 512/\w'=w:=by
 obtain⟨P,hm,hI,hs,-⟩:=h
 rw[<-hs.s]
 exact z1l hm hI.N
theorem Sp.dev (h:Sp Q txt K X w):Ps prog 124 [ptr Q.s 0] w λv w'=>v=ptr Q.d 0/\w'=w:=by
 obtain⟨P,hm,hI,hs,-⟩:=h
 rw[<-hs.s,<-hs.d]
 exact z8X hm
theorem Sp.blocks (h:Sp Q txt K X w):Ps prog 125 [ptr Q.d 0] w λv w'=>v=I (Q.L.length:Int)/\w'=w:=by
 obtain⟨P,hm,hI,hs,-⟩:=h
 have hb:=Wq hm.dev
 rw[hI.B] at hb
 rw[<-hs.d,<-hs.L]
 exact hb
theorem Sp.map (h:Sp Q txt K X w):Ps prog 27 [ptr Q.s 0] w λv w'=>v=ptr Q.m 0/\w'=w:=by
 obtain⟨P,hm,hI,hs,-⟩:=h
 rw[<-hs.s,<-hs.m]
 exact z9z hm
theorem Sp.room (h:Sp Q txt K X w){a:Nat}(hp:Pre Q.L a)(ha:a<Q.L.length):Ps prog 25 [ptr Q.m 0] w λv w'=>v=I ((Q.L.length-a:Nat):Int)/\Ext w w':=by
 obtain⟨P,hm,hI,hs,-⟩:=h
 rw[<-hs.m]
 rw[<-hs.L] at hp ha⊢
 exact z6u hm.ext hp ha
theorem Sp.z0M (h:Sp Q txt K X w){x:Int}(h0:0<=x)(h1:x<(Q.L.length:Int)):(txt x).length=512:=by
 obtain⟨P,hm,hI,hs,-⟩:=h
 exact hI.len x h0 (by rw[hs.L];exact h1)
theorem Sp.n (h:Sp Q txt K X w):Q.L.length<=4096:=by
 obtain⟨P,hm,hI,hs,-⟩:=h
 rw[<-hs.L]
 exact hm.ext.n
theorem Sp.read (h:Sp Q txt K X w)(hX:∀b,X b->b<w.heap.size)(hK:K<1000000000000){no:Int}(h0:0<=no)(h1:no<(Q.L.length:Int)):Ps prog 68 [ptr Q.s 0,I no] w λv w'=>v= .tuple #[S (txt no),I 0]/\Sp Q txt K X w'/\Kp (λb=>¬X b) w w':=by
 obtain⟨P,hm,hI,hs,hf⟩:=h
 rw[<-hs.s]
 refine(z7e hm hI hK h0 (by rw[hs.L];exact h1)).mono λv w' ⟨hv,P',hr,A8,qZ⟩=>⟨hv,Sp.of hf hX hr A8 (hs.trans qZ)⟩
theorem Sp.write (h:Sp Q txt K X w)(hX:∀b,X b->b<w.heap.size)(hK:K<1000000000000){no:Int}(h0:0<=no)(h1:no<(Q.L.length:Int))(t:OO)(ht:t.length=512):Ps prog 82 [ptr Q.s 0,I no,S t] w λv w'=>v=I 0/\Sp Q (ZB txt no (some t)) (K+1) X w'/\Kp (λb=>¬X b) w w':=by
 obtain⟨P,hm,hI,hs,hf⟩:=h
 rw[<-hs.s]
 refine(z9n hm hI hK h0 (by rw[hs.L];exact h1) t ht).mono λv w' ⟨hv,P',hr,A8,qZ⟩=>⟨hv,Sp.of hf hX hr A8 (hs.trans qZ)⟩
def Rg.Qp (Q:Rg)(L:List Bool):Rg:={Q with L:=L}
theorem Rg.Same.Qp (h:Q.Same P)(L:List Bool):(Q.Qp L).Same {P with L:=L}:=⟨h.s,h.d,h.m,h.gi,h.c,h.pm,h.p,h.fr,rfl⟩
theorem Sp.take (h:Sp Q txt K X w)(hX:∀b,X b->b<w.heap.size){a n:Nat}(hp:Pre Q.L a)(df:1<=n)(pN:a+n<=Q.L.length):Ps prog 50 [ptr Q.s 0,I (n:Int)] w λv w'=>v= .tuple #[.agg #[I (a:Int),I (n:Int)],I 0]/\Sp (Q.Qp (Qj Q.L a n true)) txt K X w'/\Kp (λb=>¬X b) w w':=by
 obtain⟨P,hm,hI,hs,hf⟩:=h
 rw[<-hs.s]
 rw[<-hs.L] at hp pN
 refine(z6E hm hp df pN).mono λv w' ⟨hv,hr⟩=>⟨hv,?_⟩
 rw[<-hs.L]
 exact Sp.of hf hX hr (hI.Qp (by rw[Qa pN])) (hs.Qp _)
theorem Sp.zkI (h:Sp Q txt K X w)(hX:∀b,X b->b<w.heap.size){s n:Nat}(df:1<=n)(dt:2<=s)(j7:s+n<=Q.L.length)(hc:∀i,s<=i->i<s+n->Q.L[i]? =some true):Ps prog 58 [ptr Q.s 0,.agg #[I (s:Int),I (n:Int)]] w λv w'=>v=I 0/\∃txt',Sp (Q.Qp (Qj Q.L s n false)) txt' K X w'/\(∀x:Int,x<(s:Int)\/(s:Int)+(n:Int)<=x->txt' x=txt x)/\Kp (λb=>¬X b) w w':=by
 obtain⟨P,hm,hI,hs,hf⟩:=h
 rw[<-hs.s]
 rw[<-hs.L] at j7 hc
 refine(z5y hm hI df dt j7 hc).mono λv w' ⟨hv,P',txt',hr,A8,ja,qZ⟩=>⟨hv,txt',?_⟩
 obtain⟨h1,h2⟩:=Sp.of hf hX hr A8 ((hs.trans qZ).Qp _)
 rw[<-hs.L]
 exact⟨h1,ja,h2⟩
end
open Go.Proofs Go.Shelf
def z4W:Go.Shelf.Ren:=⟨fun|105=>61|212=>93|99=>94|165=>95|166=>69|170=>96|169=>70|263=>135|264=>136|206=>137|240=>110|241=>138|276=>146|277=>169|n=>n,fun|9=>9|3=>3|4=>4|20=>20|0=>0|46=>157|109=>191|5=>5|72=>160|76=>164|51=>59|146=>236|53=>39|148=>238|70=>158|37=>93|75=>163|127=>206|164=>249|80=>166|n=>n,fun|n=>n⟩
def zfv:Go.Proofs.Lays.n105 prog z4W:={
 mixed:=by kernel_rfl
 f99:=func94.trans (congrArg some (by kernel_rfl))
 f105:=func61.trans (congrArg some (by kernel_rfl))
 f165:=func95.trans (congrArg some (by kernel_rfl))
 f166:=func69.trans (congrArg some (by kernel_rfl))
 f169:=func70.trans (congrArg some (by kernel_rfl))
 f170:=func96.trans (congrArg some (by kernel_rfl))
 f206:=func137.trans (congrArg some (by kernel_rfl))
 f212:=func93.trans (congrArg some (by kernel_rfl))
 f240:=func110.trans (congrArg some (by kernel_rfl))
 f241:=func138.trans (congrArg some (by kernel_rfl))
 f263:=func135.trans (congrArg some (by kernel_rfl))
 f264:=func136.trans (congrArg some (by kernel_rfl))
 f276:=func146.trans (congrArg some (by kernel_rfl))
 f277:=func169.trans (congrArg some (by kernel_rfl))
 t0:=underlying0
 a0:=isAgg0
 z0:=sizeOf0
 v0:=zeroValue0
 t3:=underlying3
 a3:=isAgg3
 z3:=sizeOf3
 v3:=zeroValue3
 t4:=underlying4
 a4:=isAgg4
 z4:=sizeOf4
 v4:=zeroValue4
 t5:=underlying5
 a5:=isAgg5
 z5:=sizeOf5
 v5:=zeroValue5
 t9:=underlying9
 a9:=isAgg9
 z9:=sizeOf9
 v9:=zeroValue9
 t20:=underlying20
 a20:=isAgg20
 z20:=sizeOf20
 v20:=zeroValue20
 t37:=underlying93
 a37:=isAgg93
 z37:=sizeOf93
 v37:=zeroValue93
 t46:=underlying157
 a46:=isAgg157
 z46:=sizeOf157
 v46:=zeroValue157
 t51:=underlying59
 a51:=isAgg59
 z51:=sizeOf59
 v51:=zeroValue59
 t53:=underlying39
 a53:=isAgg39
 z53:=sizeOf39
 v53:=zeroValue39
 t70:=underlying158
 a70:=isAgg158
 z70:=sizeOf158
 v70:=zeroValue158
 t72:=underlying160
 a72:=isAgg160
 z72:=sizeOf160
 v72:=zeroValue160
 t75:=underlying163
 a75:=isAgg163
 z75:=sizeOf163
 v75:=zeroValue163
 t76:=underlying164
 a76:=isAgg164
 z76:=sizeOf164
 v76:=zeroValue164
 t109:=underlying191
 a109:=isAgg191
 z109:=sizeOf191
 v109:=zeroValue191
 t127:=underlying206
 a127:=isAgg206
 z127:=sizeOf206
 v127:=zeroValue206
 t146:=underlying236
 a146:=isAgg236
 z146:=sizeOf236
 v146:=zeroValue236
 t148:=underlying238
 a148:=isAgg238
 z148:=sizeOf238
 v148:=zeroValue238
 t164:=underlying249
 a164:=isAgg249
 z164:=sizeOf249
 v164:=zeroValue249}
/-! ### A builder of strings -/
def zf2:Builder.Extra prog z4W where
 sizeBuilder:=by kernel_rfl
 liesBuilder:=by kernel_rfl
 t5:=by kernel_rfl
 a5:=λ_=>by kernel_rfl
 z5:=λ_=>by kernel_rfl
 v5:=λw=>TI.zero (w:=w) Y9
 infoByte:=by kernel_rfl
 cellsByte:=by kernel_rfl
 sizeByte:=by kernel_rfl
 neB5:=by decide
section
end
theorem z7Q (l:OO):∀n,Lib.repeatL l n=(List.replicate n l).flatten
 |0=>rfl
 |n+1=>by rw[Lib.repeatL,z7Q l n];rfl
def ZC (l:OO)(n:Nat)(hl:l.length<=100)(hn:n<=1000000)(w:World):Ps prog 61 [S l,I (n:Int)] w λv w'=>v=S (List.replicate n l).flatten/\Ext w w':=by
 have h2:n*l.length<=1000000*100:=Nat.mul_le_mul hn hl
 have:=Any.strings_Repeat zfv zf2 ⟨l.toArray⟩ n w ω (by rw[T6,Nat.mul_comm];omega)
 refine Calls.mono this λ_ _ ⟨he,hw⟩=>⟨_,he,?_,Ext.zaD hw⟩
 show Value.string ⟨(Lib.repeatL l n).toArray⟩=_
 rw[z7Q]
def Vl (w n:Nat):OO:=(List.range w).map λk=>UInt8.ofNat (n / 2^(8*(w-1-k)))
theorem Qi (w n:Nat):(Vl w n).length=w:=by simp[Vl]
theorem zbd (w n:Nat):Vl (w+1) n=UInt8.ofNat (n / 2^(8*w))::Vl w n:=by
 unfold Vl
 rw[List.range_succ_eq_map,List.map_cons,List.map_map]
 congr 1
 refine List.map_congr_left λk hk=>?_
 show UInt8.ofNat (n / 2^(8*(w+1-1-(k+1))))=_
 rw[show w+1-1-(k+1)=w-1-k by omega]
theorem Z4:∀(w n:Nat),Pf (Vl w n)=Pn (8*w) n
 |0,n=>rfl
 | w + 1, n => by
   rw[zbd,TE,Z4 w n,show 8*(w+1)=8+8*w by omega,S4]
   congr 1
   refine Wl ?_;have:(UInt8.ofNat (n / 2^(8*w))).toNat=n / 2^(8*w)%256:=by simp
   rw[this];omega
def z3E {w n:Nat}(h:n<2^(8*w)):PF (Pf (Vl w n))=n:=by
 rw[Z4,Q5,Nat.mod_eq_of_lt h]
def zcz (s:OO):Vl s.length (PF (Pf s))=s:=by
 have h1:Pf (Vl s.length (PF (Pf s)))=Pf s:=by
  rw[Z4];have:=z0X (Pf s);rw[bitsT_length] at this;exact this
 have inj:∀a b:OO,a.length=b.length->Pf a=Pf b->a=b:=λa=>by
  induction a with
  | nil => intro b hb _; cases b with
    |nil=>rfl
    |cons=>cases hb
  | cons c a ih =>
    intro b hb he
    cases b with
    |nil=>cases hb
    | cons d b =>
      rw[TE,TE] at he;obtain⟨e1,e2⟩:=List.append_inj he (by rw[bitsN_length,bitsN_length]);rw[ih b (by simpa using hb) e2]
      congr 1
      have:=congrArg PF e1;rw[Q5,Q5] at this;have h3:=c.toNat_lt;have h4:=d.toNat_lt;exact UInt8.toNat_inj.1 ω
 exact inj _ _ (Qi _ _) h1
def Laid (txt:Int->OO)(a:Nat)(T:OO):Prop:=∀k,512*k<T.length->(txt ((a+k:Nat):Int)).take (T.length-512*k)=(T.drop (512*k)).take 512
section
variable {txt txt':Int->OO}{a n:Nat}{T:OO}
def Laid.piece (h:Laid txt a T){off n:Nat}(h1:off+n<=T.length)(h2:n<=512-off%512):((txt ((a+off / 512:Nat):Int)).drop (off%512)).take n=(T.drop off).take n:=by
 by_cases hn:n=0
 ·subst hn;simp
 have hk:=h (off / 512) ω
 have e:=congrArg (λl=>(l.drop (off%512)).take n) hk
 try dsimp only at e
 rw[List.drop_take,List.take_take,Nat.min_eq_left ω,List.drop_take,List.take_take,List.drop_drop,Nat.min_eq_left ω,show 512*(off / 512)+off%512=off by omega] at e
 exact e
def Laid.TY (h:Laid txt a T)(e:∀k,512*k<T.length->txt' ((a+k:Nat):Int)=txt ((a+k:Nat):Int)):Laid txt' a T:=λk hk=>by rw[e k hk];exact h k hk
def Laid.of (h:∀k,512*k<T.length->(txt ((a+k:Nat):Int)).length=512/\∃r,txt ((a+k:Nat):Int)=(T.drop (512*k)).take 512++r):Laid txt a T:=λk hk=>by
 obtain⟨hl,r,e⟩:=h k hk
 have h1:((T.drop (512*k)).take 512).length=min 512 (T.length-512*k):=by simp
 rw[e,List.length_append,h1] at hl
 rw[e]
 by_cases hc:T.length-512*k<=512
 ·exact List.take_left' (by rw[h1];omega)
 ·have:r=[]:=List.eq_nil_of_length_eq_zero ω;rw[this,List.append_nil,List.take_of_length_le (by rw[h1];omega)]
end
def VcT (txt:Int->OO)(st width each:Nat)(xs:List Nat):Prop:=∀i x,xs[i]? =some x->((txt ((st+i / each:Nat):Int)).drop (i%each*width)).take width=Vl width x/\x<2^(8*width)
theorem z1Z (a b c:OO){k n:Nat}(hn:k+n<=a.length):((a++b++c).drop k).take n=(a.drop k).take n:=by
 rw[List.append_assoc,List.drop_append_of_le_length ω,List.take_append_of_le_length (by rw[List.length_drop];omega)]
section
variable {txt txt':Int->OO}{st width each:Nat}{xs:List Nat}
def VcT.TY (h:VcT txt st width each xs)(e:∀i,i<xs.length->txt' ((st+i / each:Nat):Int)=txt ((st+i / each:Nat):Int)):VcT txt' st width each xs:=λi x hx=>by
 have hi:i<xs.length:=by
  rcases Nat.lt_or_ge i xs.length with h| h
  ·exact h
  ·rw[List.getElem?_eq_none h] at hx;cases hx
 rw[e i hi]
 exact h i x hx
theorem VcT.set (h:VcT txt st width each xs)(he:1<=each){i x:Nat}(hx:x<2^(8*width))(hi:i<xs.length){t:OO}(ht:txt ((st+i / each:Nat):Int)=t)(hl:i%each*width+width<=t.length):VcT (ZB txt ((st+i / each:Nat):Int) (some (t.take (i%each*width)++Vl width x++t.drop (i%each*width+width)))) st width each (xs.set i x):=λj y hy=>by
 by_cases hb:j / each=i / each
 ·rw[hb,Sa];show((t.take (i%each*width)++Vl width x++t.drop (i%each*width+width)).drop (j%each*width)).take width=_/\_;have aS:(t.take (i%each*width)).length=i%each*width:=by rw[List.length_take];omega
  by_cases gL:j=i
  ·subst gL;rw[List.getElem?_set_self hi] at hy;cases hy;refine⟨?_,hx⟩;rw[List.append_assoc,List.drop_left' aS,List.take_left' (Qi _ _)]
  ·rw[List.getElem?_set_ne (λe=>gL e.symm)] at hy;obtain⟨h1,h2⟩:=h j y hy;refine⟨?_,h2⟩;rw[hb,ht] at h1;rw[<-h1];have uh:=Nat.div_add_mod i each;have nF:=Nat.div_add_mod j each;rw[hb] at nF;have bD:j%each≠i%each:=λe=>gL ω;rcases Nat.lt_or_gt_of_ne bD with pV|Of
   ·have hm:(j%each+1)*width<=i%each*width:=Nat.mul_le_mul_right _ ω;rw[Nat.add_mul,Nat.one_mul] at hm;rw[z1Z _ _ _ ω,List.drop_take,List.take_take,Nat.min_eq_left ω]
   ·have hm:(i%each+1)*width<=j%each*width:=Nat.mul_le_mul_right _ ω;rw[Nat.add_mul,Nat.one_mul] at hm;rw[List.drop_append,List.drop_of_length_le (by rw[List.length_append,aS,Qi];omega),List.nil_append,List.length_append,aS,Qi,List.drop_drop,show i%each*width+width+(j%each*width-(i%each*width+width))=j%each*width by omega]
 ·have gL:j≠i:=λe=>hb (by rw[e]);rw[List.getElem?_set_ne (λe=>gL e.symm)] at hy;rw[Rs _ _ ω];exact h j y hy
def z0W {l z:OO}{w:Nat}(hl:l.length=w):∀(e k:Nat),k<e->(((List.replicate e l).flatten++z).drop (k*w)).take w=l
 |0,k,h=>by omega
 | e + 1, 0, h => by
   rw[Nat.zero_mul,List.drop_zero,List.replicate_succ,List.flatten_cons,List.append_assoc]
   exact List.take_left' hl
 | e + 1, k + 1, h => by
   rw[List.replicate_succ,List.flatten_cons,List.append_assoc,List.drop_append,List.drop_of_length_le (by rw[hl,Nat.add_mul];omega),List.nil_append,hl,Nat.add_mul,Nat.one_mul,Nat.add_sub_cancel];exact z0W hl e k ω
theorem VcT.fill {n x:Nat}(hx:x<2^(8*width))(he:1<=each)(h:∀i,i<n->∃z,txt ((st+i / each:Nat):Int)=(List.replicate each (Vl width x)).flatten++z):VcT txt st width each (List.replicate n x):=λi y hy=>by
 rw[List.getElem?_replicate] at hy
 split at hy
 ·rename_i hi
  cases hy;obtain⟨z,e⟩:=h i hi;rw[e];exact⟨z0W (Qi _ _) each _ (Nat.mod_lt _ he),hx⟩
 ·cases hy
end
def z0N (n wd k:Nat):List Value:=(List.range wd).map λi=>if i<k then Tz (UInt8.ofNat (n / 2^(8*(wd-1-i)))) else .int .u8 0
@[simp] theorem beTo_length (n wd k:Nat):(z0N n wd k).length=wd:=by simp[z0N]
theorem z2y (n wd:Nat):z0N n wd 0=List.replicate wd (.int .u8 0):=by
 apply List.ext_getElem<;>simp[z0N]
theorem z3V (n wd:Nat):z0N n wd wd=(Vl wd n).map Tz:=by
 simp only[z0N,Vl,List.map_map]
 apply List.map_congr_left
 intro i hi
 rw[if_pos (by simpa using hi)];rfl
theorem z5j (n wd k:Nat)(h:k<wd):(z0N n wd k).set (0+k*1) (.int .u8 ((n / 2^(8*(wd-1-k))%256:Nat):Int))=z0N n wd (k+1):=by
 apply List.ext_getElem
 ·simp
 ·intro j h1 h2;have hj:j<wd:=by simpa using h2
  simp only[z0N,List.getElem_set,List.getElem_map,List.getElem_range];by_cases Em:j=k
  ·subst Em;simp[Tz]
  ·rw[if_neg ω];by_cases aS:j<k
   ·rw[if_pos aS,if_pos ω]
   ·rw[if_neg aS,if_neg ω]
def ZK (n wd:Nat)(w:World)(hn:n<18446744073709551616)(nq:wd<=8):Ps prog 86 [P7 n,I (wd:Int)] w λv w'=>v=S (Vl wd n)/\Ext w w':=by
 have fA:maxLen=9223372036854775807:=rfl
 refine py (e:=[(0,_),(1,_)]) func86 O ntmps86 O O$ qN O$ R3 O$ OP O O (pmk (c:=wd) (n:=wd) SL Y9 O O O ω ω ω) ?_
 rintro _ w1 ⟨b1,rfl,⟨bK,ad,ai⟩,-⟩
 refine P3 O$ PR O$ RO SL O$ OT O$ OJ$ OL ?_
 rw[<-z2y n wd] at ai
 refine RN (α:=Nat) (0) (λk=>[(0,P7 n),(1,I (wd:Int)),(5,.slice (some ⟨b1,0,none⟩) wd wd),(10,I (wd:Int)),(11,I (k:Int))]) (λk w'=>k<=wd/\OU w' b1 (z0N n wd k) 5/\Ext w w') (λk=>wd-k) ?hI ?hround
 case hI=>exact⟨ω,ai,ad⟩
 case hround=>
  rintro k w2 ⟨hk,ak,ae⟩ ih
  try dsimp only
  refine qN O$ QV O$ OJ$ An$ OX O (λaS=>?_)$ λaS=>?_
  ·have FG:k<wd:=by omega
   refine OK$ QO$ Pt O$ P3 O$ OQ O$ Pl O$ Pl O$ Rt O$ OT O$ Rt O$ qV (Y8 O O ω) ?_;rw[show(8:Int)*(((wd:Int)-1)-(k:Int))=((8*(wd-1-k):Nat):Int) from by omega];refine qV (Us (8*(wd-1-k)) (2^(8*(wd-1-k))) O O (by simp only[IntKind.bits];omega) O) ?_;refine qV (zcR O Rw U5)$ qV (Qc SL Y9 O O ω)$ OY O (QP Y9 O O O ak (by simp;omega)) ?_;rintro w3 ⟨au,av⟩;rw[z5j n wd k FG] at au;refine OJ$ OG$ OQ O$ Q4 O$ OT O$ OJ ?_;exact(ih (k+1) w3 ⟨ω,au,ae.It av (λi hi=>by rw[hi,bK];exact Nat.le_refl _)⟩ ω).qb
  ·have:k=wd:=by omega
   subst this;rw[z3V] at ak;refine OV O$ Pt O$ qV (z9H (l:=Vl k n) SL U5 U9 O ak (by rw[List.drop_zero];exact List.take_of_length_le (by rw[List.length_map,Qi];omega)) (by simp[Vl])) ?_;refine P3 O$ OI func86 O ?_;exact⟨_,rfl,rfl,ae⟩
def z2H (s:OO)(hs:s.length<=8)(w:World):Ps prog 87 [S s] w λv w'=>v=P7 (PF (Pf s))/\Ext w w':=by
 refine py (e:=[(0,_)]) func87 O ntmps87 O O$ QN O$ PR O$ OP O O (zb7 U9 SL U5 O) ?_
 rintro _ w1 ⟨b7,c7,rest,rfl,⟨m7,ad,ai⟩,DR⟩
 refine RO SL O$ OT O$ OJ$ OL$ RN (α:=Nat) (0) (λi=>[(2,P7 (PF (Pf (s.take i)))),(6,.slice (some ⟨b7,0,none⟩) s.length c7),(7,I (s.length:Int)),(8,I (i:Int))]) (λi w'=>w'=w1/\i<=s.length) (λi=>s.length-i) ?hI ?hround
 case hI=>exact⟨rfl,Nat.zero_le _⟩
 case hround=>
  rintro i w2 ⟨rfl,hi⟩ ih
  try dsimp only
  refine qN O$ QV O$ OJ$ An$ OX O (λh0=>?_)$ λh0=>?_
  ·obtain⟨c,hc⟩:∃c,s[i]? =some c:=⟨_,List.getElem?_eq_getElem ω⟩;have fF:=c.toNat_lt;have lM:=z1g hc
   have aS:PF (Pf (s.take i))<72057594037927936:=by
    have h1:=R7 (Pf (s.take i));rw[bitsT_length,List.length_take] at h1;have h2:2^(8*min i s.length)<=2^56:=Nat.pow_le_pow_right ψ ω;omega
   have bj:w2.cell? ⟨b7,0+i*1,none⟩=some (Tz c):=by
    rw[ai.cell,Nat.zero_add,Nat.mul_one,List.getElem?_append_left (by rw[List.length_map];omega),List.getElem?_map,hc];rfl
   refine OK$ QO$ qN O$ qV (Qc SL Y9 O O ω)$ qV (PC U5 O O bj) ?_
   generalize PF (Pf (s.take i))=q at lM aS
   refine P3 O$ Rp O$ qV (Rj 8 256 O O ψ O)$ OT O$ qV ((zbx O U5 Rw ψ))$ qV (z1J O O ω ω) ?_
   have pj:(q*256%18446744073709551616 |||c.toNat)=PF (Pf (s.take (i+1))):=by
    rw[lM,Nat.mod_eq_of_lt ω,Nat.mul_comm q];exact(Nat.two_pow_add_eq_or_of_lt (i:=8) fF q).symm
   rw[pj];refine P3 O$ OG$ OQ O$ Q4 O$ OT O$ OJ ?_;exact(ih (i+1) _ ⟨rfl,ω⟩ ω).qb
  ·have dq:i=s.length:=by omega
   subst dq;rw[List.take_length];refine OV O$ Pt O$ P3 O$ OI func87 O ?_;exact⟨_,rfl,rfl,ad⟩
def vcC (n width each st len s:Nat)(cl:Bool):List Value:=[I (n:Int),I (width:Int),I (each:Int),I (st:Int),I (len:Int),ptr s 0,.bool cl]
def VD (n each:Nat):Nat:=max 1 ((n+each-1) / each)
structure Un (Q:Rg)(txt:Int->OO)(vb width st:Nat)(xs:List Nat)(w:World):Prop where
 OH:OU w vb (vcC xs.length width (512 / width) st (VD xs.length (512 / width)) Q.s false) 143
 wd:width=1\/width=2\/width=4\/width=8
 t:VcT txt st width (512 / width) xs
 n:xs.length<=4194304
 fit:st+VD xs.length (512 / width)<=Q.L.length
def z3b {n each:Nat}(he:1<=each){i:Nat}(hi:i<n):i / each<VD n each:=by
 unfold VD
 have h1:i / each<=(n-1) / each:=Nat.div_le_div_right ω
 have h2:(n+each-1) / each=(n-1) / each+1:=by
  rw[show n+each-1=(n-1)+each by omega,Nat.add_div_right _ ω]
 omega
section
variable {w w':World}{Q Q':Rg}{txt txt':Int->OO}{vb width st:Nat}{xs ys:List Nat}{S':Nat->Prop}
theorem Un.e (h:Un Q txt vb width st xs w):64<=512 / width/\512 / width<=512/\512 / width*width=512/\1<=width/\width<=8:=by
 rcases h.wd with e|e|e|e<;>subst e<;>decide
def Un.kp (h:Un Q txt vb width st xs w)(hk:Kp S' w w')(hn:¬S' vb):Un Q txt vb width st xs w':=⟨hk.OH h.OH hn,h.wd,h.t,h.n,h.fit⟩
theorem Un.ext (h:Un Q txt vb width st xs w)(hx:Ext w w'):Un Q txt vb width st xs w':=h.kp (S':=λ_=>False) hx id
def Un.TY (h:Un Q txt vb width st xs w)(e:∀y:Int,(st:Int)<=y->y<(st:Int)+(VD xs.length (512 / width):Int)->txt' y=txt y):Un Q txt' vb width st xs w:=
 ⟨h.OH,h.wd,h.t.TY λi hi=>by
  have:=z3b (each:=512 / width) (by have:=h.e;omega) hi
  generalize i / (512 / width)=q at this⊢
  exact e _ ω ω,h.n,h.fit⟩
theorem Un.q (h:Un Q txt vb width st xs w)(hs:Q'.s=Q.s)(hl:Q'.L.length=Q.L.length):Un Q' txt vb width st xs w:=⟨by rw[hs];exact h.OH,h.wd,h.t,h.n,by rw[hl];exact h.fit⟩
def Un.lt (h:Un Q txt vb width st xs w):vb<w.heap.size:=h.OH.lt
def Un.at_ (h:Un Q txt vb width st xs w){i:Nat}(hi:i<xs.length):st+i / (512 / width)<Q.L.length/\i%(512 / width)*width+width<=512/\i / (512 / width)<VD xs.length (512 / width):=by
 obtain⟨h1,h2,h3,h4,h5⟩:=h.e
 have h6:=z3b (each:=512 / width) ω hi
 have h7:=h.fit
 have h8:(i%(512 / width)+1)*width<=512 / width*width:=Nat.mul_le_mul_right _ (Nat.mod_lt _ ω)
 rw[Nat.add_mul,Nat.one_mul] at h8
 refine⟨ω,ω,h6⟩
theorem Un.cells (h:Un Q txt vb width st xs w):OU w vb [I (xs.length:Int),I (width:Int),I ((512 / width:Nat):Int),I (st:Int),I (VD xs.length (512 / width):Int),ptr Q.s 0,.bool false] 143:=h.OH
def VcW (Q:Rg)(txt:Int->OO)(K:Nat)(X:Nat->Prop)(vb width st:Nat)(ys:List Nat)(w w':World):Prop:=
 ∃txt',Sp Q txt' K X w'/\Un Q txt' vb width st ys w'/\(∀y:Int,y<(st:Int)\/(st:Int)+(VD ys.length (512 / width):Int)<=y->txt' y=txt y)/\Kp (λb=>¬X b) w w'
end
end Go.Proofs.YtffbidffdbpcoaaGreatDoor
namespace Go.Proofs.YtffbidffdbpcoaaGreatDoor.Sums
def bit (c:Nat):Nat:=if c%2=1 then(c / 2)^^^2197175160 else c / 2
def zdK (c:Nat):Nat:=bit (bit (bit (bit (bit (bit (bit (bit c)))))))
def byte (c:Nat)(b:UInt8):Nat:=zdK (c^^^b.toNat)
def raw (c:Nat)(l:List UInt8):Nat:=l.foldl byte c
def neg (c:Nat):Nat:=4294967295^^^c
def on (c:Nat)(l:List UInt8):Nat:=neg (raw (neg c) l)
def crc (l:List UInt8):Nat:=on 0 l
def be4 (n:Nat):List UInt8:=[UInt8.ofNat (n / 16777216),UInt8.ofNat (n / 65536),UInt8.ofNat (n / 256),UInt8.ofNat n]
@[simp] theorem be4_length (n:Nat):(be4 n).length=4:=rfl
def head (k:UInt8)(p:List UInt8):List UInt8:=k::be4 p.length
def frame (k:UInt8)(p:List UInt8):List UInt8:=head k p++be4 (crc (head k p++p))++p
@[simp] theorem head_length (k:UInt8) (p:List UInt8):(head k p).length=5:=rfl
theorem zaT (c:Nat):(c / 2)^^^(2197175160&&&((4294967296-(c&&&1))%4294967296))=bit c:=by
 have h1:c&&&1=c%2:=Nat.and_two_pow_sub_one_eq_mod c 1
 rw[h1]
 unfold bit
 by_cases h:c%2=1
 ·rw[if_pos h,h]
  congr 1
 ·have h0:c%2=0:=by omega
  rw[if_neg h,h0];simp
def Yu {a b:Nat}(ha:a<4294967296)(hb:b<4294967296):a^^^b<4294967296:=Nat.xor_lt_two_pow (n:=32) ha hb
def VM {c:Nat}(h:c<4294967296):bit c<4294967296:=by
 unfold bit
 split
 ·exact Yu ω ω
 ·omega
def zb8 {c:Nat}(h:c<4294967296):zdK c<4294967296:=VM (VM (VM (VM (VM (VM (VM (VM h)))))))
def z7p {c:Nat}(h:c<4294967296)(b:UInt8):byte c b<4294967296:=zb8 (Yu h (by have:=b.toNat_lt;omega))
def zaK:∀(l:List UInt8) {c:Nat},c<4294967296->raw c l<4294967296
 |[],_,h=>h
 |b::l,_,h=>zaK l (z7p h b)
def z69 {c:Nat}(h:c<4294967296):neg c<4294967296:=Yu ω h
def zeo {c:Nat}(l:List UInt8)(h:c<4294967296):on c l<4294967296:=z69 (zaK l (z69 h))
def zeL (l:List UInt8):crc l<4294967296:=zeo l ω
theorem z6K (c:Nat)(a b:List UInt8):raw c (a++b)=raw (raw c a) b:=List.foldl_append ..
/-! ### The step is linear -/
/-! ### Linear maps, by their table -/
def iter (L:Nat->Nat):Nat->Nat->Nat
 |0,x=>x
 |n+1,x=>iter L n (L x)
/-! ### Frames -/
@[simp] theorem frame_length (k:UInt8) (p:List UInt8):(frame k p).length=9+p.length:=by simp[frame];omega
/-! ### A byte that is turned is told -/
theorem getD_take (s:List UInt8)(n i:Nat)(h:i<n):(s.take n).getD i 0=s.getD i 0:=by simp[List.getD,h]
theorem SR (s:List UInt8)(n i:Nat)(x:UInt8)(h:i≠n):(s.set n x).getD i 0=s.getD i 0:=by
 simp only[List.getD,List.getElem?_set]
 rw[if_neg (λe=>h e.symm)]
def zbL (s:List UInt8)(i:Nat)(d:UInt8):List UInt8:=s.set i (s.getD i 0^^^d)
@[simp] theorem turned_length (s:List UInt8) (i:Nat) (d:UInt8):(zbL s i d).length=s.length:=by simp[zbL]
end Go.Proofs.YtffbidffdbpcoaaGreatDoor.Sums
namespace Go.Proofs.YtffbidffdbpcoaaGreatDoor
open Go Go.RowKit Go.Proofs.Tryz
set_option linter.unusedVariables false
abbrev U (n:Nat):Value:= .int .u32 (n:Int)
def zbb (c:Nat)(b:UInt8)(p:Nat)(T:TypeId)(w:World)(hB:OU w p [U c] T)(hc:c<4294967296):
  Ps prog 127 [Tz b,ptr p 0] w λv w'=>v= .tuple #[]/\OU w' p [U (Sums.byte c b)] T/\Kp (λk=>k=p) w w':=by
 have hb:=b.toNat_lt
 have hx:=Sums.Yu hc (show b.toNat<4294967296 by omega)
 refine py (e:=[(0,_),(1,_)]) func127 O ntmps127 O O$ qN O$ qV (OS QU O O hB O)$ OT O$ qV ((zbx O U5 QU ψ))$ qV (zdL O O ω ω)$ OY O (QP Pc O O O hB ξ) ?_
 rintro w1 ⟨ai,az⟩
 refine qM O$ OT O$ OJ$ OL$ RN (α:=Nat×Nat) ((0,c^^^b.toNat)) (λx=>[(0,Tz b),(1,ptr p 0),(7,I (x.1:Int))]) (λx w'=>x.1<=8/\x.2<4294967296/\Sums.iter Sums.bit (8-x.1) x.2=Sums.byte c b/\OU w' p [U x.2] T/\Kp (λk=>k=p) w w') (λx=>8-x.1) ?hI ?hround
 case hI=>exact⟨ω,hx,rfl,ai,az⟩
 case hround=>
  rintro⟨k,d⟩ w2 ⟨aL,hd,hs,ak,am⟩ ih
  try dsimp only
  refine qN O$ QV O$ OJ$ An$ OX O (λaS=>?_)$ λaS=>?_
  ·have jZ:d&&&1<4294967296:=Nat.lt_of_le_of_lt Nat.and_le_right ω;have uP:(4294967296-(d&&&1))%4294967296<4294967296:=Nat.mod_lt _ ω;have jd:2197175160&&&((4294967296-(d&&&1))%4294967296)<4294967296:=Nat.lt_of_le_of_lt Nat.and_le_left ω;refine OK$ QO$ OQ O$ qV (OS QU O O ak O)$ qV (Us 1 2 O O ψ O)$ qV (OS QU O O ak O)$ qV (zdt O O ω ω)$ qV (zgC O ω)$ qV (zdt O O ω ω)$ qV (zdL O O ω ω)$ OY O (QP Pc O O O ak ξ) ?_;rintro w3 ⟨au,av⟩;refine OJ$ OG$ OQ O$ Q4 O$ OT O$ OJ ?_;simp only[List.set_cons_zero] at au;rw[Sums.zaT] at au;refine(ih (k+1,Sums.bit d) w3 ⟨by dsimp only at*;omega,Sums.VM hd,?_,au,am.trans av⟩ (by dsimp only at*;omega)).qb;have h8:8-k=(8-(k+1))+1:=by dsimp only at*;omega
   dsimp only at hs⊢;rw[h8] at hs;exact hs
  ·refine OV O$ Qh func127 O ?_;have hk:k=8:=by dsimp only at*;omega
   subst hk;refine⟨_,rfl,rfl,?_,am⟩;have:d=Sums.byte c b:=hs;rw[<-this];exact ak
def zf5 {l:List UInt8}{rest:List Value}{k:Nat}(h:k<l.length):(l.map Tz++rest)[0+k*1]? =some (Tz (l.getD k 0)):=by
 rw[Nat.zero_add,Nat.mul_one,List.getElem?_append_left (by simpa using h)]
 simp[h,List.getD]
theorem z2a (c:Nat)(l:List UInt8)(k:Nat)(h:k<l.length):Sums.raw c (l.take (k+1))=Sums.byte (Sums.raw c (l.take k)) (l.getD k 0):=by
 rw[List.take_succ_eq_append_getElem h,Sums.z6K]
 simp[Sums.raw,List.getD,h]
def zbw (c:Nat)(l:List UInt8)(w:World)(hc:c<4294967296)(hl:l.length<=9223372036854775807):
  Ps prog 85 [U c,S l] w λv w'=>v=U (Sums.on c l)/\Ext w w':=by
 refine py (e:=[(0,_),(1,_)]) func85 O ntmps85 O O$ qN O$ OP O O (R6 O O) ?_
 rintro _ w1 ⟨b1,rfl,bK,ad,ai⟩
 refine QW O$ qV (OS QU O O ai O)$ qV (zdz O ω)$ OY O (QP Pc O O O ai ξ) ?_
 rintro w2 ⟨ak,am⟩
 simp only[List.set_cons_zero] at ak
 have ae:Ext w w2:=ad.It am (λi hi=>by rw[hi,bK];exact Nat.le_refl _)
 refine qM O$ qV (ZR (first:=[]) (caps:=[.tmp 2]) O O)$ P3 O$ PR O$ OP O O (zb7 U9 SL U5 O) ?_
 rintro _ w3 ⟨b3,cap,rest,rfl,⟨dI,ah,au⟩,kg⟩
 refine RO SL O$ OT O$ OJ$ OL ?_
 have bD:b3≠b1:=by have:=ak.lt;omega
 refine RN (α:=Nat×Nat) ((0,Sums.neg c)) (λx=>[(2,ptr b1 0),(5,.func (.func 127) #[] #[ptr b1 0]),(12,.slice (some ⟨b3,0,none⟩) l.length cap),(13,I (l.length:Int)),(14,I (x.1:Int))]) (λx w'=>x.1<=l.length/\x.2<4294967296/\x.2=Sums.raw (Sums.neg c) (l.take x.1)/\OU w' b1 [U x.2] 59/\OU w' b3 (l.map Tz++rest) 5/\Ext w w') (λx=>l.length-x.1) ?hI ?hround
 case hI=>exact⟨ξ,Sums.z69 hc,rfl,ah.OH ak,au,ae.trans ah⟩
 case hround=>
  rintro⟨k,d⟩ w4 ⟨hk,hd,hs,aM,aK,aG⟩ ih;dsimp only at hk hd hs aM
  try dsimp only
  refine qN O$ QV O$ OJ$ An$ OX O (λaS=>?_)$ λaS=>?_
  ·have nl:k<l.length:=by omega
   refine OK$ QO$ qN O$ qV (Qc SL Y9 O O ω)$ qV (OS U5 O O aK (zf5 nl))$ P3 O$ OQ O$ Pl O$ Qw O O (RW zhL O O) (zbb d (l.getD k 0) b1 _ w4 aM hd) ?_;rintro _ w5 ⟨rfl,aX,aN⟩;refine OJ$ OG$ OQ O$ Q4 O$ OT O$ OJ ((ih (k+1,Sums.byte d (l.getD k 0)) w5 ⟨nl,Sums.z7p hd _,?_,aX,aN.OH aK bD,aG.It aN (λi hi=>by rw[hi,bK];exact Nat.le_refl _)⟩ (by dsimp only;omega)).qb);rw[z2a _ _ _ nl,<-hs]
  ·refine OV O$ qN O$ qV (OS QU O O aM O)$ qV (zdz O ω)$ P3 O$ OI func85 O (⟨_,rfl,?_,aG⟩);have na:k=l.length:=by omega
   subst na;rw[List.take_length] at hs;show U (Sums.neg d)=_;rw[hs]
   rfl
def z7K (l:List UInt8)(w:World)(hl:l.length<=9223372036854775807):
  Ps prog 79 [S l] w λv w'=>v=U (Sums.crc l)/\Ext w w':=by
 refine py (e:=[(0,_)]) func79 O ntmps79 O O$ qN O$ R3 O$ Pb zim O (zbw 0 l _ ω hl) ?_
 rintro _ w1 ⟨rfl,ad⟩
 refine P3 O$ OI func79 O ?_
 exact⟨_,rfl,rfl,ad⟩
theorem z1f (s:OO):Lib.strCells ⟨s.toArray⟩=s.map Tz:=by simp[Lib.strCells,Tz]
section
variable {P:Program}{e:Env}{d:Option Nat}{ty t tu tn el:TypeId}{pos:String}{aft:Array Edge}{g:Option (Nat×Bool)}{x y:Operand}{w w':World}{n k:Nat}{v:Value}{cs:List Value}{s:OO}{kn:IntKind}{za:Int}
def z4Y (ht:P.underlying t=some (.slice el))(hu:P.underlying tu=some .string)(hs:TI P el (.int .u8 0) 1 1)(hv:Sl w v el 1 n cs)(hb:n+s.length<=140737488355328):
  ∃v' w',(Builtin.append_ #[t,tu] ty #[v,S s]).run P w= .ok v' w'/\Sl w' v' el 1 (n+s.length) (cs++s.map Tz)/\Kp (λk=>v.ownBlock=some k) w w'/\(∀g,v'.ownBlock=some g->v.ownBlock=some g\/w.heap.size<=g):=by
 have fA:maxLen=9223372036854775807:=rfl
 obtain⟨i,hi,pT,jX,rK⟩:=hs
 have e1:=T6 s
 have e2:=z1f s
 rcases id hv.2 with⟨rfl,rfl⟩|⟨g,cap,cur,rfl,J0,hg,jJ,nx,fV,J1⟩
 ·have hx:cs=[]:=List.eq_nil_of_length_eq_zero (by simpa using hv.1);subst hx;obtain⟨v',w',hr,ho,hg,-⟩:=Lib.run_append_own_string (P:=P) w w.heap.size t tu ty el i ht hu hi pT jX rK (.slice none 0 0) 0 [] (World.ownsRow_nil w w.heap.size el 1) ⟨s.toArray⟩ (by rw[e1];omega) (by rw[e1];exact hb) (Nat.le_refl _);rw[e1,e2] at ho;refine⟨v',w',hr,⟨ho.1,?_⟩,Kp.Uu hg,λg hg=> .inr (World.ownsRow.lt ho g hg).1⟩;rcases ho.2 with Mq|⟨g,cap2,cur2,nh,bN,dm⟩
  ·exact .inl Mq
  ·exact .inr ⟨g,cap2,cur2,nh,Nat.zero_le _,dm⟩
 ·by_cases eZ:n+s.length<=cap
  ·by_cases hc:0<cap
   ·obtain⟨w',hr,ho,cQ⟩:=Lib.run_append_fits_string (P:=P) w 0 t tu ty el i ht hu hi jX (some ⟨g,0,none⟩) n cap cs hv ⟨s.toArray⟩ hc (by rw[e1];exact eZ);rw[e1,e2] at ho;rw[e1] at hr;exact⟨_,w',hr,ho,Kp.Uu cQ,λg' cQ=> .inl (by simpa[Value.ownBlock] using cQ)⟩
   ·obtain⟨v',w',hr,ho,cQ,-⟩:=Lib.run_append_own_string (P:=P) w 0 t tu ty el i ht hu hi pT jX rK (.slice (some ⟨g,0,none⟩) n cap) n cs hv ⟨s.toArray⟩ (by rw[e1];omega) (by rw[e1];exact hb) (Nat.zero_le _);have A9:s=[]:=List.eq_nil_of_length_eq_zero ω;subst A9;have dm:=Lib.run_append_room_string (P:=P) w t tu ty el i ht hu hi jX g n cap cur hg ⟨[].toArray⟩ (by rw[e1];exact eZ) (by rw[e1];simp only[Nat.mul_one] at fV;simp only[List.length_nil];omega);rw[dm] at hr;cases hr;rw[e1,e2] at ho;exact⟨_,_,dm,ho,Kp.Uu cQ,λg' cQ=> .inl (by simpa[Value.ownBlock] using cQ)⟩
  ·obtain⟨v',w',hr,ho,cQ,-⟩:=Lib.run_append_own_string (P:=P) w 0 t tu ty el i ht hu hi pT jX rK (.slice (some ⟨g,0,none⟩) n cap) n cs hv ⟨s.toArray⟩ (by rw[e1];omega) (by rw[e1];exact hb) (Nat.zero_le _);have dm:=Lib.run_append_grow_string (P:=P) w t tu ty el i (.int .u8 0) ht hu hi pT ⟨g,0,none⟩ n cap cs (by rw[jX];exact hv.1) (World.ownsRow.cells hv (g:=g) O) ⟨s.toArray⟩ (by rw[e1];omega) (by rw[e1];omega) (by rw[e1];exact growslice_fits ω (by rw[rK];omega));rw[dm] at hr;cases hr;rw[e1,e2] at ho;refine⟨_,_,dm,by rw[<-e1] at ho⊢;exact ho,Kp.Uu cQ,λg' cQ=> .inr ?_⟩;simp[Value.ownBlock] at cQ;omega
def zhS (ht:P.underlying t=some (.slice el))(hu:P.underlying tu=some .string)(hs:TI P el (.int .u8 0) 1 1)(hx:look e x=some v)(hy:look e y=some (S s))(hv:Sl w v el 1 n cs)(hb:n+s.length<=140737488355328):
  Yp P e ⟨d,.call ⟨.builtin .append,#[x,y],#[t,tu]⟩,ty,pos,aft,g⟩ w λv' w'=>Sl w' v' el 1 (n+s.length) (cs++s.map Tz)/\Kp (λk=>v.ownBlock=some k) w w'/\(∀g,v'.ownBlock=some g->v.ownBlock=some g\/w.heap.size<=g):=by
 obtain⟨v',w',hr,ol⟩:=z4Y (P:=P) (ty:=ty) ht hu hs hv hb
 refine⟨v',w',fun ρ hρ=>?_,ol⟩
 simp[execOp,resolve,invoke,builtin,hρ _ _ hx,hρ _ _ hy,hr]
def z41 (k:Nat):Builtin.zeroCells (Value.int .u8 0).cells k=(Lib.strCells ⟨(zeros k).toArray⟩).toArray:=by
 rw[z1f]
 apply Array.ext'
 rw[Xo (.int .u8 0) k O]
 simp[zeros,Tz]
theorem ziS [sV:Th za k](ht:P.underlying t=some (.slice el))(hn:P.underlying tn=some (.int kn))(hu:P.underlying tu=some .string)(hs:TI P el (.int .u8 0) 1 1)(hx:look e x=some v)(hy:look e y=some (I za))(hv:Sl w v el 1 n cs)(hb:n+k<=140737488355328):
  Yp P e ⟨d,.call ⟨.builtin .append,#[x,y],#[t,tn]⟩,ty,pos,aft,g⟩ w λv' w'=>Sl w' v' el 1 (n+k) (cs++(zeros k).map Tz)/\Kp (λk=>v.ownBlock=some k) w w'/\(∀g,v'.ownBlock=some g->v.ownBlock=some g\/w.heap.size<=g):=by
 obtain⟨rfl⟩:=sV
 have hl:(zeros k).length=k:=by simp[zeros]
 obtain⟨v',w',hr,h1,h2⟩:=z4Y (P:=P) (ty:=ty) (s:=zeros k) ht hu hs hv (by rw[hl];exact hb)
 rw[hl] at h1
 have he:(Builtin.append_ #[t,tn] ty #[v,I (k:Int)]).run P w= .ok v' w':=by
  rw[<-hr];obtain⟨i,hi,pT,jX,rK⟩:=hs;have hw:IntKind.i64.wrap (k:Int)=k:=by rw[IntKind.wrap_i64];omega
  have uP:¬((k:Int)<0):=by omega
  have J2:¬(281474976710656<(k:Int)*(i.bytes:Int)):=by rw[rK];omega
  have hf:=λw=>Lib.run_firstCells_string (P:=P) w i.size ⟨(zeros k).toArray⟩;have cD:(ByteArray.mk (zeros k).toArray).size=k:=by rw[T6,hl]
  rw[cD] at hf
  obtain⟨a,c,Mr⟩:∃a c,v= .slice a n c:=by
   rcases hv.2 with⟨rfl,rfl⟩|⟨g,cap,cur,rfl,_⟩
   ·exact⟨_,_,rfl⟩
   ·exact⟨_,_,rfl⟩
  subst Mr;have Ms:k=0->(Lib.strCells ⟨(zeros k).toArray⟩).toArray=#[]:=λe=>by subst e;rfl
  have Mt:c<=maxLen/\n<=c:=by
   rcases hv.2 with⟨h,h'⟩|⟨g,cap,cur,h,_,_,h1,h2,_⟩
   ·cases h;exact⟨by simp[maxLen],ω⟩
   ·cases h;exact⟨h2,h1⟩
  have ck:n+k<=c\/¬(281474976710656<Builtin.nextslicecap (n+k) c*i.bytes):=by
   by_cases hr:n+k<=c
   ·exact .inl hr
   ·have:=growslice_fits (need:=n+k) (old:=c) (bytes:=i.bytes) ω (by rw[rK];omega);exact .inr ω
  have FH:¬(9223372036854775807<((n:Int)+(k:Int))):=by omega
  by_cases hk:k=0
  ·subst hk;have e0:=Ms O;have j4:n<=c:=Mt.2;have nL:IntKind.i64.wrap 0=0:=by rw[IntKind.wrap_i64];omega
   have j0:=hf w;rw[jX,e0] at j0;simp[Builtin.append_,run_underlying ht,run_underlying hn,run_underlying hu,sizeOf,typeInfo,zeroValue,hi,pT,jX,asInt,asIntOf,nL,Builtin.lenOf,cD,j4,j0]
  ·have bY:=z41 k;have sZ:∀w,(Builtin.firstCells 1 k (.string ⟨(zeros k).toArray⟩)).run P w= .ok (Builtin.zeroCells (Value.int .u8 0).cells k) w:=λw=>by rw[bY];have:=hf w;rw[jX] at this;exact this
   have dK:¬(k*i.size=0):=by rw[jX];omega
   by_cases hr:n+k<=c
   ·simp[Builtin.append_,run_underlying ht,run_underlying hn,run_underlying hu,sizeOf,typeInfo,zeroValue,hi,pT,jX,asInt,asIntOf,hw,uP,J2,Builtin.lenOf,cD,hr,sZ,hk]
   ·have FI:=ck.resolve_left hr;simp[Builtin.append_,run_underlying ht,run_underlying hn,run_underlying hu,sizeOf,typeInfo,zeroValue,hi,pT,jX,asInt,asIntOf,hw,uP,J2,Builtin.lenOf,cD,hr,sZ,hk,FH,FI]
 refine⟨v',w',fun ρ hρ=>?_,h1,h2⟩
 simp[execOp,resolve,invoke,builtin,hρ _ _ hx,hρ _ _ hy,he]
end
/-! ### Writers -/
def swC (s st len:Nat)(rest:Value)(at' n:Nat)(sum:Nat)(put:Value)(dn:Bool):List Value:=[ptr s 0,I (st:Int),I (len:Int),rest,I (at':Int),I (n:Int),U sum,put,.bool dn]
section
variable {w w':World}{Q:Rg}{txt:Int->OO}{K:Nat}{X:Nat->Prop}
def z3q (n:Nat)(hn:n<=2000000)(w:World):Ps prog 48 [I 512,I (n:Int)] w λv w'=>v= .tuple #[I (((n+523) / 512:Nat):Int),I 0]/\w'=w:=by
 refine py (e:=[(0,_),(1,_)]) func48 O ntmps48 O O$ qN O$ Qr O$ PR O$ QV O$ PO$ Pl O$ QD O$ PO$ PT O$ Pl O$ qV (yre O O ω)$ QF O$ PO ?_
 refine PT O$ Pl O$ QV O$ PO$ PT O$ Pl O$ OT O$ qV (Y8 O O ω)$ Rt O$ QD O$ PO$ PT O$ OJ$ Pu.qb (e:=[(0,_),(1,_),(4,_),(5,_),(27,_)]) ?_
 refine SO O$ Pt O$ Q4 O$ OT O$ Q4 O$ Rt O$ OT O$ qV (WX O O ω)$ Qr O ?_
 rw[show((n:Int)+12+512-1) / 512=(((n+523) / 512:Nat):Int) by omega]
 refine OI func48 O ?_
 exact⟨_,rfl,rfl,rfl⟩
def z0c (h:Sp Q txt K X w){st len:Nat}(h1:1<=len)(h2:st+len<=Q.L.length):Ps prog 80 [.agg #[ptr Q.s 0,I (st:Int),I (len:Int)]] w λv w'=>v=I 0/\Ext w w':=by
 have dX:=h.n
 refine py (e:=[(0,_)]) func80 O ntmps80 O O$ qN O$ OP O O (R6 O (cs:=[ptr Q.s 0,I (st:Int),I (len:Int)]) O) ?_
 rintro _ w1 ⟨b1,rfl,bK,ad,ai⟩
 have hP:=h.ext' ad
 have hg:=Ext.Pa w1
 have BJ:=(hP.ext' hg).dev
 have BK:=(hP.ext' hg).blocks
 refine P3 O$ QO$ qN O$ P4 Va O$ qV (OS XB O O ai O)$ qV (Qb XB O O)$ P3 O$ OR O$ An$ R0 (λw'=>Ext w1 w') O$ OM 0 O (Px U8 O) hg$ OM 1 O (Px R9 O) hg$ qT 2 O (λ_ h=>OS U3 O O (h.OH ai) O) hg$ OM 3 O (ylt O O) hg ?_
 refine TC$ P8 4 O O (hg)$ OM 5 O (Px U8 O) hg$ OM 6 O (Px QX O) hg$ qT 7 O (λ_ h=>OS U3 O O (h.OH ai) O) hg$ OM 8 O (ylt O O) hg$ TC$ OM 9 O (U6 O O) hg$ P8 10 O O (hg)$ OM 11 O (Px U8 O) hg$ OM 12 O (Px QX O) hg$ qT 13 O (λ_ h=>OS U3 O O (h.OH ai) O) hg$ OM 14 O (Px Va O) hg$ qT 15 O (λ_ h=>OS XB O O (h.OH ai) O) hg ?_
 refine S1 16 O zet O (BJ) ?_
 rintro _ w2 ⟨rfl,rfl⟩
 refine⟨hg,?_⟩
 refine S1 17 O z3Y O (BK) ?_
 rintro _ w2 ⟨rfl,rfl⟩
 refine⟨hg,?_⟩
 refine OM 18 O (yge O O) hg$ TC$ OM 19 O (U6 O O) hg$ P8 20 O O (hg)$ OM 21 O (Px U8 O) hg$ OM 22 O (Px R9 O) hg$ qT 23 O (λ_ h=>OS U3 O O (h.OH ai) O) hg$ OM 24 O (Px Va O) hg$ qT 25 O (λ_ h=>OS XB O O (h.OH ai) O) hg$ OM 28 O (Px U8 O) hg$ OM 29 O (Px QX O) hg$ qT 30 O (λ_ h=>OS U3 O O (h.OH ai) O) hg$ S1 26 O zet O (BJ) ?_
 rintro _ w2 ⟨rfl,rfl⟩
 refine⟨hg,?_⟩
 refine S1 27 O z3Y O (BK) ?_
 rintro _ w2 ⟨rfl,rfl⟩
 refine⟨hg,?_⟩
 refine OM 31 O (XG O O ω) hg$ OM 32 O (Y7 O O) hg$ TC$ OM 33 O (U6 O O) hg$ OM 34 O (Rv O) hg$ qE$ Pu.qb (e:=[(2,_),(7,_)]) ?_
 refine SO O$ OG$ QN O$ OI func80 O ?_
 exact⟨_,rfl,rfl,ad.trans hg⟩
def z0S (h:Sp Q txt K X w){st len:Nat}(h2:len<=100000):Ps prog 88 [.agg #[ptr Q.s 0,I (st:Int),I (len:Int)]] w λv w'=>v=I ((len:Int)*512-12)/\Ext w w':=by
 refine py (e:=[(0,_)]) func88 O ntmps88 O O$ qN O$ OP O O (R6 O (cs:=[ptr Q.s 0,I (st:Int),I (len:Int)]) O) ?_
 rintro _ w1 ⟨b1,rfl,bK,ad,ai⟩
 have hP:=h.ext' ad
 have hg:=Ext.Pa w1
 have Mu:=(hP.ext' hg).size
 refine P3 O$ An$ R0 (λw'=>Ext w1 w') O$ OM 0 O (Px U8 O) hg$ OM 1 O (Px R9 O) hg$ qT 2 O (λ_ h=>OS U3 O O (h.OH ai) O) hg$ OM 3 O (Px Va O) hg$ qT 4 O (λ_ h=>OS XB O O (h.OH ai) O) hg$ S1 5 O z3J O (Mu) ?_
 rintro _ w2 ⟨rfl,rfl⟩
 refine⟨hg,?_⟩
 refine OM 6 O (Y8 O O ω) hg$ OM 7 O (XG O O ω) hg$ OM 8 O (Rv O) hg$ qE$ OI func88 O ?_
 exact⟨_,rfl,rfl,ad.trans hg⟩
def Yd {wb s st len at' n sum:Nat}{rest put:Value}(hB:OU w wb (swC s st len rest at' n sum put false) 181):Ps prog 83 [ptr wb 0] w λv w'=>v=I 0/\w'=w:=by
 replace hB:OU w wb [ptr s 0,I (st:Int),I (len:Int),rest,I (at':Int),I (n:Int),U sum,put,.bool false] 181:=hB
 refine py (e:=[(0,_)]) func83 O ntmps83 O O$ QN O$ QO$ Pt O$ qV (Qb z2T O O)$ P3 O$ OR O$ Pt O$ Pw O$ P4 YY O$ qV (OS U4 O O hB O)$ P3 O$ SO O$ OG ?_
 refine QN O$ OI func83 O ?_
 exact⟨_,rfl,rfl,rfl⟩
def z5g (h:Sp Q txt K X w){wb st len at' n sum:Nat}{rest put:Value}(h2:len<=100000)(hn:n<=100000000)(hB:OU w wb (swC Q.s st len rest at' n sum put false) 181):Ps prog 84 [ptr wb 0] w λv w'=>v=I ((len:Int)*512-12-(n:Int))/\Ext w w':=by
 replace hB:OU w wb [ptr Q.s 0,I (st:Int),I (len:Int),rest,I (at':Int),I (n:Int),U sum,put,.bool false] 181:=hB
 have hg:=Ext.Pa w
 have Mv:=z0S (h.ext' hg) (st:=st) h2
 refine py (e:=[(0,_)]) func84 O ntmps84 O O$ QN O$ PR O$ qV (Qb z2T O O)$ Pl O$ Pw O$ P4 YY O$ qV (OS U4 O O hB O)$ PT O$ Qm O$ An$ R0 (λw'=>Ext w w') O$ P8 0 O O (hg)$ OM 1 O (Qd O) hg ?_
 refine OM 2 O (Px WZ O) hg$ qT 3 O (λ_ h=>Pv zcf O Xy O (OU.cells (n:=3) (h.OH hB) (news:=[_,_,_]) O) O) hg$ P8 5 O O (hg)$ OM 6 O (Qd O) hg$ OM 7 O (Px z0h O) hg$ qT 8 O (λ_ h=>OS U3 O O (h.OH hB) O) hg$ S1 4 O ziJ O (Mv) ?_
 rintro _ w2 ⟨rfl,ae⟩
 refine⟨(hg.trans ae),?_⟩
 refine OM 9 O (XG O O ω) ((hg.trans ae))$ OM 10 O (Rv O) ((hg.trans ae))$ qE$ OI func84 O ?_
 exact⟨_,rfl,rfl,hg.trans ae⟩
end
def z1D (bs bx bw:Nat):Value:= .func (.func 81) #[] #[ptr bs 0,ptr bx 0,ptr bw 0]
structure SwM (s st len wb bs bx bw:Nat)(rest:Value)(at' n sum:Nat)(w:World):Prop where
 wr:OU w wb (swC s st len rest at' n sum (z1D bs bx bw) false) 181
 sb:OU w bs [ptr s 0] 27
 xb:OU w bx [I (st:Int),I (len:Int)] 118
 pb:OU w bw [ptr wb 0] 121
 ne:bs≠wb/\bx≠wb/\bw≠wb
section
variable {w w':World}{Q:Rg}{txt:Int->OO}{K:Nat}{X S':Nat->Prop}{s st len wb bs bx bw at' n sum:Nat}{rest:Value}
def SwM.kp (h:SwM s st len wb bs bx bw rest at' n sum w)(hk:Kp S' w w')(h1:¬S' wb)(h2:¬S' bs)(h3:¬S' bx)(h4:¬S' bw):SwM s st len wb bs bx bw rest at' n sum w':=
 ⟨hk.OH h.wr h1,hk.OH h.sb h2,hk.OH h.xb h3,hk.OH h.pb h4,h.ne⟩
theorem SwM.ext (h:SwM s st len wb bs bx bw rest at' n sum w)(hx:Ext w w'):SwM s st len wb bs bx bw rest at' n sum w':=h.kp (S':=λ_=>False) hx id id id id
def SwM.re {rest2:Value}{at2 n2 sum2:Nat}(h:SwM s st len wb bs bx bw rest at' n sum w)(hk:Kp (λb=>b=wb) w w')(hB:OU w' wb (swC s st len rest2 at2 n2 sum2 (z1D bs bx bw) false) 181):SwM s st len wb bs bx bw rest2 at2 n2 sum2 w':=
 ⟨hB,hk.OH h.sb h.ne.1,hk.OH h.xb h.ne.2.1,hk.OH h.pb h.ne.2.2,h.ne⟩
theorem SwM.cells (h:SwM s st len wb bs bx bw rest at' n sum w):OU w wb [ptr s 0,I (st:Int),I (len:Int),rest,I (at':Int),I (n:Int),U sum,z1D bs bx bw,.bool false] 181:=h.wr
def Zu (hP:Sp Q txt K X w)(hX:∀b,X b->b<w.heap.size)(hK:K<1000000000000)(h:SwM Q.s st len wb bs bx bw rest at' n sum w)(aq:X wb/\X bs/\X bx/\X bw)(BL:st+at'<Q.L.length)(t:OO)(ht:t.length=512):
  Ps prog 81 [S t,ptr bs 0,ptr bx 0,ptr bw 0] w λv w'=>v=I 0/\Sp Q (ZB txt ((st+at':Nat):Int) (some t)) (K+1) X w'/\SwM Q.s st len wb bs bx bw rest (at'+1) n sum w'/\Kp (λb=>¬X b\/b=wb) w w':=by
 have dX:=hP.n
 have kN:=h.sb
 have jc:=h.xb
 have mG:=h.pb
 have hB:=h.cells
 have hg:=Ext.Pa w
 refine py (e:=[(0,_),(1,_),(2,_),(3,_)]) func81 O ntmps81 O O$ QN O$ An$ R0 (λw'=>Kp (λb=>¬X b) w w') O$ qT 0 O (λ_ hS=>(OS XB O O (hS.OH kN (λe=>e aq.2.1)) O)) (hg.kp)$ OM 1 O (Px QX O) (hg.kp)$ qT 2 O (λ_ hS=>(OS U3 O O (hS.OH jc (λe=>e aq.2.2.1)) O)) (hg.kp)$ qT 3 O (λ_ hS=>(OS z2T O O (hS.OH mG (λe=>e aq.2.2.2)) O)) (hg.kp)$ OM 4 O (Qd O) (hg.kp)$ OM 5 O (Px YG O) (hg.kp)$ qT 6 O (λ_ hS=>(OS U3 O O (hS.OH hB (λe=>e aq.1)) O)) (hg.kp)$ OM 7 O (UN O O ω) (hg.kp)$ P8 8 O O (hg.kp) ?_
 rw[show(st:Int)+(at':Int)=((st+at':Nat):Int) by omega]
 refine S1 9 O zfx O ((hP.ext' hg).write (λb hb=>by have:=hX b hb;have:=hg.size;omega) hK (no:=((st+at':Nat):Int)) ω ω t ht) ?_
 rintro _ w1 ⟨rfl,ik,az⟩
 refine⟨hg.kp.trans az,?_⟩
 have dx:Kp (λb=>¬X b) w w1:=hg.kp.trans az
 have h1:=h.kp dx (λe=>e aq.1) (λe=>e aq.2.1) (λe=>e aq.2.2.1) (λe=>e aq.2.2.2)
 have ai:=h1.cells
 have FJ:=h1.pb
 have dl:∀b,X b->b<w1.heap.size:=λb hb=>by have:=hX b hb;have:=dx.size;omega
 refine OM 10 O (Rv O) (hg.kp.trans az)$ qE$ qN O$ qV ((OS z2T O O FJ O))$ Pw O$ P4 YG O$ qV ((OS U3 O O ai O))$ Q4 O$ Pw O$ P4 YG O$ OY O (QP Qe O O O ai ξ) ?_
 rintro w2 ⟨ak,am⟩
 have eF:OU w2 wb (swC Q.s st len rest (at'+1) n sum (z1D bs bx bw) false) 181:=ak
 have h2:=h1.re am eF
 have Aa:=h2.cells
 have Ab:=h2.pb
 have aa:=Ext.Pa w2
 have f7:=ik.own am (λb e=>by rw[e];exact aq.1)
 refine OJ$ An$ Pk [11] (λw'=>Ext w2 w') (by kernel_rfl) O$ qL 0 O (λ_ h=>(OS z2T O O (h.OH Ab) O)) aa$ qL 1 O (λ_ h=>(OS z2T O O (h.OH Ab) O)) aa$ Pr 2 O (Qd O) aa$ Pr 3 O (Px YY O) aa$ qL 4 O (λ_ h=>(OS U4 O O (h.OH Aa) O)) aa$ PW 5 O O (aa)$ PW 6 O O (aa)$ Pr 7 O (yne O O) aa$ Pr 8 O (U6 O O) aa$ Pr 9 O (Qd O) aa$ Pr 10 O (Px YY O) aa ?_
 refine Ty [11] ?_
 have au:=aa.OH Aa
 refine qO 11$ PJ (i:=11) O O (QP UH O O O au ξ) ?_
 rintro w3 ⟨kM,av⟩
 refine⟨trivial,?_⟩
 refine qE$ Pu.qb (e:=[(5,_),(6,_)]) ?_
 refine Pt O$ P3 O$ OI func81 O ?_
 have h3:=(h2.ext aa).re av (show OU w3 wb (swC Q.s st len rest (at'+1) n sum (z1D bs bx bw) false) 181 from kM)
 exact⟨_,rfl,rfl,(f7.ext' aa).own av (λb e=>by rw[e];exact aq.1),h3,((dx.ON λb e=> .inl e).trans (am.ON λb e=> .inr e)).trans (aa.kp.trans (av.ON λb e=> .inr e))⟩
end
section
variable {P:Program}{e:Env}{d:Option Nat}{ty t t' el:TypeId}{pos:String}{aft:Array Edge}{g:Option (Nat×Bool)}{x:Operand}{w:World}{l:OO}{v:Value}
def zf1 (hs:P.underlying t=some (.slice el))(he:P.underlying el=some (.int .u8))(hd:P.underlying t'=some .string)(hx:look e x=some v)(hr:Rd w v 1 l.length (l.map Tz))(hl:0<l.length):
  Y P e ⟨d,.convert t t' x,ty,pos,aft,g⟩ (S l) w w:=fun ρ hρ=>by
 rcases hr.2 with⟨⟨ca,c⟩,hv,h0⟩|⟨b,off,cap,hv,hc⟩
 ·omega
 ·subst hv;have hr:=run_convert_bytes_back (P:=P) w t t' el ⟨b,off,none⟩ cap l hs he hd (λj hj=>by rw[Rm];exact hc j _ (by simp[hj,Tz]));simp[execOp,hρ _ _ hx,hr]
end
section
variable {w w':World}{Q:Rg}{txt:Int->OO}{K:Nat}{X:Nat->Prop}{s st len wb bs bx bw n sum:Nat}
theorem z2Z (hP:Sp Q txt K X w){st len:Nat}(h1:1<=len)(h2:st+len<=Q.L.length):
  Ps prog 51 [ptr Q.s 0,.agg #[I (st:Int),I (len:Int)]] w λv w'=>∃wb bs bx bw sum,v= .tuple #[ptr wb 0,I 0]/\sum<4294967296/\SwM Q.s st len wb bs bx bw (.slice none 0 0) 0 0 sum w'/\(w.heap.size<=wb/\w.heap.size<=bs/\w.heap.size<=bx/\w.heap.size<=bw)/\Ext w w':=by
 have vT:Sums.crc []<4294967296:=Sums.zeL _
 obtain⟨c0,uQ⟩:∃c0,Sums.crc []=c0:=⟨_,rfl⟩
 rw[uQ] at vT
 refine py (e:=[(0,_),(1,_)]) func51 O ntmps51 O O$ qN O$ OP O O (R6 O (cs:=[ptr Q.s 0]) O) ?_
 rintro _ w1 ⟨bs,rfl,wv,ad,kN⟩
 refine OP O O (R6 O (cs:=[I (st:Int),I (len:Int)]) O) ?_
 rintro _ w2 ⟨bx,rfl,fD,ae,jc⟩
 have i5:=ae.OH kN
 have Mw:=hP.ext' (ad.trans ae)
 have ax:=Ext.Pa w2
 have bY:=ax.size
 refine Qr O$ An$ PI (λe' w'=>∃wb bw,e'=[(2,ptr bs 0),(3,ptr bx 0),(6,ptr bw 0)]/\OU w' wb [ptr Q.s 0,I (st:Int),I (len:Int),.slice none 0 0,I 0,I 0,U c0,.nilFunc,.bool false] 181/\OU w' bw [ptr wb 0] 121/\Ext w2 w'/\w2.heap.size<=wb/\w2.heap.size<=bw/\wb≠bw) ?bH$ λbH=>?da
 case bH=>
  rintro e' w3 ⟨wb,bw,rfl,au,nj,ah,og,FK,bD⟩;have lbs:=kN.lt;have lbx:=jc.lt;have et:=ae.size;have fU:=Mw.ext' ah;refine An$ qN O$ qV ((OS z2T O O nj O))$ Pw O$ P4 WZ O$ qV ((Pv zcf O Xy O (OU.cells (n:=3) au (news:=[_,_,_]) O) O))$ Pb zh0 O (z0c fU h1 h2) ?_;rintro _ w4 ⟨rfl,aG⟩;have mq:=aG.OH nj;have aM:=aG.OH au;refine R3 O$ QF O$ Qm O$ qN O$ qV ((OS z2T O O mq O))$ qV (ZR (first:=[]) (caps:=[.tmp 2,.tmp 3,.tmp 6]) O O)$ Pw O$ P4 z0j O$ OY O (QP zf4 O O O aM ξ) ?_;rintro w5 ⟨aK,aj⟩;have Bx:=aj.OH mq (λe=>bD e.symm);refine qM O$ qV (OS z2T O O Bx O)$ Qr O$ OI func51 O ?_;have iD:Ext w2 w5:=(ah.trans aG).It aj (λj e=>by omega);refine⟨_,rfl,wb,bs,bx,bw,c0,rfl,vT,⟨aK,iD.OH i5,iD.OH jc,Bx,⟨ω,ω,λe=>bD e.symm⟩⟩,⟨ω,ω,ω,ω⟩,(ad.trans ae).trans iD⟩
 case da=>
 refine Pk [7] (λw'=>Ext w2 w') (by kernel_rfl) O$ qL 0 O (λ_ h=>(OS XB O O (h.OH i5) O)) ax$ qL 1 O (λ_ hS=>(Pv Xj O R4 O (OU.cells (n:=2) (hS.OH jc) (news:=[_,_]) O) O)) ax$ Pr 2 O (Sh (cs:=[_,_,_]) Xy O zev O O) ax$ Xn (i:=3) (j:=6) (by kernel_rfl) ?_ ?_
 ·refine S0 (i:=3) O O O (yc (args:=[.const (Value.string (⟨#[]⟩))]) ziM O) (z7K [] _ ξ) ?_;rintro _ w3 ⟨rfl,ah⟩;refine⟨ax.trans ah,?_⟩;rw[uQ];have ax:=ax.trans ah
  try have aX:=ah.OH aX
  have bY:=Nat.le_trans bY ah.size;refine Pr 4 O (Sh (cs:=[_,_,_,_,_,_,_,_,_]) zdx O zdE O O) ax$ Xn (i:=5) (j:=6) (by kernel_rfl) ?_ ?_
  ·refine Qv (i:=5) O O O (R6 O (cs:=[ptr Q.s 0,I (st:Int),I (len:Int),.slice none 0 0,I 0,I 0,U c0,.nilFunc,.bool false]) O) ?_;rintro _ w5 ⟨wb,rfl,og,aV,aK⟩;refine⟨ax.trans aV,?_⟩;have ax:=ax.trans aV
   try have aX:=aV.OH aX
   have u7:w2.heap.size<=wb:=by omega
   have bY:=Nat.le_trans bY aV.size;refine Rf (i:=6) (by kernel_rfl)$ Qv (i:=6) O O O (Rz (cs:=[_]) z2j O) ?_;rintro _ w6 ⟨bw,rfl,FK,aR,aX⟩;refine⟨ax.trans aR,?_⟩;have ax:=ax.trans aR
   try have aK:=aR.OH aK
   have Ac:w2.heap.size<=bw:=by omega
   have bY:=Nat.le_trans bY aR.size;refine Ty [7]$ qO 7$ PJ (i:=7) O O (QP z2j O O O aX ξ) ?_;rintro w7 ⟨bR,aB⟩;refine⟨trivial,?_⟩;refine qE ?_;replace bR:OU w7 bw [ptr wb 0] 121:=bR
   have jC:wb≠bw:=by
    intro e;have h5:=aK;rw[e] at h5;obtain⟨fz,h5,-⟩:=h5;obtain⟨fz6,h6,-⟩:=aX;rw[h5] at h6;cases h6
   have fj:=aB.OH aK jC;exact(bH _ _ ⟨wb,bw,rfl,fj,bR,ax.It aB (λj e=>by omega),u7,Ac,jC⟩).qb
  ·refine Qv (i:=6) O O O (Rz (cs:=[_]) z2j O) ?_;rintro _ w6 ⟨bw,rfl,FK,aR,aX⟩;refine⟨ax.trans aR,?_⟩;have ax:=ax.trans aR
   try have aK:=aR.OH aK
   have Ac:w2.heap.size<=bw:=by omega
   have bY:=Nat.le_trans bY aR.size;refine Rf (i:=5) (by kernel_rfl)$ Qv (i:=5) O O O (R6 O (cs:=[ptr Q.s 0,I (st:Int),I (len:Int),.slice none 0 0,I 0,I 0,U c0,.nilFunc,.bool false]) O) ?_;rintro _ w5 ⟨wb,rfl,og,aV,aK⟩;refine⟨ax.trans aV,?_⟩;have ax:=ax.trans aV
   try have aX:=aV.OH aX
   have u7:w2.heap.size<=wb:=by omega
   have bY:=Nat.le_trans bY aV.size;refine Ty [7]$ qO 7$ PJ (i:=7) O O (QP z2j O O O aX ξ) ?_;rintro w7 ⟨bR,aB⟩;refine⟨trivial,?_⟩;refine qE ?_;replace bR:OU w7 bw [ptr wb 0] 121:=bR
   have jC:wb≠bw:=by
    intro e;have h5:=aK;rw[e] at h5;obtain⟨fz,h5,-⟩:=h5;obtain⟨fz6,h6,-⟩:=aX;rw[h5] at h6;cases h6
   have fj:=aB.OH aK jC;exact(bH _ _ ⟨wb,bw,rfl,fj,bR,ax.It aB (λj e=>by omega),u7,Ac,jC⟩).qb
 ·refine Qv (i:=6) O O O (Rz (cs:=[_]) z2j O) ?_;rintro _ w6 ⟨bw,rfl,FK,aR,aX⟩;refine⟨ax.trans aR,?_⟩;have ax:=ax.trans aR
  try have aK:=aR.OH aK
  have Ac:w2.heap.size<=bw:=by omega
  have bY:=Nat.le_trans bY aR.size;refine Rf (i:=3) (by kernel_rfl)$ S0 (i:=3) O O O (yc (args:=[.const (Value.string (⟨#[]⟩))]) ziM O) (z7K [] _ ξ) ?_;rintro _ w3 ⟨rfl,ah⟩;refine⟨ax.trans ah,?_⟩;rw[uQ];have ax:=ax.trans ah
  try have aX:=ah.OH aX
  have bY:=Nat.le_trans bY ah.size;refine Pr 4 O (Sh (cs:=[_,_,_,_,_,_,_,_,_]) zdx O zdE O O) ax$ Rf (i:=5) (by kernel_rfl)$ Qv (i:=5) O O O (R6 O (cs:=[ptr Q.s 0,I (st:Int),I (len:Int),.slice none 0 0,I 0,I 0,U c0,.nilFunc,.bool false]) O) ?_;rintro _ w5 ⟨wb,rfl,og,aV,aK⟩;refine⟨ax.trans aV,?_⟩;have ax:=ax.trans aV
  try have aX:=aV.OH aX
  have u7:w2.heap.size<=wb:=by omega
  have bY:=Nat.le_trans bY aV.size;refine Ty [7]$ qO 7$ PJ (i:=7) O O (QP z2j O O O aX ξ) ?_;rintro w7 ⟨bR,aB⟩;refine⟨trivial,?_⟩;refine qE ?_;replace bR:OU w7 bw [ptr wb 0] 121:=bR
  have jC:wb≠bw:=by
   intro e;have h5:=aK;rw[e] at h5;obtain⟨fz,h5,-⟩:=h5;obtain⟨fz6,h6,-⟩:=aX;rw[h5] at h6;cases h6
  have fj:=aB.OH aK jC;exact(bH _ _ ⟨wb,bw,rfl,fj,bR,ax.It aB (λj e=>by omega),u7,Ac,jC⟩).qb
end
section
variable {w w':World}{Q:Rg}{txt:Int->OO}{K:Nat}{X:Nat->Prop}{st len wb bs bx bw n sum:Nat}{rest:Value}{T:OO}
theorem z8B (T:OO)(k:Nat):((T.drop (512*k)).map Tz).drop 512=(T.drop (512*(k+1))).map Tz:=by
 rw[<-List.map_drop,List.drop_drop]
 congr 2
def SwI (Q:Rg)(txt:Int->OO)(K:Nat)(X:Nat->Prop)(st len wb bs bx bw:Nat)(T:OO)(sum:Nat)(w:World)(k:Nat)(w':World):Prop:=
 ∃txt' rest,Sp Q txt' (K+k) (λb=>X b\/rest.ownBlock=some b) w'/\SwM Q.s st len wb bs bx bw rest k T.length sum w'/\Sl w' rest 5 1 (T.length-512*k) ((T.drop (512*k)).map Tz)/\(∀j,j<k->txt' ((st+j:Nat):Int)=(T.drop (512*j)).take 512)/\(∀y:Int,y<(st:Int)\/(st:Int)+(k:Int)<=y->txt' y=txt y)/\Kp (λb=>¬X b\/b=wb) w w'/\(∀b,rest.ownBlock=some b->w.heap.size<=b)
theorem z4z (hP:Sp Q txt K X w)(hX:∀b,X b->b<w.heap.size)(hK:K<=100000000000)(h:SwM Q.s st len wb bs bx bw (.slice none 0 0) 0 0 sum w)(gR:sum<4294967296)(aq:X wb/\X bs/\X bx/\X bw)(ck:st+len<=Q.L.length)(h1:1<=len)(hT:T.length<=len*512-12):
  Ps prog 52 [ptr wb 0,S T] w λv w'=>v=I 0/\∃sum',sum'<4294967296/\SwI Q txt K X st len wb bs bx bw T sum' w (T.length / 512) w':=by
 have fA:maxLen=9223372036854775807:=rfl
 have dX:=hP.n
 refine py (e:=[(0,_),(1,_)]) func52 O ntmps52 O O$ QN O$ PR O$ Pb zgb O (Yd h.wr) ?_
 rintro _ w ⟨rfl,rfl⟩
 refine R3 O$ QF O$ Qm O$ PR O$ qV (Wh U9 O)$ OT O$ Pb zjJ O (z5g hP ω ω h.wr) ?_
 rintro _ w1 ⟨rfl,ad⟩
 have ik:=hP.ext' ad
 have ee:=h.ext ad
 have ai:=ee.cells
 refine QD O$ PO$ Qm O$ Pt O$ Pw O$ P4 z0h O$ qV (OS U3 O O ai O)$ OT O$ qV (Wh U9 O)$ Q4 O$ Pw O$ P4 z0h O ?_
 rw[show((0:Nat):Int)+(T.length:Int)=(T.length:Int) by omega]
 refine OY O (QP Qe O O O ai ξ) ?_
 rintro w2 ⟨ak,am⟩
 have dt:=ee.re am (show OU w2 wb (swC Q.s st len (.slice none 0 0) 0 T.length sum (z1D bs bx bw) false) 181 from ak)
 have f7:=ik.own am (λb e=>by rw[e];exact aq.1)
 have eF:=dt.cells
 refine qM O$ Pl O$ Pw O$ P4 z3m O$ qV (OS QU O O eF O)$ OT O$ Pb zim O (zbw sum T _ gR ω) ?_
 rintro _ w3 ⟨rfl,ah⟩
 have sG:=Sums.zeo T gR
 obtain⟨sum3,iO⟩:∃sum3,Sums.on sum T=sum3:=⟨_,rfl⟩
 rw[iO] at sG⊢
 have pD:=dt.ext ah
 have au:=pD.cells
 refine Pw O$ P4 z3m O$ OY O (QP Pc O O O au ξ) ?_
 rintro w4 ⟨aM,ar⟩
 have vU:=pD.re ar (show OU w4 wb (swC Q.s st len (.slice none 0 0) 0 T.length sum3 (z1D bs bx bw) false) 181 from aM)
 have jQ:=(f7.ext' ah).own ar (λb e=>by rw[e];exact aq.1)
 have fu:=vU.cells
 refine OJ$ Pu.qb (e:=[(0,_),(1,_),(4,_)]) ?_
 refine QI O$ Pw O$ P4 SZ O$ qV (OS SL O O fu O)$ OT O$ OP O O (zhS SL U9 Y9 O O (Sl.nil w4 _ 1) ω) ?_
 rintro v5 w5 ⟨gM,aj,tT⟩
 simp only[List.nil_append,Nat.zero_add] at gM
 replace aj:Ext w4 w5:=aj.ON (λb e=>by cases e)
 have uR:∀b,v5.ownBlock=some b->w4.heap.size<=b:=λb e=>(tT b e).elim (λe=>by cases e) id
 obtain⟨a5,c5,rfl,-⟩:=gM.rd.shape
 have pu:=vU.ext aj
 have aK:=pu.cells
 have bS:Kp (λb=>¬X b\/b=wb) w w5:=(((ad.kp.trans (am.ON λb e=> .inr e)).trans ah.kp).trans (ar.ON λb e=> .inr e)).trans aj.kp
 have z4:w.heap.size<=w4.heap.size:=by have:=ad.size;have:=am.size;have:=ah.size;have:=ar.size;omega
 have lwb:=aK.lt
 have lwb0:=hX _ aq.1
 refine Pw O$ P4 SZ O$ OY O (QP z1X O O O aK ξ) ?_
 rintro w6 ⟨aX,aN⟩
 have Ff:=pu.re aN (show OU w6 wb (swC Q.s st len (.slice a5 T.length c5) 0 T.length sum3 (z1D bs bx bw) false) 181 from aX)
 have nt:Sp Q txt K (λb=>X b\/(Value.slice a5 T.length c5).ownBlock=some b) w6:=(jQ.ext aj (λb e=>e.imp id (uR b))).own aN (λb e=> .inl (by rw[e];exact aq.1))
 have fQ:=gM.kp aN (λb hb e=>by have:=uR b hb;omega)
 have nG:=Ff.cells
 have iG:=bS.trans (aN.ON λb e=>Or.inr e)
 refine qM O$ OT O$ Pw O$ P4 WZ O$ P4 Va O$ qV (OS XB O O nG O)$ Pb z3J O (nt.size) ?_
 rintro _ w6 ⟨rfl,rfl⟩
 refine P3 O$ QO$ RN (α:=Nat) (0) (λk=>[(0,ptr wb 0),(6,I 512)]) (λk w'=>k<=T.length / 512/\SwI Q txt K X st len wb bs bx bw T sum3 w k w') (λk=>T.length / 512-k) ?hI ?hround
 case hI=>exact⟨Nat.zero_le _,txt,_,nt,Ff,fQ,λj hj=>by omega,λy hy=>rfl,iG,λb hb=>by have:=uR b hb;omega⟩
 case hround=>
  rintro k w8 ⟨hk,txt1,rest,pH,xU,dJ,ja,Ad,aL,jO⟩ ih;obtain⟨a8,c8,rfl,-⟩:=dJ.rd.shape;have cu:=xU.cells;have I8:=aL.size
  try dsimp only
  refine PR O$ Pw O$ P4 SZ O$ qV (OS SL O O cu O)$ RO SL O$ OT O$ Uh O$ OJ$ OX O (λh0=>?_)$ λh0=>?_
  ·have Mx:512*k+512<=T.length:=by omega
   rcases dJ.shape with⟨e,wG⟩|⟨gb,cc,e,Ft⟩
   ·omega
   cases e;have LJ:=jO gb O;have hg:=Ext.Pa w8;have f9:((T.drop (512*k)).take 512).length=512:=by rw[List.length_take,List.length_drop];omega
   have FM:Rd w8 (.slice (some ⟨gb,0,none⟩) 512 c8) 1 ((T.drop (512*k)).take 512).length (((T.drop (512*k)).take 512).map Tz):=by
    rw[f9,List.map_take];exact UX dJ.rd ω
   have My:∀b,(X b\/(Value.slice (some ⟨gb,0,none⟩) (T.length-512*k) c8).ownBlock=some b)->b<w8.heap.size:=λb hb=>by
    rcases hb with e| e
    ·have:=hX b e;omega
    ·exact dJ.lt e
   refine OK$ OL$ An$ An$ Pk [11,12] (λw'=>Ext w8 w') (by kernel_rfl) O$ PW 0 O O (hg)$ Pr 1 O (Qd O) hg$ Pr 2 O (Px z0j O) hg$ qL 3 O (λ_ h=>OS U54 O O (h.OH cu) O) hg$ PW 4 O O (hg)$ Pr 5 O (Qd O) hg$ Pr 6 O (Px SZ O) hg$ qL 7 O (λ_ h=>OS SL O O (h.OH cu) O) hg$ PW 8 O O (hg) ?_;refine Pr 9 O (zca SL Y9 O O ω) hg$ qL 10 O (λ_ hS=>zf1 (l:=(T.drop (512*k)).take 512) SL U5 U9 O (FM.ext hS) ω) hg$ Ty [11]$ qO 11$ W7 (i:=11) O O O (RW zfn O O) (Zu (pH.ext' hg) (λb hb=>by have:=My b hb;have:=hg.size;omega) ω (xU.ext hg) ⟨.inl aq.1,.inl aq.2.1,.inl aq.2.2.1,.inl aq.2.2.2⟩ ω ((T.drop (512*k)).take 512) f9) ?_;rintro _ w9 ⟨rfl,pQ,BH,aw⟩;refine⟨trivial,?_⟩;refine OM 12 O (Rv O) trivial$ qE$ Pt O$ QF O ?_;have cK:=BH.cells;have i6:=hg.kp.trans aw
   have ko:=dJ.kp i6 (λb hb e=>by
    rcases e with e| e
    ·exact e (.inr hb)
    ·have e1:gb=b:=RB hb
     omega)
   have I9:=i6.size;refine Qm O$ OQ O$ Pl O$ Pw O$ P4 SZ O$ qV (OS SL O O cK O)$ OT O$ qV (Yq SL Y9 O O ω ω)$ OP O O (pap SL Y9 O ψ O O (Sl.nil w9 _ 1) (TO (i:=512) ko.rd ω ω) (λc hc=>by obtain⟨z,-,rfl⟩:=List.mem_map.1 (List.mem_of_mem_drop hc);rfl) ω ω) ?_;rintro v10 w10 ⟨bT,aA,co,-⟩;rw[List.nil_append,z8B,Nat.zero_add,show T.length-512*k-512=T.length-512*(k+1) by omega] at bT;replace aA:Ext w9 w10:=aA.ON (λb e=>by cases e);have oH:∀b,v10.ownBlock=some b->w9.heap.size<=b:=λb e=>(co b e).elim (λe=>by cases e) id;obtain⟨a10,c10,rfl,-⟩:=bT.rd.shape;have Ae:=BH.ext aA;have fG:=Ae.cells;refine Pw O$ P4 SZ O$ OY O (QP z1X O O O fG ξ) ?_;rintro w11 ⟨bc,bu⟩;have FN:=Ae.re bu (show OU w11 wb (swC Q.s st len (.slice a10 (T.length-512*(k+1)) c10) (k+1) T.length sum3 (z1D bs bx bw) false) 181 from bc);have FO:Sp Q (ZB txt1 ((st+k:Nat):Int) (some ((T.drop (512*k)).take 512))) (K+k+1) (λb=>X b\/(Value.slice a10 (T.length-512*(k+1)) c10).ownBlock=some b) w11:=(pQ.ext aA (λb e=>e.elim (λe=> .inl (.inl e)) (λe=> .inr (oH b e)))).own bu (λb e=> .inl (by rw[e];exact aq.1));have nJ:=bT.kp bu (λb hb e=>by have:=oH b hb;omega);refine OJ$ OG ((ih (k+1) w11 ⟨ω,_,_,FO,FN,nJ,λj hj=>?_,λy hy=>?_,?_,λb hb=>by have:=oH b hb;omega⟩ ω).qb)
   ·by_cases e:j=k
    ·subst e;exact Sa _ _ _
    ·rw[Rs _ _ ω];exact ja j ω
   ·rw[Rs _ _ ω];exact Ad y ω
   ·refine(aL.It i6 λb e=>?_).trans (aA.kp.trans (bu.ON λb e=> .inr e));rcases e with e| e
    ·by_cases hb:X b
     ·exact absurd (.inl hb) e
     ·exact .inr (.inl hb)
    ·exact .inr (.inr e)
  ·have Mz:k=T.length / 512:=by omega
   subst Mz;refine OV O$ QN O$ OI func52 O ?_;exact⟨_,rfl,rfl,sum3,sG,txt1,_,pH,xU,dJ,ja,Ad,aL,jO⟩
end
section
variable {w w':World}{Q:Rg}{txt:Int->OO}{K:Nat}{X:Nat->Prop}{st len wb bs bx bw n sum:Nat}{rest:Value}{T:OO}
def Xv (n sum:Nat):OO:=Vl 8 n++Vl 4 sum
def z33 (n sum:Nat):(Xv n sum).length=12:=by simp[Xv,Qi]
theorem z4R (hP:Sp Q txt K (λb=>X b\/rest.ownBlock=some b) w)(hX:∀b,X b->b<w.heap.size)(hK:K<=200000000000)(h:SwM Q.s st len wb bs bx bw rest (T.length / 512) T.length sum w)(gR:sum<4294967296)(aq:X wb/\X bs/\X bx/\X bw)(ck:st+len<=Q.L.length)(aJ:len=(T.length+523) / 512)
  (hS:Sl w rest 5 1 (T.length%512) ((T.drop (512*(T.length / 512))).map Tz)) (bD:∀b,rest.ownBlock=some b->¬X b) (ja:∀j,j<T.length / 512->txt ((st+j:Nat):Int)=(T.drop (512*j)).take 512):
  Ps prog 53 [ptr wb 0] w λv w'=>v=I 0/\∃txt',Sp Q txt' (K+2) X w'/\(∀j,512*j<T.length->∃z,txt' ((st+j:Nat):Int)=(T.drop (512*j)).take 512++z)/\(∃z,txt' ((st+(len-1):Nat):Int)=z++Xv T.length sum/\z.length=500)/\(∀y:Int,y<(st:Int)\/(st:Int)+(len:Int)<=y->txt' y=txt y)/\Kp (λb=>¬X b\/b=wb) w w':=by
 have fA:maxLen=9223372036854775807:=rfl
 have dX:=hP.n
 obtain⟨a0,c0,rfl,-⟩:=hS.rd.shape
 have hB:=h.cells
 have MA:∀b,(Value.slice a0 (T.length%512) c0).ownBlock=some b->b<w.heap.size:=λb hb=>hS.lt hb
 have hg:=Ext.Pa w
 refine py (e:=[(0,_)]) func53 O ntmps53 O O$ QN O$ PR O$ Pb zgb O (Yd h.wr) ?_
 rintro _ w ⟨rfl,rfl⟩
 refine R3 O$ QF O$ Qm O$ Pt O$ Pw O$ P4 WZ O$ P4 Va O$ qV (OS XB O O hB O)$ Pb z3J O (hP.size) ?_
 rintro _ w ⟨rfl,rfl⟩
 refine P3 O$ An$ An$ PI (λe' w'=>∃q,e'=[(0,ptr wb 0),(4,I 512),(38,.bool q)]/\(q=true↔T.length / 512<len-1)/\Ext w w') ?aY$ λaY=>?fW
 case aY=>
  rintro e' w1 ⟨q,rfl,hq,ad⟩;have ik:=hP.ext' ad;have h1:=h.ext ad;have jT:=hS.ext ad;have ai:=h1.cells;have nz:=ad.size;refine PI (λe' w'=>e'=[(0,ptr wb 0),(4,I 512)]/\∃txt1 rest1 at1 l,Sp Q txt1 (K+1) (λb=>X b\/rest1.ownBlock=some b) w'/\SwM Q.s st len wb bs bx bw rest1 at1 T.length sum w'/\Sl w' rest1 5 1 l.length (l.map Tz)/\l.length<=500/\(∀b,rest1.ownBlock=some b->¬X b)/\l=T.drop (512*(len-1))/\(∀j,j<len-1->512*j<T.length->∃z,txt1 ((st+j:Nat):Int)=(T.drop (512*j)).take 512++z)/\(∀y:Int,y<(st:Int)\/(st:Int)+(len:Int)<=y->txt1 y=txt y)/\Kp (λb=>¬X b\/b=wb) w w') ?ao$ λao=>?en
  case ao=>
   rintro e' w2 ⟨rfl,txt1,rest1,at1,l,f7,h2,dc,Io,dB,hl,FP,FQ,am⟩;obtain⟨a2,c2,rfl,-⟩:=dc.rd.shape;have ak:=h2.cells;have aa:=Ext.Pa w2;have mY:=am.size;refine An$ R0 (λw'=>Kp (λb=>(Value.slice a2 l.length c2).ownBlock=some b) w2 w') O$ P8 0 O O (aa.kp)$ OM 1 O (Qd O) (aa.kp)$ OM 2 O (Px SZ O) (aa.kp)$ qT 3 O (λ_ h=>OS SL O O (h.OH ak (λe=>dB _ e aq.1)) O) (aa.kp)$ P8 4 O O (aa.kp)$ OM 5 O (XG O O ω) (aa.kp)$ P8 6 O O (aa.kp)$ OM 7 O (Qd O) (aa.kp)$ OM 8 O (Px SZ O) (aa.kp)$ qT 9 O (λ_ h=>OS SL O O (h.OH ak (λe=>dB _ e aq.1)) O) (aa.kp)$ OM 10 O (SI SL O) (aa.kp)$ OM 11 O (XG O O ω) (aa.kp) ?_;rw[show(512:Int)-12-(l.length:Int)=((500-l.length:Nat):Int) by omega];refine qO 12$ Xp (i:=12) O O O (ziS SL U3 U9 Y9 O O (dc.ext aa) ω) ?_;rintro v3 w3 ⟨de,av,qv⟩;refine⟨aa.kp.trans av,?_⟩;have Af:l.length+(500-l.length)=500:=by omega
   rw[Af,<-List.map_append] at de;obtain⟨a3,c3,rfl,-⟩:=de.rd.shape;have cJ:=aa.kp.trans av
   have fh:∀b,(Value.slice a3 500 c3).ownBlock=some b->¬X b:=λb hb e=>by
    rcases qv b hb with e2|e2
    ·exact dB b e2 e
    ·have:=hX b e;have:=aa.size;omega
   have fU:Sp Q txt1 (K+1) (λb=>X b\/(Value.slice a3 500 c3).ownBlock=some b) w3:=f7.step cJ (λb e=> .inr e) (λb e=>e.elim (λe=> .inl (.inl e)) (λe=>(qv b e).imp .inr (λe=>by have:=aa.size;omega)));have h3:=h2.kp cJ (λe=>dB _ e aq.1) (λe=>dB _ e aq.2.1) (λe=>dB _ e aq.2.2.1) (λe=>dB _ e aq.2.2.2);have au:=h3.cells;have cq:Kp (λb=>¬X b\/b=wb) w w3:=am.It cJ (λb e=> .inr (.inl (dB b e)));refine OM 13 O (Rv O) (aa.kp.trans av)$ qE$ QI O$ Pw O$ P4 WZ O$ P4 U8 O$ P4 R9 O$ qV (OS U3 O O au O)$ Rt O$ Pw O$ P4 YG O ?_;rw[show(len:Int)-1=((len-1:Nat):Int) by omega];refine OY O (QP Qe O O O au ξ) ?_;rintro w4 ⟨aM,ar⟩;have h4:=h3.re ar (show OU w4 wb (swC Q.s st len (.slice a2 l.length c2) (len-1) T.length sum (z1D bs bx bw) false) 181 from aM);have jQ:=fU.own ar (λb e=> .inl (by rw[e];exact aq.1));have eA:=de.kp ar (λb hb e=>fh b hb (by rw[e];exact aq.1));have fu:=h4.cells;have af:=Ext.Pa w4;have fN:=cq.trans (ar.ON λb e=>Or.inr e);have j3:=Qi 8 T.length;have fX:=Qi 4 sum;have uS:(l++zeros (500-l.length)).length=500:=by rw[List.length_append,show(zeros (500-l.length)).length=500-l.length by simp[zeros]];omega
   rw[List.length_append] at uS;refine OJ$ Pu.qb (e:=[(0,_),(6,_)]) ?_;refine An$ Pk [20,21] (λw'=>Ext w4 w') (by kernel_rfl) O$ PW 0 O O (af)$ Pr 1 O (Qd O) af$ Pr 2 O (Px z0j O) af$ qL 3 O (λ_ h=>OS U54 O O (h.OH fu) O) af$ PW 4 O O (af)$ PW 6 O O (af)$ Pr 7 O (Qd O) af$ Pr 8 O (Px z0h O) af$ qL 9 O (λ_ h=>OS U3 O O (h.OH fu) O) af$ Pr 10 O ((Qg O U3 Rw ω)) af$ PW 13 O O (af)$ Pr 14 O (Qd O) af ?_;refine Pr 15 O (Px z3m O) af$ qL 16 O (λ_ h=>OS QU O O (h.OH fu) O) af$ Pr 17 O (Qg O QU Rw ω) af$ qL 5 O (λ_ h=>zf1 (l:=l++zeros (500-l.length)) SL U5 U9 O (by rw[List.length_append,uS];exact eA.rd.ext h) (by rw[List.length_append];omega)) af ?_;refine Rf (i:=11) (by kernel_rfl)$ S0 (i:=11) O O O (yc zgH O) (ZK T.length 8 _ ω ω) ?_;rintro _ w5 ⟨rfl,aV⟩;refine⟨af.trans aV,?_⟩;refine Pr 12 O (Yb O O (by first|omega|(simp;done)|(simp;omega))) (af.trans aV) ?_;refine Rf (i:=18) (by kernel_rfl)$ S0 (i:=18) O O O (yc zgH O) (ZK sum 4 _ ω ω) ?_;rintro _ w6 ⟨rfl,aR⟩;refine⟨(af.trans aV).trans aR,?_⟩;have cS:=(af.trans aV).trans aR
   have mI:∀b,(X b\/(Value.slice a3 500 c3).ownBlock=some b)->b<w6.heap.size:=λb hb=>by
    have:=cS.size;have:=ar.size;have:=cJ.size;rcases hb with e| e
    ·have:=hX b e;omega
    ·have:=de.lt e;omega
   refine Pr 19 O (Yb O O (by first|omega|(simp;done)|(simp;omega))) ((af.trans aV).trans aR) ?_;refine Ty [20] ?_;have iz:(l++zeros (500-l.length)++Vl 8 T.length++Vl 4 sum).length=512:=by rw[List.length_append,List.length_append,List.length_append,uS,Qi,Qi]
   refine qO 20$ W7 (i:=20) O O O (RW zfn O O) (Zu (jQ.ext' cS) mI ω (h4.ext cS) ⟨.inl aq.1,.inl aq.2.1,.inl aq.2.2.1,.inl aq.2.2.2⟩ ω _ iz) ?_;rintro _ w7 ⟨rfl,sH,h7,aB⟩;refine⟨trivial,?_⟩;have bR:=h7.cells;refine OM 21 O (Rv O) trivial$ qE$ Pt O$ Pw O$ P4 YY O$ OY O (QP UH O O O bR ξ) ?_;rintro w8 ⟨cu,aL⟩;have pH:=(sH.own aL (λb e=> .inl (by rw[e];exact aq.1))).less (Y:=X) (λb e=> .inl e);refine OJ$ Pu.qb (e:=[(7,_)]) ?_;refine Pt O$ P3 O$ OI func53 O (⟨_,rfl,rfl,_,pH,λj hj=>?_,⟨l++zeros (500-l.length),?_,by rw[List.length_append,uS]⟩,λy hy=>?_,?_⟩)
   ·by_cases e:j=len-1
    ·subst e;refine⟨zeros (500-l.length)++Vl 8 T.length++Vl 4 sum,?_⟩;rw[Sa];show l++_++_++_=_;rw[<-hl,List.take_of_length_le ω];simp only[List.append_assoc]
    ·obtain⟨z,hz⟩:=FP j ω hj;exact⟨z,by rw[Rs _ _ ω];exact hz⟩
   ·rw[Sa];show _++_++_=_;unfold Xv;simp only[List.append_assoc]
   ·rw[Rs _ _ ω];exact FQ y hy
   ·refine((fN.trans cS.kp).It aB λb e=>?_).trans (aL.ON λb e=> .inr e);rcases e with e| e
    ·by_cases hb:X b
     ·exact absurd (.inl hb) e
     ·exact .inr (.inl hb)
    ·exact .inr (.inr e)
  case en=>
   refine Qk O (λgS=>?_)$ λgS=>?_
   ·have yB:=hq.1 gS;have hr:500<T.length%512/\T.length / 512=len-2/\2<=len:=by omega
    have bh:=Ext.Pa w1;refine An$ An$ Pk [17,18] (λw'=>Kp (λb=>(Value.slice a0 (T.length%512) c0).ownBlock=some b) w1 w') (by kernel_rfl) O$ PW 0 O O (bh.kp)$ Pr 1 O (Qd O) (bh.kp)$ Pr 2 O (Px z0j O) (bh.kp)$ qL 3 O (λ_ h=>OS U54 O O (h.OH ai (λe=>bD _ e aq.1)) O) (bh.kp)$ PW 4 O O (bh.kp)$ Pr 5 O (Qd O) (bh.kp)$ Pr 6 O (Px SZ O) (bh.kp)$ qL 7 O (λ_ h=>OS SL O O (h.OH ai (λe=>bD _ e aq.1)) O) (bh.kp)$ PW 8 O O (bh.kp)$ PW 9 O O (bh.kp)$ Pr 10 O (Qd O) (bh.kp) ?_;refine Pr 11 O (Px SZ O) (bh.kp)$ qL 12 O (λ_ h=>OS SL O O (h.OH ai (λe=>bD _ e aq.1)) O) (bh.kp)$ Pr 13 O (SI SL O) (bh.kp)$ Pr 14 O (XG O O ω) (bh.kp) ?_;rw[show(512:Int)-((T.length%512:Nat):Int)=((512-T.length%512:Nat):Int) by omega];refine Rf (i:=15) (by kernel_rfl)$ Qv (i:=15) O O O (ziS SL U3 U9 Y9 O O (jT.ext bh) ω) ?_;rintro v2 w2 ⟨dc,am,sZ⟩;refine⟨bh.kp.trans am,?_⟩;rw[show T.length%512+(512-T.length%512)=512 by omega,<-List.map_append] at dc;have uS:(T.drop (512*(T.length / 512))++zeros (512-T.length%512)).length=512:=by rw[List.length_append,List.length_drop,show(zeros (512-T.length%512)).length=512-T.length%512 by simp[zeros]];omega
    refine Rf (i:=16) (by kernel_rfl)$ zdu (i:=16) O O O (zf1 (l:=T.drop (512*(T.length / 512))++zeros (512-T.length%512)) SL U5 U9 O (by rw[uS];exact dc.rd) ω) (bh.kp.trans am) ?_;have bz:=bh.kp.trans am;have f7:Sp Q txt K X w2:=ik.step bz (λb e=> .inr e) (λb e=> .inl (.inl e));have h2:=h1.kp bz (λe=>bD _ e aq.1) (λe=>bD _ e aq.2.1) (λe=>bD _ e aq.2.2.1) (λe=>bD _ e aq.2.2.2);have mY:=bz.size;refine Ty [17]$ qO 17$ W7 (i:=17) O O O (RW zfn O O) (Zu f7 (λb hb=>by have:=hX b hb;omega) ω h2 aq ω _ uS) ?_;rintro _ w3 ⟨rfl,fU,h3,av⟩;refine⟨trivial,?_⟩;have au:=h3.cells;refine OM 18 O (Rv O) trivial$ qE$ Pt O$ QF O$ Qm O$ Rp O$ Pw O$ P4 SZ O$ OY O (QP z1X O O O au ξ) ?_;rintro w4 ⟨aM,ar⟩;have h4:=h3.re ar (show OU w4 wb (swC Q.s st len (.slice none 0 0) (T.length / 512+1) T.length sum (z1D bs bx bw) false) 181 from aM);have jQ:=fU.own ar (λb e=>by rw[e];exact aq.1);have ls:(T.drop (512*(T.length / 512))).take 512=T.drop (512*(T.length / 512)):=List.take_of_length_le (by rw[List.length_drop];omega);refine OJ$ Pu.qb (e:=[(0,_),(4,_)]) ?_;refine(ao _ _ ⟨rfl,_,.slice none 0 0,_,[],jQ.less (λb e=>e.elim id (λe=>by cases e)),h4,Sl.nil w4 _ 1,Nat.zero_le _,(λb e=>by cases e),(List.drop_of_length_le ω).symm,λj hj lA=>?_,λy hy=>?_,?_⟩).qb
    ·by_cases e:j=T.length / 512
     ·subst e;exact⟨zeros (512-T.length%512),by rw[Sa,ls];rfl⟩
     ·exact⟨[],by rw[Rs _ _ ω,List.append_nil];exact ja j ω⟩
    ·rw[Rs _ _ ω]
    ·refine((ad.kp.It bz λb e=> .inr (.inl (bD b e))).trans av).trans (ar.ON λb e=> .inr e)
   ·have yB:¬T.length / 512<len-1:=λe=>by rw[hq.2 e] at gS;cases gS
    have MB:T.length / 512=len-1:=by omega
    have eK:(T.drop (512*(T.length / 512))).length=T.length%512:=by rw[List.length_drop];omega
    refine OK ((ao _ _ ⟨rfl,txt,.slice a0 (T.length%512) c0,T.length / 512,T.drop (512*(T.length / 512)),ik.more ω,h1,by rw[eK];exact jT,ω,bD,by rw[MB],λj hj lA=>⟨[],by rw[List.append_nil];exact ja j ω⟩,λy hy=>rfl,ad.kp⟩).qb)
 case fW=>
  refine R0 (λw'=>Ext w w') O$ P8 0 O O (hg)$ OM 1 O (Qd O) hg$ OM 2 O (Px YG O) hg$ qT 3 O (λ_ h=>OS U3 O O (h.OH hB) O) hg$ P8 4 O O (hg)$ OM 5 O (Qd O) hg$ OM 6 O (Px WZ O) hg$ OM 7 O (Px U8 O) hg$ OM 8 O (Px R9 O) hg$ qT 9 O (λ_ h=>OS U3 O O (h.OH hB) O) hg$ OM 10 O (XG O O ω) hg ?_;rw[show(len:Int)-1=((len-1:Nat):Int) by omega];rcases Nat.lt_or_ge (T.length / 512) (len-1) with hq|hq
  ·refine OM 11 O (ylt O O) hg$ TN$ P8 12 O O (hg)$ P8 13 O O (hg)$ OM 14 O (Qd O) hg$ OM 15 O (Px SZ O) hg$ qT 16 O (λ_ h=>OS SL O O (h.OH hB) O) hg$ OM 17 O (SI SL O) hg$ OM 18 O (Y7 O O) hg$ TN$ OM 19 O (UG O O) hg$ qE$ Pu.qb (e:=[(0,_),(2,_),(4,_),(38,_)]) ?_;exact(aY _ _ ⟨true,rfl,⟨λ_=>hq,λ_=>rfl⟩,hg⟩).qb
  ·refine OM 11 O (ylt O O) hg$ TC$ P8 12 O O (hg)$ qJ 13 O (hg)$ qJ 14 O (hg)$ qJ 15 O (hg)$ qJ 16 O (hg)$ qJ 17 O (hg)$ qJ 18 O (hg)$ OM 19 O (U6 O O) hg$ qE$ Pu.qb (e:=[(0,_),(2,_),(4,_),(38,_)]) ?_;exact(aY _ _ ⟨false,rfl,⟨λe=>(by cases e),λe=>by omega⟩,hg⟩).qb
end
open Go.Shelf
def BdM (w:World)(b:Nat)(l:OO)(v:Value):Prop:=(∃p,(p= .pointer none\/p=ptr b 0)/\OU w b [p,v] 160)/\Sl w v 5 1 l.length (l.map Tz)/\v.ownBlock≠some b
section
variable {w w':World}{b:Nat}{l s:OO}{v:Value}{S':Nat->Prop}
def BdM.kp (h:BdM w b l v)(hk:Kp S' w w')(h1:¬S' b)(h2:∀g,v.ownBlock=some g->¬S' g):BdM w' b l v:=by
 obtain⟨⟨p,hp,hB⟩,hS,hn⟩:=h
 exact⟨⟨p,hp,hk.OH hB h1⟩,hS.kp hk h2,hn⟩
def BdM.new (h:OU w b [.pointer none,.slice none 0 0] 160):BdM w b [] (.slice none 0 0):=⟨⟨_,.inl O,h⟩,Sl.nil w _ 1,λe=>by cases e⟩
def OU.shape {cs:List Value}{T:TypeId}(h:OU w b cs T):w.shape? b=some (T,cs.length):=by
 obtain⟨fz,hb,-⟩:=h
 simp[World.shape?,hb]
def zao (h:BdM w b l v):Ps prog 110 [ptr b 0] w λr w'=>r= .tuple #[]/\BdM w' b l v/\Kp (λk=>k=b) w w':=by
 obtain⟨⟨p,hp,hB⟩,hS,hn⟩:=h
 rcases hp with rfl|rfl
 ·refine Calls.mono (Any.Builder_copyCheck_fresh {zfv with} zf2.toX72 b w (hB.cell 0) hB.shape (hB.free (i:=0) ξ)) λ_ _ ⟨he,hw⟩=>⟨_,he,rfl,?_,?_⟩
  ·rw[hw];have hk:=TD w b 0 (ptr b 0);exact⟨⟨_,.inr O,Wm hB 0 (ptr b 0)⟩,hS.kp hk (λg hg e=>hn (e▸hg)),hn⟩
  ·rw[hw];exact TD w b 0 _
 ·exact Calls.mono (Any.Builder_copyCheck_used {zfv with} zf2.toX72 b w (hB.cell 0)) λ_ _ ⟨he,hw⟩=>⟨_,he,rfl,by rw[hw];exact⟨⟨_,.inr O,hB⟩,hS,hn⟩,by rw[hw];exact Kp.refl _ _⟩
def zaW (h:BdM w b l v)(s:OO)(hl:l.length+s.length<=140737488355328):Ps prog 69 [ptr b 0,S s] w λ_ w'=>∃v',BdM w' b (l++s) v'/\Kp (λk=>k=b\/v.ownBlock=some k) w w'/\(∀g,v'.ownBlock=some g->v.ownBlock=some g\/w.heap.size<=g):=by
 refine py (e:=[(0,_),(1,_)]) func69 O ntmps69 O O$ qN O$ SH O$ R3 O$ Pb zfW O (zao h) ?_
 rintro _ w1 ⟨rfl,⟨⟨p,hp,ai⟩,jT,df⟩,az⟩
 have nz:=az.size
 have l1:=ai.lt
 refine qM O$ Pl O$ Pw O$ P4 z0g O$ qV (OS SL O O ai O)$ OT O$ OP O O (zhS SL U9 Y9 O O jT hl) ?_
 rintro v2 w2 ⟨dc,am,wL⟩
 have ak:=am.OH ai df
 have mY:=am.size
 have jM:v2.ownBlock≠some b:=λe=>by
  rcases wL b e with e| e
  ·exact df e
  ·omega
 refine Pw O$ P4 z0g O$ OY O (QP z1X O O (X8 dc) ak ξ) ?_
 rintro w3 ⟨au,av⟩
 refine qM O$ OT O$ qV (Wh U9 O)$ Qr O$ OI func69 O ?_
 rw[<-List.length_append,<-List.map_append] at dc
 refine⟨_,rfl,v2,⟨⟨p,hp,au⟩,dc.kp av (λg hg e=>jM (e▸hg)),jM⟩,((az.ON λk e=> .inl e).trans (am.ON λk e=> .inr e)).trans (av.ON λk e=> .inl e),λg hg=>(wL g hg).imp id λe=>by omega⟩
def z9d (w:World)(a:Addr)(n:Nat):Kp (λk=>k=a.block) w (w.freeze a n):=by
 by_cases h0:n=0
 ·subst h0;rw[show w.freeze a 0=w by simp[World.freeze]];exact Kp.refl _ w
 ·unfold World.freeze;rw[if_neg h0]
  exact⟨rfl,rfl,rfl,ξ,λk _ hn=>by
   simp only[Array.getElem?_modify]
   rw[if_neg (λh=>hn h.symm)]⟩
section
variable {P:Program}{e:Env}{d:Option Nat}{ty t it el:TypeId}{pos:String}{aft:Array Edge}{g:Option (Nat×Bool)}{x y:Operand}{n c:Nat}{a:Option Addr}
def zkt (hx:look e x=some (.slice a n c))(hc:a≠none->c≠0):Y P e ⟨d,.call ⟨.builtin .unsafeSliceData,#[x],#[t]⟩,ty,pos,aft,g⟩ (.pointer a) w w:=fun ρ hρ=>by
 have hr:∀w,(Builtin.unsafeSliceData_ #[t] ty #[.slice a n c]).run P w= .ok (.pointer a) w:=λw=>by
  cases a with
  |none=>rfl
  |some a=>exact Lib.run_unsafeSliceData_row (P:=P) w #[t] ty a n c (hc ξ)
 simp[execOp,resolve,invoke,builtin,hρ _ _ hx,hr]
theorem zk3 (hp:P.underlying t=some (.pointer el))(hc:P.cellsOf el=1)(hx:look e x=some (.pointer a))(hy:look e y=some (I (l.length:Int)))(hS:Sl w (.slice a l.length c) el 1 l.length (l.map Tz))(FH:l.length<=9223372036854775807)(h0:l=[]\/∃g,a=some ⟨g,0,none⟩):
  Yp P e ⟨d,.call ⟨.builtin .unsafeString,#[x,y],#[t,it]⟩,ty,pos,aft,g⟩ w λr w'=>r=S l/\Kp (λk=>(Value.slice a l.length c).ownBlock=some k) w w':=by
 by_cases hl:l=[]
 ·subst hl;have hr:=Lib.run_unsafeString_none (P:=P) w t it ty a;refine⟨_,w,fun ρ hρ=>?_,rfl,Kp.refl _ _⟩;have h1:=hρ _ _ hx;have h2:ρ y= .int .i64 0:=hρ _ _ hy;simp[execOp,resolve,invoke,builtin,h1,h2,hr]
  rfl
 ·obtain⟨b,rfl⟩:=h0.resolve_left hl;obtain⟨cur,jY,jJ,nx,aJ,nA⟩:=hS.row;have bj:=World.ownsRow.cells hS (g:=b) O;simp only[Nat.mul_one] at aJ nA
  have hr:=Lib.run_unsafeString_row (P:=P) w t it ty el hp hc b cur.length (by unfold UM at jY;simp[World.shape?,jY]) l hl ω FH (λj x hj=>by
   have:=bj j (Tz x) (by rw[List.getElem?_map,hj];rfl)
   exact this)
  refine⟨_,_,fun ρ hρ=>?_,rfl,(z9d w ⟨b,0,none⟩ l.length).ON λk e=>by rw[show k=b from e];rfl⟩;simp[execOp,resolve,invoke,builtin,hρ _ _ hx,hρ _ _ hy,hr]
end
def z9A (h:BdM w b l v)(h0:l=[]->v= .slice none 0 0)(hl:l.length<=140737488355328):Ps prog 70 [ptr b 0] w λr w'=>r=S l/\Kp (λk=>v.ownBlock=some k) w w':=by
 obtain⟨⟨p,hp,hB⟩,hS,hn⟩:=h
 obtain⟨a,c,rfl,ha⟩:=hS.rd.shape
 have hg:=Ext.Pa w
 have BC:l=[]\/∃g,a=some ⟨g,0,none⟩:=by
  rcases hS.shape with⟨e,h1⟩|⟨g,cap,e,h1⟩
  ·exact .inl (List.eq_nil_of_length_eq_zero h1)
  ·cases e;exact .inr ⟨g,rfl⟩
 have vT:a≠none->c≠0:=λe=>by
  by_cases tM:l=[]
  ·have:=h0 tM
   injection this with e1 _ _
   exact absurd e1 e
  ·have sB:l.length≠0:=by simpa using tM
   rcases hS.shape with⟨_,h1⟩|⟨g,cap,e2,h1⟩
   ·omega
   ·cases e2;omega
 refine py (e:=[(0,_)]) func70 O ntmps70 O O$ QN O$ An$ Pk [10,11] (λw'=>Ext w w') (by kernel_rfl) O$ PW 0 O O (hg)$ Pr 1 O (Qd O) hg$ Pr 2 O (Px z0g O) hg$ qL 3 O (λ_ h=>OS SL O O (h.OH hB) O) hg$ PW 5 O O (hg)$ Pr 6 O (Qd O) hg$ Pr 7 O (Px z0g O) hg$ qL 8 O (λ_ h=>OS SL O O (h.OH hB) O) hg$ Pr 9 O (SI SL O) hg$ Pr 4 O (zkt O vT) hg ?_
 refine Ty [10]$ qO 10$ Xp (i:=10) O O O (zk3 zkg (by kernel_rfl) O O (hS.ext hg) ω BC) ?_
 rintro _ w1 ⟨rfl,az⟩
 refine⟨trivial,?_⟩
 refine OM 11 O (Rv O) trivial$ qE$ OI func70 O ?_
 exact⟨_,rfl,rfl,hg.kp.trans az⟩
end
def srC (s st len n sum:Nat):List Value:=[ptr s 0,I (st:Int),I (len:Int),I (n:Int),U sum]
section
variable {w w':World}{Q:Rg}{txt:Int->OO}{K:Nat}{X:Nat->Prop}{st len n sum rb:Nat}{T:OO}
def z6c (hP:Sp Q txt K X w)(hX:∀b,X b->b<w.heap.size)(hK:K<1000000000000)(h1:1<=len)(ck:st+len<=Q.L.length)(hn:n<=len*512-12)(gR:sum<4294967296)(hf:∃z,txt ((st+(len-1):Nat):Int)=z++Xv n sum/\z.length=500):
  Ps prog 54 [ptr Q.s 0,.agg #[I (st:Int),I (len:Int)]] w λv w'=>∃rb,v= .tuple #[ptr rb 0,I 0]/\OU w' rb (srC Q.s st len n sum) 186/\w.heap.size<=rb/\Sp Q txt K (λb=>X b\/b=rb) w'/\Kp (λb=>¬X b) w w':=by
 have dX:=hP.n
 obtain⟨z,hz,xP⟩:=hf
 have iz:=z33 n sum
 refine py (e:=[(0,_),(1,_)]) func54 O ntmps54 O O$ qN O$ OP O O (R6 O (cs:=[I (st:Int),I (len:Int)]) O) ?_
 rintro _ w1 ⟨bx,rfl,fD,ad,jc⟩
 refine SH O$ R3 O$ qV (Pv (news:=[I (st:Int),I (len:Int)]) Xj O R4 O (jc.cells (n:=2) O) O)$ qV (Sh (cs:=[_,_,_]) Xy O zev O O)$ qV (Sh (cs:=[_,_,_,_,_]) zhG O ziR O O)$ OP O O (R6 O (cs:=[ptr Q.s 0,I (st:Int),I (len:Int),I 0,U 0]) O) ?_
 rintro _ w2 ⟨rb,rfl,If,ae,ak⟩
 have aF:=ad.trans ae
 have FS:=ae.OH jc
 have z1:=ad.size
 have z2:=ae.size
 have f7:Sp Q txt K (λb=>X b\/b=rb) w2:=hP.ext aF (λb e=>e.imp id λe=>by omega)
 refine P3 O$ PR O$ Pw O$ P4 YD O$ qV (Pv zcf O Xy O (OU.cells (n:=3) ak (news:=[_,_,_]) O) O)$ Pb zh0 O (z0c f7 h1 ck) ?_
 rintro _ w3 ⟨rfl,ah⟩
 have fU:=f7.ext' ah
 have au:=ah.OH ak
 have Ag:=ah.OH FS
 have z3:=ah.size
 have l2:=ak.lt
 have eJ:=fU.read (λb hb=>by
  rcases hb with e| e
  ·have:=hX b e;omega
  ·omega) hK (no:=((st+(len-1):Nat):Int)) ω ω
 rw[hz] at eJ
 refine R3 O$ QF O$ Qm O$ Pt O$ P4 QX O$ qV (OS U3 O O Ag O)$ P4 R9 O$ qV (OS U3 O O Ag O)$ Q4 O$ Rt O ?_
 rw[show(st:Int)+(len:Int)-1=((st+(len-1):Nat):Int) by omega]
 refine Pb zcj O (eJ) ?_
 rintro _ w4 ⟨rfl,jQ,ar⟩
 have aM:=ar.OH au (λe=>e (.inr O))
 refine OT O$ SM O$ Qr O$ Pu.qb (e:=[(4,_),(5,_),(6,_),(8,_),(9,_)]) ?_
 refine PR O$ QF O$ Qm O$ QI O$ qV (Wh U9 O) ?_
 rw[show((z++Xv n sum).length:Int)=512 by rw[List.length_append,iz,xP];rfl]
 refine Rt O ?_
 rw[show(512:Int)-12=((500:Nat):Int) by omega]
 refine qV (z1n (m:=500) U9 O O (by rw[List.length_append,iz,xP];omega)) ?_
 rw[show(z++Xv n sum).drop 500=Xv n sum from List.drop_left' xP]
 refine R3 O$ qV (z57 (m:=8) U9 O O (by rw[iz];omega)) ?_
 rw[show(Xv n sum).take 8=Vl 8 n from List.take_left' (Qi _ _)]
 have ta:PF (Pf (Vl 8 n))=n:=z3E ω
 have FT:PF (Pf (Vl 4 sum))=sum:=z3E ω
 have j3:=Qi 8 n
 have fX:=Qi 4 sum
 refine Pb zi9 O (z2H (Vl 8 n) ω _) ?_
 rintro _ w5 ⟨rfl,aV⟩
 rw[ta]
 have aK:=aV.OH aM
 have gU:=jQ.ext' aV
 refine P3 O$ An$ QI O$ Pw O$ P4 YD O$ qV (Pv zcf O Xy O (OU.cells (n:=3) aK (news:=[_,_,_]) O) O)$ Pb ziJ O (z0S gU ω) ?_
 rintro _ w6 ⟨rfl,aR⟩
 have aX:=aR.OH aK
 have nt:=gU.ext' aR
 refine qV ((Qg O U3 Rw ω))$ QD O$ PO$ OJ$ Pu.qb (e:=[(4,_),(5,_),(6,_),(10,_),(11,_),(54,_)]) ?_
 refine SO O$ QI O$ OT O$ qV (PQ O Rw U3 ω)$ OT O$ qV (z1n (m:=8) U9 O O (by rw[iz];omega)) ?_
 rw[show(Xv n sum).drop 8=Vl 4 sum from List.drop_left' (Qi _ _)]
 refine Pb zi9 O (z2H (Vl 4 sum) ω _) ?_
 rintro _ w7 ⟨rfl,cm⟩
 rw[FT]
 have bR:=cm.OH aX
 refine qV (z4T O Rw QU)$ Pw O$ P4 z0k O$ OY O (QP Qe O O O bR ξ) ?_
 rintro w8 ⟨cu,aL⟩
 replace cu:OU w8 rb [ptr Q.s 0,I (st:Int),I (len:Int),I (n:Int),U 0] 186:=cu
 refine Pw O$ P4 zcU O ?_
 rw[Nat.mod_eq_of_lt (show sum<2^32 by omega)]
 refine OY O (QP Pc O O O cu ξ) ?_
 rintro w9 ⟨cK,aw⟩
 refine qM O$ OT O$ Qr O$ OI func54 O ?_
 have pQ:=(((nt.ext' cm).own aL (λb e=> .inr e)).own aw (λb e=> .inr e))
 refine⟨_,rfl,rb,rfl,cK,ω,pQ,?_⟩
 have FU:Kp (λb=>¬X b) w w4:=((aF.trans ah).kp (S:=λb=>¬X b)).trans (ar.ON λb e e2=>e (.inl e2))
 refine(((FU.trans (aV.trans (aR.trans cm)).kp).It aL λb e=> .inl ω).It aw λb e=> .inl ω)
def z9e (hB:OU w rb (srC Q.s st len n sum) 186):Ps prog 279 [ptr rb 0] w λv w'=>v=I (n:Int)/\w'=w:=by
 replace hB:OU w rb [ptr Q.s 0,I (st:Int),I (len:Int),I (n:Int),U sum] 186:=hB
 refine py (e:=[(0,_)]) func279 O ntmps279 O O$ QN O$ PR O$ qV (Qb zd6 O O)$ Qm O$ Pt O$ Pw O$ P4 z0k O$ qV (OS U3 O O hB O)$ P3 O$ OI func279 O ?_
 exact⟨_,rfl,rfl,rfl⟩
def zaZ (hP:Sp Q txt K (λb=>X b\/b=rb) w)(hX:∀b,X b->b<w.heap.size)(uT:¬X rb)(hK:K<1000000000000)(ck:st+len<=Q.L.length)(hL:Laid txt st T)(hB:OU w rb (srC Q.s st len T.length sum) 186)(hT:T.length<=len*512)(off n:Nat)(ho:off+n<=T.length):
  Ps prog 280 [ptr rb 0,I (off:Int),I (n:Int)] w λv w'=>v= .tuple #[S ((T.drop off).take n),I 0]/\Sp Q txt K (λb=>X b\/b=rb) w'/\OU w' rb (srC Q.s st len T.length sum) 186/\Kp (λb=>¬X b) w w':=by
 have dX:=hP.n
 have lrb:=hB.lt
 replace hB:OU w rb [ptr Q.s 0,I (st:Int),I (len:Int),I (T.length:Int),U sum] 186:=hB
 refine py (e:=[(0,_),(1,_),(2,_)]) func280 O ntmps280 O O$ qN O$ Qr O$ QO$ Pt O$ qV (Qb zd6 O O)$ P3 O$ OR O$ Pt O$ QV O$ PO$ Pl O$ QV O$ PO ?_
 refine PT O$ Pl O$ OT O$ Pw O$ P4 z0k O$ qV (OS U3 O O hB O)$ QD O$ PO$ PT O$ Pl O$ OT O$ Pw O$ P4 z0k O$ qV (OS U3 O O hB O) ?_
 refine OT O$ Rt O$ QD O$ PO$ PT O$ P3 O$ Pu.qb (e:=[(0,_),(1,_),(2,_),(6,_),(7,_),(15,_)]) ?_
 refine SO O$ OG$ Pt O$ Pw O$ P4 YD O$ P4 Va O$ qV (OS XB O O hB O)$ Pb z3J O (hP.size) ?_
 rintro _ w ⟨rfl,rfl⟩
 refine QW O$ OP O O (Rz (cs:=[_,_]) zhK O) ?_
 rintro _ w1 ⟨bb,rfl,tq,ad,su⟩
 have FW:=BdM.new su
 have z1:=ad.size
 refine OJ$ QO$ RN (α:=Nat×Value) ((0,Value.slice none 0 0)) (λy=>[(0,ptr rb 0),(1,I ((off+y.1:Nat):Int)),(2,I ((n-y.1:Nat):Int)),(8,I 512),(9,ptr bb 0)]) (λy w'=>y.1<=n/\BdM w' bb ((T.drop off).take y.1) y.2/\(y.1=0->y.2= .slice none 0 0)/\(∀g,y.2.ownBlock=some g->w.heap.size<=g)/\Sp Q txt K (λb=>(X b\/b=rb)\/b=bb\/y.2.ownBlock=some b) w'/\Kp (λb=>¬(X b\/b=rb)) w w') (λy=>n-y.1) ?hI ?hround
 case hI=>exact⟨Nat.zero_le _,FW,λ_=>rfl,λg hg=>(by cases hg),hP.ext ad (λb e=>e.imp id λe=>e.elim (λe=>by omega) (λe=>by cases e)),ad.kp⟩
 case hround=>
  rintro⟨m,v⟩ w2 ⟨hm,sA,J3,kV,f7,am⟩ ih;dsimp only at hm sA J3 kV f7 ih⊢;have ak:=am.OH hB (λe=>e (.inr O));have hg:=Ext.Pa w2;have z2:=am.size;have lbb:bb<w2.heap.size:=by obtain⟨⟨p,hp,hb⟩,-,-⟩:=sA;exact hb.lt
  have pV:∀b,((X b\/b=rb)\/b=bb\/v.ownBlock=some b)->b<w2.heap.size:=λb hb=>by
   rcases hb with(e|e)|e| e
   ·have:=hX b e;omega
   ·omega
   ·omega
   ·exact sA.2.1.lt e
  try dsimp only
  refine PR O$ QD O$ OJ$ OX O (λh0=>?_)$ λh0=>?_
  ·obtain⟨q,hq⟩:∃q,min (n-m) (512-(off+m)%512)=q:=⟨_,rfl⟩;have f9:=f7.z0M (x:=((st+(off+m) / 512:Nat):Int)) ω ω;have lX:=hL.piece (off:=off+m) (n:=q) ω ω;have eJ:=(f7.ext' hg).read (λb hb=>by have:=pV b hb;have:=hg.size;omega) hK (no:=((st+(off+m) / 512:Nat):Int)) ω ω;obtain⟨t,ht⟩:∃t,txt ((st+(off+m) / 512:Nat):Int)=t:=⟨_,rfl⟩;rw[ht] at f9 lX eJ;refine OK$ OL$ An$ R0 (λw'=>Kp (λb=>¬((X b\/b=rb)\/b=bb\/v.ownBlock=some b)) w2 w') O$ P8 0 O O (hg.kp)$ OM 1 O (Qd O) (hg.kp)$ OM 2 O (Px YD O) (hg.kp)$ OM 3 O (Px Va O) (hg.kp)$ qT 4 O (λ_ hS=>OS XB O O (hS.OH ak (λe=>e (.inl (.inr O)))) O) (hg.kp)$ P8 5 O O (hg.kp)$ OM 6 O (Qd O) (hg.kp)$ OM 7 O (Px YD O) (hg.kp)$ OM 8 O (Px U8 O) (hg.kp)$ OM 9 O (Px QX O) (hg.kp) ?_;refine qT 10 O (λ_ hS=>OS U3 O O (hS.OH ak (λe=>e (.inl (.inr O)))) O) (hg.kp)$ P8 11 O O (hg.kp)$ P8 12 O O (hg.kp)$ OM 13 O (WX O O ω) (hg.kp)$ OM 14 O (UN O O ω) (hg.kp) ?_;rw[show(st:Int)+((off+m:Nat):Int) / 512=((st+(off+m) / 512:Nat):Int) by omega];refine S1 15 O zcj O (eJ) ?_;rintro _ w3 ⟨rfl,fU,av⟩;refine⟨hg.kp.trans av,?_⟩;have cJ:=hg.kp.trans av;have FX:=sA.kp cJ (λe=>e (.inr (.inl O))) (λg hg e=>e (.inr (.inr hg)));refine P8 16 O O (hg.kp.trans av)$ OM 17 O (Ry O O) (hg.kp.trans av)$ OM 18 O (Ry O O) (hg.kp.trans av)$ OM 19 O (Rv O) (hg.kp.trans av)$ OM 20 O (Rv O) (hg.kp.trans av)$ qE$ PR O$ QF O$ Qm O$ QI O$ OT O$ qV (yre O O ω) ?_;rw[show((off+m:Nat):Int)%512=(((off+m)%512:Nat):Int) by omega];refine qV (z1n U9 O O ω)$ QW O$ Pl O$ OT O$ qV (Wh U9 O)$ qV (ymi O O) ?_;rw[show min ((n-m:Nat):Int) ((t.drop ((off+m)%512)).length:Int)=((q:Nat):Int) by rw[List.length_drop];omega];refine qV (z57 (m:=q) U9 O O (by rw[List.length_drop];omega)) ?_;rw[lX];have E3:((T.drop (off+m)).take q).length=q:=by rw[List.length_take,List.length_drop];omega
   have ip:((T.drop off).take m).length<=m:=by rw[List.length_take];omega
   refine R3 O$ Pb zjw O (zaW FX ((T.drop (off+m)).take q) ω) ?_;rintro _ w4 ⟨v4,FY,ar,vW⟩;have z3:=cJ.size;refine qM O$ Pl O$ qV (Wh U9 O) ?_;rw[E3];refine Q4 O$ P3 O$ OQ O$ Pl O$ qV (Wh U9 O) ?_;rw[E3];refine Rt O$ P3 O$ OG ?_;rw[show((off+m:Nat):Int)+(q:Int)=((off+(m+q):Nat):Int) by omega,show((n-m:Nat):Int)-(q:Int)=((n-(m+q):Nat):Int) by omega];refine(ih (m+q,v4) _ ⟨by dsimp only;omega,?_,λe=>by dsimp only at e;omega,λg hg=>(vW g hg).elim (kV g) (λe=>by omega),?_,?_⟩ (by dsimp only;omega)).qb
   ·dsimp only;rw[List.take_add,List.drop_drop];exact FY
   ·exact fU.step ar (λb e=> .inr e) (λb e=>by
     rcases e with e|e| e
     ·exact .inl (.inl e)
     ·exact .inl (.inr (.inl e))
     ·exact(vW b e).imp (λe=> .inr (.inr e)) id)
   ·refine(am.trans (cJ.ON λb e e2=>e (.inl e2))).It ar λb e=> .inl ?_;rcases e with e| e
    ·omega
    ·exact kV b e
  ·have BM:m=n:=by omega
   subst BM;refine OV O$ qN O$ Pb zjs O (z9A sA (λe=>J3 (by have:=congrArg List.length e;rw[List.length_take,List.length_drop,List.length_nil] at this;omega)) (by rw[List.length_take,List.length_drop];omega)) ?_;rintro _ w3 ⟨rfl,av⟩;refine Qr O$ OI func280 O ?_;have cq:Kp (λb=>¬(X b\/b=rb)) w w3:=am.It av (λb e=> .inl (kV b e));exact⟨_,rfl,rfl,f7.step av (λb e=> .inr (.inr e)) (λb e=> .inl (.inl e)),cq.OH hB (λe=>e (.inr O)),cq.ON λb e e2=>e (.inl e2)⟩
end
section
variable {t:TypeId}{u:Value}{p:Qq}{g:List (List Nat)}{E:List (Nat×Nat)}{R:Src t u (Xt p g E)}{k x:Nat}{X Y:Nat->Prop}{w w':World}
def z6T (k v:Nat)(w:World):Ps prog 140 [ptr k 0,I (v:Int)] w λr w'=>∃bk bi,r= .func (.func 170) #[] #[ptr bk 0,ptr bi 0]/\OU w' bk [ptr k 0] 28/\OU w' bi [I (v:Int)] 3/\w.heap.size<=bk/\w.heap.size<=bi/\Ext w w':=by
 refine py (e:=[(0,_),(1,_)]) func140 O ntmps140 O O$ qN O$ OP O O (R6 O (cs:=[ptr k 0]) O) ?_
 rintro _ w1 ⟨bk,rfl,fB,ad,wm⟩
 refine OP O O (R6 O (cs:=[I (v:Int)]) O) ?_
 rintro _ w2 ⟨bi,rfl,wP,ae,FZ⟩
 refine QW O$ qV (ZR (first:=[]) (caps:=[.tmp 2,.tmp 3]) O O)$ P3 O$ OI func140 O ?_
 have:=ad.size
 exact⟨_,rfl,bk,bi,rfl,ae.OH wm,FZ,ω,ω,ad.trans ae⟩
def z6j {l bk bi v:Nat}(jq:g.length<50)(hv:v<g.length)(h:UK R k x X w)(fB:OU w bk [ptr k 0] 28)(wP:OU w bi [I (v:Int)] 3)(Z:Nat->Prop)(hZ:∀j,Z j->X j)(J:(Nat->Prop)->Nat->World->Prop)(F:World->Prop)
  (h0:∀(Y:Nat->Prop) (w':World),(∀j,X j->Y j)->(∀j,Y j->X j\/w.heap.size<=j)->UK R k x Y w'->Kp (λj=>¬X j) w w'->J Y 0 w')
  (hround:∀(Y:Nat->Prop) (i s:Nat) (w':World),(∀j,X j->Y j)->(∀j,Y j->X j\/w.heap.size<=j)->(P5 g v)[i]? =some s->J Y i w'->z26 prog l [PD s,I 0] w' λr w''=>(r= .bool true/\J Y (i+1) w''/\Kp (λj=>¬Y j\/Z j) w' w'')\/(r= .bool false/\F w'')):
  Ps prog 170 [.func (.yield l) #[] #[],ptr bk 0,ptr bi 0] w λr w'=>r= .tuple #[]/\((∃Y,(∀j,X j->Y j)/\(∀j,Y j->X j\/w.heap.size<=j)/\J Y (P5 g v).length w')\/F w'):=by
 have aS:=h.lt
 have fL:(P5 g v).length<=g.length:=by
  unfold P5;rw[List.getElem?_eq_getElem hv];exact h.ok.gr.len (List.getElem_mem hv)
 refine py (e:=[(0,_),(1,_),(2,_)]) func170 O ntmps170 O O$ qN O$ qV ((OS Z8 O O fB O))$ qV ((OS U3 O O wP O))$ Pb zfV O (z5B jq hv h) ?_
 rintro _ w1 ⟨vv,rfl,jT,j0,h1,az⟩
 have eJ:=jT.rd
 obtain⟨a,c,rfl,ha⟩:=eJ.shape
 refine OT O$ qV (Ry (v:= .slice a (P5 g v).length c) O O)$ qV (Ry (v:=I 0) O O)$ Qr O$ PR O$ QF O$ Qm O$ Pt O$ RO Pz O$ OT O$ OJ$ OL ?_
 obtain⟨Y,hY⟩:∃Y:Nat->Prop,(λj=>X j\/(Value.slice a (P5 g v).length c).ownBlock=some j)=Y:=⟨_,rfl⟩
 rw[hY] at h1
 have aH:∀j,X j->Y j:=λj hj=>by rw[<-hY];exact .inl hj
 have kW:∀j,Y j->X j\/w.heap.size<=j:=λj hj=>by
  rw[<-hY] at hj;exact hj.imp id (j0 j)
 have J4:∀j,(Value.slice a (P5 g v).length c).ownBlock=some j->Y j/\¬Z j:=λj hj=>⟨by rw[<-hY];exact .inr hj,λe=>by have h2:=j0 j hj;have h3:=aS j (hZ j e);omega⟩
 refine RN (α:=Nat) (0) (λi=>[(0,.func (.yield l) #[] #[]),(19,.slice a (P5 g v).length c),(20,I ((P5 g v).length:Int)),(21,I (i:Int))]) (λi w'=>i<=(P5 g v).length/\J Y i w'/\Rd w' (.slice a (P5 g v).length c) 1 (P5 g v).length ((P5 g v).map PD)) (λi=>(P5 g v).length-i) ?hI ?hround
 case hI=>exact⟨Nat.zero_le _,h0 Y w1 aH kW h1 az,eJ⟩
 case hround=>
  rintro i w2 ⟨hi,hJ,Ah⟩ ih
  try dsimp only
  refine qN O$ QV O$ OJ$ An$ OX O (λhq=>?_)$ λhq=>?_
  ·obtain⟨s,hs⟩:∃s,(P5 g v)[i]? =some s:=⟨_,List.getElem?_eq_getElem ω⟩;rcases Ah.2 with⟨⟨ca,cc⟩,jg,wG⟩|⟨b,off,cap,jg,hc⟩
   ·omega
   cases jg;have bj:w2.cell? ⟨b,off+i*1,none⟩=some (PD s):=hc (i*1) _ (by rw[Nat.mul_one,List.getElem?_map,hs];rfl);refine OK$ QO$ qN O$ qV (Qc Pz Pc O O ω)$ qV (PC QU O O bj)$ QW O$ Pl O$ z3F O O (yy O O) (hround Y i s w2 aH kW hs hJ) ?_;rintro r w3 fV;rcases fV with⟨rfl,MC,av⟩|⟨rfl,hF⟩
   ·refine qV ((S5 O))$ Qm O$ OG$ OQ O$ Q4 O$ OT O$ OJ ?_;exact(ih (i+1) _ ⟨ω,MC,Ah.kp av (λj hj e=>e.elim (λe=>e (J4 j hj).1) (J4 j hj).2)⟩ ω).qb
   ·refine qV ((S5 O))$ OJ$ OZ O$ OI func170 O ?_;exact⟨_,rfl,rfl,.inr hF⟩
  ·have dq:i=(P5 g v).length:=by omega
   subst dq;refine OV O$ Qh func170 O ?_;exact⟨_,rfl,rfl,.inl ⟨Y,aH,kW,hJ⟩⟩
end
structure StO (Q:Rg)(txt:Int->OO)(K st len:Nat)(T:OO):Prop where
 k:K<1000000000000
 fit:st+len<=Q.L.length
 laid:Laid txt st T
 len:T.length<=len*512
def z6l {Q:Rg}{txt:Int->OO}{K st len:Nat}{T:OO}(o:StO Q txt K st len T)(rb sum:Nat):Src 124 (ptr rb 0) T where
 inv X w:=Sp Q txt K (λb=>X b\/b=rb) w/\OU w rb (srC Q.s st len T.length sum) 186/\¬X rb
 fl:=279
 fr:=280
 cl:=zhP
 cr:=zh4
 ml:=by kernel_rfl
 mr:=by kernel_rfl
 ext:=λh hx hY=>⟨h.1.ext hx λb e=>e.elim (λe=>(hY b e).elim (λe=> .inl (.inl e)) .inr) (λe=> .inl (.inr e)),hx.OH h.2.1,λe=>(hY _ e).elim h.2.2 (λe=>by have:=h.2.1.lt;omega)⟩
 step:=λh hk hS hY=>⟨h.1.step hk (λb e=> .inl (hS b e)) λb e=>e.elim (λe=>(hY b e).elim (λe=> .inl (.inl e)) .inr) (λe=> .inl (.inr e)),hk.OH h.2.1 (λe=>h.2.2 (hS _ e)),λe=>(hY _ e).elim h.2.2 (λe=>by have:=h.2.1.lt;omega)⟩
 len:=λh=>(z9e (Q:=Q) h.2.1).mono λv w' ⟨hv,hw⟩=>⟨hv,by rw[hw];exact Ext.refl _⟩
 rd:=λoff n h hX BA=>(zaZ h.1 hX h.2.2 o.k o.fit o.laid h.2.1 o.len off n BA).mono λv w' ⟨hv,h1,h2,h3⟩=>⟨hv,⟨h1,h2,h.2.2⟩,h3⟩
section
variable {t:TypeId}{u:Value}{p:Qq}{g:List (List Nat)}{E:List (Nat×Nat)}{k x:Nat}{X S:Nat->Prop}{w w':World}
def UK.re {R R':Src t u (Xt p g E)}(h:UK R k x X w)(hk:Kp S w w')(hS:∀j,S j->j≠k/\j≠x/\j≠1/\j≠2)(hI:R'.inv X w'):UK R' k x X w':=
 ⟨h.ok,hk.OH h.OH (λe=>(hS _ e).1 O),hk.OH h.ix (λe=>(hS _ e).2.1 O),h.xk,h.xx,hI,λj hj=>by have:=h.lt j hj;have:=hk.size;omega,h.x1,h.x2,hk.OH h.gam (λe=>(hS _ e).2.2.1 O),hk.OH h.una (λe=>(hS _ e).2.2.2 O)⟩
def z6F {Q:Rg}{txt:Int->OO}{K st len rb sum:Nat}(hp:T2 p g E)(o:StO Q txt K st len (Xt p g E))(hI:(z6l o rb sum).inv X w)(hX:∀j,X j->j<w.heap.size)(x1:X 1)(x2:X 2)(hG:OU w 1 (Sq .gamma) 294)(hU:OU w 2 (Sq .unary) 294):
  Ps prog 55 [ptr rb 0] w λv w'=>∃k x,v= .tuple #[ptr k 0,I 0]/\w.heap.size<=k/\w.heap.size<=x/\UK (z6l o rb sum) k x (λj=>X j\/j=x\/j=k) w'/\Kp (λj=>¬X j) w w':=by
 refine py (e:=[(0,_)]) func55 O ntmps55 O O$ qN O$ Qr O$ PR O$ qV (Qb zd6 O O)$ Qm O$ Pt O$ qV (zhA zd6 (λ_ h=>by cases h) rfl) ?_
 refine Pb zjN O (z73 hp (z6l o rb sum) hI hX) ?_
 rintro _ w1 ⟨k,x,rfl,ai,ak,hx,hk,bD,mE,az⟩
 refine SM O$ Qr O$ OI func55 O ?_
 have z1:=az.size
 have l1:=ai.lt
 have l2:=ak.lt
 refine⟨_,rfl,k,x,rfl,hk,hx,⟨hp,ai,ak,.inr (.inr O),.inr (.inl O),mE,λj hj=>?_,.inl x1,.inl x2,az.OH hG (λe=>e x1),az.OH hU (λe=>e x2)⟩,az⟩
 rcases hj with e|e| e
 ·have:=hX j e;omega
 ·omega
 ·omega
end
theorem zdm {n each:Nat}(he:1<=each):max (1:Int) (((n:Int)+(each:Int)-1) / (each:Int))=((VD n each:Nat):Int):=by
 unfold VD
 rw[show(n:Int)+(each:Int)-1=((n+each-1:Nat):Int) by omega]
 have h:((n+each-1:Nat):Int) / (each:Int)=(((n+each-1) / each:Nat):Int):=rfl
 rw[h]
 generalize (n+each-1) / each=q
 omega
section
variable {w w':World}{Q:Rg}{txt:Int->OO}{vb width st each n:Nat}{xs:List Nat}
abbrev shV (n width each:Nat):Value:= .agg #[I (n:Int),I (width:Int),I (each:Int)]
def YQ (n width each:Nat)(he:1<=each/\each<=512)(hn:n<=4194304)(w:World):Ps prog 57 [shV n width each] w λv w'=>v=I (VD n each:Int)/\Ext w w':=by
 refine py (e:=[(0,_)]) func57 O ntmps57 O O$ qN O$ OP O O (R6 O (cs:=[I (n:Int),I (width:Int),I (each:Int)]) O) ?_
 rintro _ w1 ⟨b1,rfl,bK,ad,ai⟩
 refine QW O$ P4 z2P O$ qV (OS U3 O O ai O)$ P4 YW O$ qV (OS U3 O O ai O)$ Q4 O$ Rt O$ P4 YW O$ qV (OS U3 O O ai O)$ qV (WX O O ω)$ qV (yma O O)$ P3 O ?_
 rw[zdm he.1]
 refine OI func57 O ?_
 exact⟨_,rfl,rfl,ad⟩
def z1q (n width each x:Nat)(hw:width=1\/width=2\/width=4\/width=8)(hx:x<2^(8*width))(w:World):Ps prog 60 [shV n width each,P7 x] w λv w'=>v= .bool true/\Ext w w':=by
 refine py (e:=[(0,_),(1,_)]) func60 O ntmps60 O O$ qN O$ OP O O (R6 O (cs:=[I (n:Int),I (width:Int),I (each:Int)]) O) ?_
 rintro _ w1 ⟨b1,rfl,bK,ad,ai⟩
 refine QW O$ P4 VU O$ qV (OS U3 O O ai O) ?_
 by_cases h8:width=8
 ·refine Rk O$ RP$ OT O$ QY$ QY$ QY$ Ra O$ P3 O$ OI func60 O ?_;exact⟨_,rfl,rfl,ad⟩
 ·have MD:8*width<=32:=by omega
  have hp:1*2^(8*width)%18446744073709551616=2^(8*width):=by
   have:=Nat.pow_le_pow_right (show 0<2 by decide) MD;rw[Nat.one_mul,Nat.mod_eq_of_lt ω]
  refine Rk O$ PO$ Pl O$ P4 VU O$ qV (OS U3 O O ai O)$ qV (Y8 O O ω) ?_;rw[show(8:Int)*(width:Int)=((8*width:Nat):Int) by omega];refine qV (Rj (8*width) (2^(8*width)) O O ω O) ?_;rw[hp]
  generalize 2^(8*width)=P at hx⊢
  refine QV O$ RP$ PT O$ P3 O$ OI func60 O ?_;exact⟨_,rfl,rfl,ad⟩
def Y4 (n width each x:Nat)(hw:width<=8)(hx:x<18446744073709551616)(w:World):Ps prog 62 [shV n width each,P7 x] w λv w'=>v=S (Vl width x)/\Ext w w':=by
 have fA:maxLen=9223372036854775807:=rfl
 refine py (e:=[(0,_),(1,_)]) func62 O ntmps62 O O$ qN O$ OP O O (R6 O (cs:=[I (n:Int),I (width:Int),I (each:Int)]) O) ?_
 rintro _ w0 ⟨b0,rfl,zv,jS,jL⟩
 refine QW O$ P4 VU O$ qV (OS U3 O O jL O)$ OP O O (pmk (c:=width) (n:=width) SL Y9 O O O ω ω ω) ?_
 rintro _ w1 ⟨b1,rfl,⟨bK,ad,ai⟩,-⟩
 refine P3 O$ PR O$ RO SL O$ OT O$ OJ$ OL ?_
 rw[<-z2y x width] at ai
 have l0:=jL.lt
 refine RN (α:=Nat) (0) (λk=>[(1,P7 x),(2,ptr b0 0),(5,.slice (some ⟨b1,0,none⟩) width width),(11,I (width:Int)),(12,I (k:Int))]) (λk w'=>k<=width/\OU w' b1 (z0N x width k) 5/\OU w' b0 [I (n:Int),I (width:Int),I (each:Int)] 141/\Ext w0 w') (λk=>width-k) ?hI ?hround
 case hI=>exact⟨ω,ai,ad.OH jL,ad⟩
 case hround=>
  rintro k w2 ⟨hk,ak,Ai,ae⟩ ih
  try dsimp only
  refine qN O$ QV O$ OJ$ An$ OX O (λaS=>?_)$ λaS=>?_
  ·have FG:k<width:=by omega
   refine OK$ QO$ Pt O$ P3 O$ OQ O$ Pl O$ OT O$ P4 VU O$ qV (OS U3 O O Ai O)$ Rt O$ OT O$ Rt O$ qV (Y8 O O ω) ?_;rw[show(8:Int)*(((width:Int)-1)-(k:Int))=((8*(width-1-k):Nat):Int) from by omega];refine qV (Us (8*(width-1-k)) (2^(8*(width-1-k))) O O (by simp only[IntKind.bits];omega) O) ?_;refine qV (zcR O Rw U5)$ qV (Qc SL Y9 O O ω)$ OY O (QP Y9 O O O ak (by simp;omega)) ?_;rintro w3 ⟨au,av⟩;rw[z5j x width k FG] at au;refine OJ$ OG$ OQ O$ Q4 O$ OT O$ OJ ?_;exact(ih (k+1) w3 ⟨ω,au,av.OH Ai ω,ae.It av (λi hi=>by rw[hi,bK];exact Nat.le_refl _)⟩ ω).qb
  ·have:k=width:=by omega
   subst this;rw[z3V] at ak;refine OV O$ Pt O$ qV (z9H (l:=Vl k x) SL U5 U9 O ak (by rw[List.drop_zero];exact List.take_of_length_le (by rw[List.length_map,Qi];omega)) (by simp[Vl])) ?_;refine P3 O$ OI func62 O ?_;exact⟨_,rfl,rfl,jS.trans ae⟩
def UY (h:Un Q txt vb width st xs w):Ps prog 59 [ptr vb 0] w λv w'=>v=I 0/\w'=w:=by
 have hB:=h.cells
 refine py (e:=[(0,_)]) func59 O ntmps59 O O$ QN O$ QO$ Pt O$ qV (Qb Zj O O)$ P3 O$ OR O$ Pt O$ Pw O$ P4 z8d O$ qV (OS U4 O O hB O)$ P3 O$ SO O$ OG ?_
 refine QN O$ OI func59 O ?_
 exact⟨_,rfl,rfl,rfl⟩
theorem z52 (h:Un Q txt vb width st xs w){i:Nat}(hi:i<xs.length)(hn:Q.L.length<=4096):Ps prog 72 [ptr vb 0,I (i:Int)] w λv w'=>v= .tuple #[I ((st+i / (512 / width):Nat):Int),I ((i%(512 / width)*width:Nat):Int)]/\Ext w w':=by
 have hB:=h.cells
 have hg:=Ext.Pa w
 obtain⟨e1,e2,e3,e4,e5⟩:=h.e
 obtain⟨a1,a2,a3⟩:=h.at_ hi
 have oI:=h.n
 have hd:((i:Nat):Int) / ((512 / width:Nat):Int)=((i / (512 / width):Nat):Int):=rfl
 have hm:((i:Nat):Int)%((512 / width:Nat):Int)=((i%(512 / width):Nat):Int):=rfl
 have Fh:((i%(512 / width):Nat):Int)*(width:Int)=((i%(512 / width)*width:Nat):Int):=by rw[Int.natCast_mul]
 have lM:(st:Int)+((i / (512 / width):Nat):Int)=((st+i / (512 / width):Nat):Int):=by rw[Int.natCast_add]
 generalize i / (512 / width)=q at*
 generalize i%(512 / width)=r at*
 generalize 512 / width=each at*
 refine py (e:=[(0,_),(1,_)]) func72 O ntmps72 O O$ qN O$ Qr O$ An$ R0 (λw'=>Ext w w') O$ P8 0 O O (hg)$ OM 1 O (Qd O) hg$ OM 2 O (Px z0i O) hg$ OM 3 O (Px QX O) hg$ qT 4 O (λ_ h=>OS U3 O O (h.OH hB) O) hg$ P8 5 O O (hg)$ P8 6 O O (hg)$ OM 7 O (Qd O) hg$ OM 8 O (Px Se O) hg ?_
 refine OM 9 O (Px YW O) hg$ qT 10 O (λ_ h=>OS U3 O O (h.OH hB) O) hg$ P8 13 O O (hg)$ P8 14 O O (hg)$ OM 15 O (Qd O) hg$ OM 16 O (Px Se O) hg$ OM 17 O (Px YW O) hg$ qT 18 O (λ_ h=>OS U3 O O (h.OH hB) O) hg$ P8 20 O O (hg)$ OM 21 O (Qd O) hg$ OM 22 O (Px Se O) hg$ OM 23 O (Px VU O) hg$ qT 24 O (λ_ h=>OS U3 O O (h.OH hB) O) hg$ OM 11 O (WX O O ω) hg ?_
 rw[hd]
 refine OM 12 O (UN O O ω) hg$ OM 26 O (Rv O) hg ?_
 rw[lM]
 refine OM 19 O (yre O O ω) hg ?_
 rw[hm]
 refine OM 25 O (Y8 O O (by rw[Fh];omega)) hg ?_
 rw[Fh]
 refine OM 27 O (Rv O) hg$ qE$ Pu.qb (e:=[(4,_),(5,_)]) ?_
 refine OI func72 O ?_
 exact⟨_,rfl,rfl,hg⟩
end
section
variable {w w':World}{Q:Rg}{txt:Int->OO}{K:Nat}{X:Nat->Prop}{vb width st n:Nat}{xs:List Nat}
def Un.zjK (h:Un Q txt vb width st xs w){i x:Nat}(hi:xs[i]? =some x):x<2^(8*width)/\x<18446744073709551616:=by
 have h1:=(h.t i x hi).2
 have:=Nat.pow_le_pow_right (show 0<2 by decide) (show 8*width<=64 by have:=h.e;omega)
 exact⟨h1,ω⟩
theorem z2r (hP:Sp Q txt K X w)(hX:∀b,X b->b<w.heap.size)(hK:K<1000000000000)(hv:Un Q txt vb width st xs w)(eV:X vb){i x:Nat}(hi:xs[i]? =some x):
  Ps prog 44 [ptr vb 0,I (i:Int)] w λv w'=>v= .tuple #[P7 x,I 0]/\Sp Q txt K X w'/\Kp (λb=>¬X b) w w':=by
 have dX:=hP.n
 have aq:i<xs.length:=by
  rcases Nat.lt_or_ge i xs.length with h| h
  ·exact h
  ·rw[List.getElem?_eq_none h] at hi;cases hi
 have BL:=z52 hv aq dX
 obtain⟨a1,a2,a3⟩:=hv.at_ aq
 have BN:=(hv.t i x hi).1
 have mJ:=(hv.zjK hi).1
 have f9:=hP.z0M (x:=((st+i / (512 / width):Nat):Int)) (Int.natCast_nonneg _) (Int.ofNat_lt.2 a1)
 have oI:=hv.n
 have Og:=hv.e.2.2.2.2
 have oJ:∀w1,Ext w w1->Ps prog 68 [ptr Q.s 0,I ((st+i / (512 / width):Nat):Int)] w1 λv w'=>v= .tuple #[S (txt ((st+i / (512 / width):Nat):Int)),I 0]/\Sp Q txt K X w'/\Kp (λb=>¬X b) w1 w':=λw1 ad=>(hP.ext' ad).read (λb hb=>by have:=hX b hb;have:=ad.size;omega) hK (Int.natCast_nonneg _) (Int.ofNat_lt.2 a1)
 generalize i / (512 / width)=q at*
 generalize i%(512 / width)=r at*
 generalize ho:r*width=o at*
 obtain⟨t,ht⟩:∃t,txt ((st+q:Nat):Int)=t:=⟨_,rfl⟩
 rw[ht] at BN f9 oJ
 have hB:=hv.cells
 refine py (e:=[(0,_),(1,_)]) func44 O ntmps44 O O$ qN O$ Qr O$ PR O$ Pb zcL O (UY hv) ?_
 rintro _ w ⟨rfl,rfl⟩
 refine R3 O$ QF O$ Qm O$ PR O$ QV O$ PO$ Pl O$ OT O$ Pw O$ P4 Se O$ P4 z2P O$ qV (OS U3 O O hB O)$ Uh O$ PO ?_
 refine PT O$ Qm O$ QI O$ Pb ziA O (BL) ?_
 rintro _ w1 ⟨rfl,ad⟩
 have ai:=ad.OH hB
 refine OT O$ SM O$ Qr O$ Pu.qb (e:=[(0,_),(4,_),(5,_),(7,_),(8,_)]) ?_
 refine Pt O$ Pw O$ P4 WR O$ qV (OS XB O O ai O)$ OT O$ Pb zcj O (oJ w1 ad) ?_
 rintro _ w2 ⟨rfl,f7,am⟩
 have ak:=am.OH ai (λe=>e eV)
 refine OT O$ SM O$ Qr O$ PR O$ QF O$ Qm O$ QN O$ An$ QI O$ Pl O$ Pw O$ P4 Se O$ P4 VU O$ qV (OS U3 O O ak O) ?_
 refine Q4 O ?_
 rw[show(o:Int)+(width:Int)=((o+width:Nat):Int) by omega]
 refine qV (zjz (m:=o) (n:=o+width) U9 O O O ω) ?_
 rw[show o+width-o=width by omega,BN]
 have fi:=Qi width x
 obtain⟨s,hs⟩:∃s,Vl width x=s:=⟨_,rfl⟩
 have nW:PF (Pf s)=x:=by rw[<-hs];exact z3E mJ
 rw[hs] at fi⊢
 refine OP O O (zb7 U9 SL U5 O) ?_
 rintro _ w3 ⟨b7,c7,rest,rfl,⟨m7,ah,au⟩,DR⟩
 refine RO SL O$ OT O$ OJ$ Pu.qb (e:=[(4,_),(5,_),(11,_),(58,_),(59,_),(60,_)]) ?_
 refine OL$ RN (α:=Nat) (0) (λi=>[(11,P7 (PF (Pf (s.take i)))),(58,.slice (some ⟨b7,0,none⟩) s.length c7),(59,I (s.length:Int)),(60,I (i:Int))]) (λi w'=>w'=w3/\i<=s.length) (λi=>s.length-i) ?hI ?hround
 case hI=>exact⟨rfl,Nat.zero_le _⟩
 case hround=>
  rintro i w4 ⟨rfl,hi⟩ ih
  try dsimp only
  refine qN O$ QV O$ OJ$ An$ OX O (λh0=>?_)$ λh0=>?_
  ·obtain⟨c,hc⟩:∃c,s[i]? =some c:=⟨_,List.getElem?_eq_getElem ω⟩;have fF:=c.toNat_lt;have lM:=z1g hc
   have aS:PF (Pf (s.take i))<72057594037927936:=by
    have h1:=R7 (Pf (s.take i));rw[bitsT_length,List.length_take] at h1;have h2:2^(8*min i s.length)<=2^56:=Nat.pow_le_pow_right ψ ω;omega
   have bj:w4.cell? ⟨b7,0+i*1,none⟩=some (Tz c):=by
    rw[au.cell,Nat.zero_add,Nat.mul_one,List.getElem?_append_left (by rw[List.length_map];omega),List.getElem?_map,hc];rfl
   refine OK$ QO$ qN O$ qV (Qc SL Y9 O O ω)$ qV (PC U5 O O bj) ?_
   generalize PF (Pf (s.take i))=q at lM aS
   refine P3 O$ Rp O$ qV (Rj 8 256 O O ψ O)$ OT O$ qV ((zbx O U5 Rw ψ))$ qV (z1J O O ω ω) ?_
   have pj:(q*256%18446744073709551616 |||c.toNat)=PF (Pf (s.take (i+1))):=by
    rw[lM,Nat.mod_eq_of_lt ω,Nat.mul_comm q];exact(Nat.two_pow_add_eq_or_of_lt (i:=8) fF q).symm
   rw[pj];refine P3 O$ OG$ OQ O$ Q4 O$ OT O$ OJ ?_;exact(ih (i+1) _ ⟨rfl,ω⟩ ω).qb
  ·have dq:i=s.length:=by omega
   subst dq;rw[List.take_length,nW];refine OV O$ Pt O$ Qr O$ OI func44 O ?_;exact⟨_,rfl,rfl,f7.ext' ah,(ad.kp.trans am).trans ah.kp⟩
theorem Ul (hP:Sp Q txt K X w)(hX:∀b,X b->b<w.heap.size)(hK:K<1000000000000)(hv:Un Q txt vb width st xs w)(eV:X vb){i x:Nat}(hi:i<xs.length)(hx:x<2^(8*width)):
  Ps prog 99 [ptr vb 0,I (i:Int),P7 x] w λv w'=>v=I 0/\VcW Q txt (K+1) X vb width st (xs.set i x) w w':=by
 have dX:=hP.n
 have BL:∀w1,Ext w w1->Ps prog 72 [ptr vb 0,I (i:Int)] w1 λv w'=>v= .tuple #[I ((st+i / (512 / width):Nat):Int),I ((i%(512 / width)*width:Nat):Int)]/\Ext w1 w':=λw1 ad=>z52 (hv.ext ad) hi dX
 obtain⟨a1,a2,a3⟩:=hv.at_ hi
 obtain⟨e1,e2,e3,e4,e5⟩:=hv.e
 have mJ:x<18446744073709551616:=by
  have:=Nat.pow_le_pow_right (show 0<2 by decide) (show 8*width<=64 by omega);omega
 have f9:=hP.z0M (x:=((st+i / (512 / width):Nat):Int)) (Int.natCast_nonneg _) (Int.ofNat_lt.2 a1)
 have oI:=hv.n
 obtain⟨t,ht⟩:∃t,txt ((st+i / (512 / width):Nat):Int)=t:=⟨_,rfl⟩
 have gK:=hv.t.set ω hx hi ht (by rw[ht] at f9;omega)
 have oJ:∀w1,Ext w w1->Ps prog 68 [ptr Q.s 0,I ((st+i / (512 / width):Nat):Int)] w1 λv w'=>v= .tuple #[S (txt ((st+i / (512 / width):Nat):Int)),I 0]/\Sp Q txt K X w'/\Kp (λb=>¬X b) w1 w':=λw1 ad=>(hP.ext' ad).read (λb hb=>by have:=hX b hb;have:=ad.size;omega) hK (Int.natCast_nonneg _) (Int.ofNat_lt.2 a1)
 have lz:(xs.set i x).length=xs.length:=by simp
 have hB:=hv.cells
 have nq:=hv.wd
 have ck:=hv.fit
 rw[ht] at f9 oJ
 have G0:∀w',OU w' vb [I (xs.length:Int),I (width:Int),I ((512 / width:Nat):Int),I (st:Int),I (VD xs.length (512 / width):Int),ptr Q.s 0,.bool false] 143->Un Q (ZB txt ((st+i / (512 / width):Nat):Int) (some (t.take (i%(512 / width)*width)++Vl width x++t.drop (i%(512 / width)*width+width)))) vb width st (xs.set i x) w':=λw' hb=>⟨by rw[lz];exact hb,nq,gK,by rw[lz];exact oI,by rw[lz];exact ck⟩
 clear gK
 have ns:st+i / (512 / width)<Q.L.length:=a1
 generalize i / (512 / width)=q at*
 generalize i%(512 / width)=r at*
 generalize ho:r*width=o at*
 have fi:=Qi width x
 have qI:(t.take o++Vl width x++t.drop (o+width)).length=512:=by rw[List.length_append,List.length_append,List.length_take,List.length_drop,fi];omega
 refine py (e:=[(0,_),(1,_),(2,_)]) func99 O ntmps99 O O$ QN O$ PR O$ Pb zcL O (UY hv) ?_
 rintro _ w ⟨rfl,rfl⟩
 refine R3 O$ QF O$ Qm O$ PR O$ QV O$ PO$ Pl O$ OT O$ Pw O$ P4 Se O$ P4 z2P O$ qV (OS U3 O O hB O)$ Uh O$ PO ?_
 refine PT O$ Pl O$ Pw O$ P4 Se O$ qV (Pv z8Y O Yt O (OU.cells (n:=3) hB (news:=[_,_,_]) O) O)$ OT O$ Pb zji O (z1q xs.length width (512 / width) x nq hx w) ?_
 rintro _ w1 ⟨rfl,ad⟩
 have ai:=ad.OH hB
 refine qV ((S5 O))$ PT O$ OJ$ Pu.qb (e:=[(0,_),(1,_),(2,_),(6,_),(36,_)]) ?_
 refine SO O$ QI O$ Pb ziA O (BL w1 ad) ?_
 rintro _ w2 ⟨rfl,ae⟩
 have ak:=ae.OH ai
 refine OT O$ SM O$ SH O$ R3 O$ Pw O$ P4 WR O$ qV (OS XB O O ak O)$ OT O$ Pb zcj O (oJ w2 (ad.trans ae)) ?_
 rintro _ w3 ⟨rfl,fU,av⟩
 have au:=av.OH ak (λe=>e eV)
 have ag:=Ext.Pa w3
 have cq:Kp (λb=>¬X b) w w3:=(ad.trans ae).kp.trans av
 have aS:(t.take o).length=o:=by rw[List.length_take];omega
 have ME:(t.drop (o+width)).length=512-(o+width):=by rw[List.length_drop];omega
 refine OT O$ SM O$ Qr O$ PR O$ QF O$ OJ$ Pu.qb (e:=[(0,_),(2,_),(6,_),(8,_),(9,_),(10,_),(11,_),(53,_)]) ?_
 refine SO O$ An$ R0 (λw'=>Kp (λb=>¬X b) w3 w') O$ P8 0 O O (ag.kp)$ OM 1 O (Qd O) (ag.kp)$ OM 2 O (Px WR O) (ag.kp)$ qT 3 O (λ_ h=>OS XB O O (h.OH au (λe=>e eV)) O) (ag.kp)$ P8 4 O O (ag.kp)$ P8 5 O O (ag.kp)$ P8 6 O O (ag.kp)$ OM 7 O (z57 U9 O O ω) (ag.kp)$ P8 8 O O (ag.kp)$ OM 9 O (Qd O) (ag.kp)$ OM 10 O (Px Se O) (ag.kp) ?_
 refine qT 11 O (λ_ hS=>Pv z8Y O Yt O (OU.cells (n:=3) (hS.OH au (λe=>e eV)) (news:=[_,_,_]) O) O) (ag.kp)$ P8 12 O O (ag.kp)$ P8 15 O O (ag.kp)$ P8 16 O O (ag.kp)$ P8 17 O O (ag.kp)$ OM 18 O (Qd O) (ag.kp)$ OM 19 O (Px Se O) (ag.kp)$ OM 20 O (Px VU O) (ag.kp)$ qT 21 O (λ_ h=>OS U3 O O (h.OH au (λe=>e eV)) O) (ag.kp)$ OM 22 O (UN O O ω) (ag.kp) ?_
 rw[show(o:Int)+(width:Int)=((o+width:Nat):Int) by omega]
 refine OM 23 O (z1n U9 O O ω) (ag.kp)$ S1 13 O zft O (Y4 _ _ _ x e5 mJ _) ?_
 rintro _ w4 ⟨rfl,aG⟩
 refine⟨ag.kp.trans aG.kp,?_⟩
 have dy:=ag.trans aG
 refine OM 14 O (Yb O O (by first|omega|(simp;done)|(simp;omega))) (ag.kp.trans aG.kp) ?_
 refine OM 24 O (Yb O O (by rw[List.length_append,aS,fi,ME];omega)) (ag.kp.trans aG.kp) ?_
 refine S1 25 O zfx O ((fU.ext' dy).write (λb hb=>by have:=hX b hb;have:=cq.size;have:=dy.size;omega) hK (no:=((st+q:Nat):Int)) ω ω _ qI) ?_
 rintro _ w5 ⟨rfl,gU,aj⟩
 refine⟨dy.kp.trans aj,?_⟩
 have fx:Kp (λb=>¬X b) w3 w5:=dy.kp.trans aj
 refine OM 26 O (Rv O) (dy.kp.trans aj)$ qE$ Pu.qb (e:=[(6,_)]) ?_
 refine OI func99 O ?_
 exact⟨_,rfl,rfl,_,gU,G0 w5 (fx.OH au (λe=>e eV)),λy hy=>Rs _ _ (by rw[lz] at hy;omega),cq.trans fx⟩
end
section
variable {w w':World}{Q:Rg}{txt:Int->OO}{K:Nat}{X:Nat->Prop}{vb width st each n:Nat}{xs:List Nat}
theorem z58 (hP:Sp Q txt K X w)(hX:∀b,X b->b<w.heap.size)(hK:K<=900000000000)(hv:Un Q txt vb width st xs w)(eV:X vb){f:Nat}(pW:CF prog f)(caps:List Value)(OH:Nat->OO)(aJ:∀b,(OH b).length<=512)
  (hf:∀(b:Nat) (w1:World),b<VD xs.length (512 / width)->Kp (λb=>¬X b) w w1->Ps prog f ([I (b:Int)]++caps) w1 λv w2=>v=S (OH b)/\Ext w1 w2):
  Ps prog 63 [ptr vb 0,.func (.func f) #[] caps.toArray] w λv w'=>v=I 0/\∃txt',Sp Q txt' (K+VD xs.length (512 / width)) X w'/\Kp (λb=>¬X b) w w'/\(∀b,b<VD xs.length (512 / width)->txt' ((st+b:Nat):Int)=OH b++zeros (512-(OH b).length))/\(∀y:Int,y<(st:Int)\/(st:Int)+(VD xs.length (512 / width):Int)<=y->txt' y=txt y):=by
 have fA:maxLen=9223372036854775807:=rfl
 have dX:=hP.n
 have hB:=hv.cells
 have ck:=hv.fit
 have oI:=hv.n
 obtain⟨e1,e2,e3,e4,e5⟩:=hv.e
 have wv:=YQ xs.length width (512 / width) ⟨ω,e2⟩ oI w
 obtain⟨N,hN⟩:∃N,VD xs.length (512 / width)=N:=⟨_,rfl⟩
 rw[hN] at hB ck wv hf⊢
 refine py (e:=[(0,_),(1,_)]) func63 O ntmps63 O O$ QN O$ PR O$ Pw O$ P4 Se O$ qV (Pv z8Y O Yt O (OU.cells (n:=3) hB (news:=[_,_,_]) O) O)$ Pb zgx O (wv) ?_
 rintro _ w1 ⟨rfl,ad⟩
 refine OT O$ OJ$ OL$ RN (α:=Nat) (0) (λk=>[(0,ptr vb 0),(1,.func (.func f) #[] caps.toArray),(12,I (N:Int)),(13,I (k:Int))]) (λk w'=>k<=N/\Kp (λb=>¬X b) w w'/\∃txt',Sp Q txt' (K+k) X w'/\(∀b,b<k->txt' ((st+b:Nat):Int)=OH b++zeros (512-(OH b).length))/\(∀y:Int,y<(st:Int)\/(st:Int)+(k:Int)<=y->txt' y=txt y)) (λk=>N-k) ?hI ?hround
 case hI=>exact⟨Nat.zero_le _,ad.kp,txt,hP.ext' ad,λb hb=>by omega,λy _=>rfl⟩
 case hround=>
  rintro k w2 ⟨hk,am,txt2,f7,J5,pJ⟩ ih;have ak:=am.OH hB (λe=>e eV)
  try dsimp only
  refine qN O$ QV O$ OJ$ An$ OX O (λh0=>?_)$ λh0=>?_
  ·have G4:k<N:=by omega
   refine OK$ QO$ Pt O$ QW O$ Pl O$ Qw O O (RW pW O O) (hf k w2 G4 am) ?_;rintro _ w3 ⟨rfl,ah⟩;have au:=ah.OH ak;have fU:=f7.ext' ah;have ag:=Ext.Pa w3;have hl:=aJ k;have cq:=am.trans ah.kp;obtain⟨t,ht⟩:∃t,OH k=t:=⟨_,rfl⟩;rw[ht] at hl⊢;have hz:(zeros (512-t.length)).length=512-t.length:=by simp[zeros]
   have cD:=fU.size;have zS:∀w4,Ext w3 w4->Ps prog 49 [ptr Q.s 0] w4 λv w'=>v=I 512/\w'=w4:=λw4 hx=>(fU.ext' hx).size;refine P3 O$ An$ R0 (λw'=>Kp (λb=>¬X b) w3 w') O$ P8 0 O O (ag.kp)$ OM 1 O (Qd O) (ag.kp)$ OM 2 O (Px WR O) (ag.kp)$ qT 3 O (λ_ h=>OS XB O O (h.OH au (λe=>e eV)) O) (ag.kp)$ P8 4 O O (ag.kp)$ OM 5 O (Qd O) (ag.kp)$ OM 6 O (Px z0i O) (ag.kp)$ OM 7 O (Px QX O) (ag.kp)$ qT 8 O (λ_ h=>OS U3 O O (h.OH au (λe=>e eV)) O) (ag.kp)$ P8 9 O O (ag.kp)$ OM 10 O (UN O O ω) (ag.kp) ?_;refine P8 11 O O (ag.kp)$ P8 12 O O (ag.kp)$ OM 13 O (Qd O) (ag.kp)$ OM 14 O (Px WR O) (ag.kp)$ qT 15 O (λ_ h=>OS XB O O (h.OH au (λe=>e eV)) O) (ag.kp)$ P8 17 O O (ag.kp)$ OM 18 O (Wh U9 O) (ag.kp)$ S1 16 O z3J O (zS _ ag) ?_;rintro _ w4 ⟨rfl,rfl⟩;refine⟨ag.kp,?_⟩;refine OM 19 O (XG O O ω) (ag.kp) ?_;rw[show(512:Int)-(t.length:Int)=((512-t.length:Nat):Int) by omega];refine qO 20$ Xp (i:=20) O O O (pmk (c:=512-t.length) (n:=512-t.length) SL Y9 O O O ω ω ω) ?_;rintro _ w4 ⟨b4,rfl,⟨fX,aG,aM⟩,-⟩;refine⟨ag.kp.trans aG.kp,?_⟩;have dy:=ag.trans aG;refine qO 21$ zi6 (i:=21) O O O (z9H (l:=zeros (512-t.length)) SL U5 U9 O aM (ZW _) hz) (dy.kp)$ OM 22 O (Yb O O (by rw[hz];omega)) (dy.kp) ?_;have qI:(t++zeros (512-t.length)).length=512:=by rw[List.length_append,hz];omega
   rw[show(st:Int)+(k:Int)=((st+k:Nat):Int) by omega];refine S1 23 O zfx O ((fU.ext' dy).write (λb hb=>by have:=hX b hb;have:=cq.size;have:=dy.size;omega) ω (no:=((st+k:Nat):Int)) ω ω _ qI) ?_;rintro _ w5 ⟨rfl,gU,aj⟩;refine⟨dy.kp.trans aj,?_⟩;have fx:Kp (λb=>¬X b) w3 w5:=dy.kp.trans aj;refine OM 24 O (Rv O) (dy.kp.trans aj)$ qE$ Pt O$ QF O$ Qm O$ OG$ OQ O$ Q4 O$ OT O$ OJ ((ih (k+1) w5 ⟨ω,cq.trans fx,_,gU,λb hb=>?_,λy hy=>?_⟩ ω).qb)
   ·by_cases e:b=k
    ·subst e;rw[Sa,ht];rfl
    ·rw[Rs _ _ ω];exact J5 b ω
   ·rw[Rs _ _ ω];exact pJ y ω
  ·have G4:k=N:=by omega
   subst G4;refine OV O$ QN O$ OI func63 O ?_;exact⟨_,rfl,rfl,txt2,f7,am,J5,pJ⟩
theorem z5s (l:OO):∀n,((List.replicate n l).flatten).length=n*l.length
 |0=>by simp
 |n+1=>by rw[List.replicate_succ,List.flatten_cons,List.length_append,z5s l n,Nat.add_mul];omega
def z4K {bf:Nat}{s:OO}(b:Nat)(hB:OU w bf [S s] 9):Ps prog 64 ([I (b:Int)]++[ptr bf 0]) w λv w2=>v=S s/\Ext w w2:=by
 show Ps _ _ [I (b:Int),ptr bf 0] _ _
 refine py (e:=[(0,_),(1,_)]) func64 O ntmps64 O O$ qN O$ QW O$ qV (OS U9 O O hB O)$ P3 O$ OI func64 O ?_
 exact⟨_,rfl,rfl,Ext.refl _⟩
theorem Y5 (hP:Sp Q txt K X w)(hX:∀b,X b->b<w.heap.size)(hK:K<=900000000000)(hv:Un Q txt vb width st xs w)(eV:X vb){x:Nat}(hx:x<2^(8*width)):
  Ps prog 34 [ptr vb 0,P7 x] w λv w'=>v=I 0/\VcW Q txt (K+VD xs.length (512 / width)) X vb width st (List.replicate xs.length x) w w':=by
 have hB:=hv.cells
 have oI:=hv.n
 obtain⟨e1,e2,e3,e4,e5⟩:=hv.e
 have mJ:x<18446744073709551616:=by
  have:=Nat.pow_le_pow_right (show 0<2 by decide) (show 8*width<=64 by omega);omega
 have fi:=Qi width x
 have iz:(List.replicate (512 / width) (Vl width x)).flatten.length=512:=by
  rw[z5s,fi];exact e3
 refine py (e:=[(0,_),(1,_)]) func34 O ntmps34 O O$ QN O$ PR O$ Pb zcL O (UY hv) ?_
 rintro _ w ⟨rfl,rfl⟩
 refine R3 O$ QF O$ Qm O$ PR O$ Pw O$ P4 Se O$ qV (Pv z8Y O Yt O (OU.cells (n:=3) hB (news:=[_,_,_]) O) O)$ OT O$ Pb zji O (z1q xs.length width (512 / width) x hv.wd hx w) ?_
 rintro _ w1 ⟨rfl,ad⟩
 have ai:=ad.OH hB
 have bh:=Ext.Pa w1
 refine qV ((S5 O))$ Qm O$ An$ PI (λe' w'=>∃bf,e'=[(0,ptr vb 0),(6,ptr bf 0)]/\OU w' bf [S (List.replicate (512 / width) (Vl width x)).flatten] 9/\Ext w1 w'/\w1.heap.size<=bf) ?bH$ λbH=>?da
 case bH=>
  rintro e' w2 ⟨bf,rfl,dp,ae,G5⟩;have aF:=ad.trans ae;have nz:=ad.size;have f7:Sp Q txt K (λb=>X b\/b=bf) w2:=hP.ext aF (λb e=>e.imp id λe=>by omega);have lbf:=dp.lt;have hw:=z58 f7 (λb hb=>by rcases hb with e|e;(have:=hX b e;have:=aF.size;omega);omega) hK (hv.ext aF) (.inl eV) zkc [ptr bf 0] (λ_=>(List.replicate (512 / width) (Vl width x)).flatten) (λ_=>by rw[iz];omega) (λb w3 _ av=>z4K b (av.OH dp (λe=>e (.inr O))));refine Pt O$ qV (ZR (first:=[]) (caps:=[.tmp 6]) O O)$ Pb zjW O (hw) ?_;rintro _ w3 ⟨rfl,txt3,fU,av,qw,lS⟩;refine P3 O$ OI func34 O ?_;have dw:Kp (λb=>¬X b) w1 w3:=ae.kp.trans (av.ON λb e e2=>e (.inl e2));have lz:(List.replicate xs.length x).length=xs.length:=List.length_replicate;refine⟨_,rfl,rfl,txt3,fU.less (λb e=> .inl e),⟨?_,hv.wd,VcT.fill hx ω (λi hi=>?_),by rw[lz];exact oI,by rw[lz];exact hv.fit⟩,λy hy=>lS y (by rw[lz] at hy;exact hy),ad.kp.trans dw⟩
  ·rw[lz];exact(ad.kp.trans dw).OH hB (λe=>e eV)
  ·have uL:=z3b (each:=512 / width) ω hi;exact⟨_,qw _ uL⟩
 case da=>
  have ax:=bh;have bY:=ax.size;refine Pk [13] (λw'=>Ext w1 w') (by kernel_rfl) O$ PW 0 O O (ax)$ Pr 1 O (Qd O) ax$ Pr 2 O (Px Se O) ax$ qL 3 O (λ_ h=>Pv z8Y O Yt O (OU.cells (n:=3) (h.OH ai) (news:=[_,_,_]) O) O) ax$ PW 4 O O (ax)$ PW 6 O O (ax)$ Pr 7 O (Qd O) ax$ Pr 8 O (Px Se O) ax$ Pr 9 O (Px YW O) ax$ qL 10 O (λ_ h=>OS U3 O O (h.OH ai) O) ax$ Xn (i:=5) (j:=12) (by kernel_rfl) ?_ ?_
  ·refine S0 (i:=5) O O O (yc zft O) (Y4 _ _ _ x e5 mJ _) ?_;rintro _ w5 ⟨rfl,aV⟩;refine⟨ax.trans aV,?_⟩;have ax:=ax.trans aV
   try have aW:=aV.OH aW
   have bY:=Nat.le_trans bY aV.size;refine Xn (i:=11) (j:=12) (by kernel_rfl) ?_ ?_
   ·refine S0 (i:=11) O O O (yc zfu O) (ZC (Vl width x) (512 / width) ω ω _) ?_;rintro _ w11 ⟨rfl,aT⟩;refine⟨ax.trans aT,?_⟩;have ax:=ax.trans aT
    try have aW:=aT.OH aW
    have bY:=Nat.le_trans bY aT.size;refine Rf (i:=12) (by kernel_rfl)$ Qv (i:=12) O O O (Rz (cs:=[_]) ti9 O) ?_;rintro _ w12 ⟨bf,rfl,G5,aI,aW⟩;refine⟨ax.trans aI,?_⟩;have ax:=ax.trans aI;have oK:w1.heap.size<=bf:=by omega
    have bY:=Nat.le_trans bY aI.size;refine Ty [13]$ qO 13$ PJ (i:=13) O O (QP ti9 O O O aW ξ) ?_;rintro w13 ⟨bX,dw⟩;refine⟨trivial,?_⟩;refine qE$ Pu.qb (e:=[(0,_),(4,_),(6,_)]) ?_;exact(bH _ _ ⟨bf,rfl,bX,ax.It dw (λj e=>by omega),oK⟩).qb
   ·refine Qv (i:=12) O O O (Rz (cs:=[_]) ti9 O) ?_;rintro _ w12 ⟨bf,rfl,G5,aI,aW⟩;refine⟨ax.trans aI,?_⟩;have ax:=ax.trans aI;have oK:w1.heap.size<=bf:=by omega
    have bY:=Nat.le_trans bY aI.size;refine Rf (i:=11) (by kernel_rfl)$ S0 (i:=11) O O O (yc zfu O) (ZC (Vl width x) (512 / width) ω ω _) ?_;rintro _ w11 ⟨rfl,aT⟩;refine⟨ax.trans aT,?_⟩;have ax:=ax.trans aT
    try have aW:=aT.OH aW
    have bY:=Nat.le_trans bY aT.size;refine Ty [13]$ qO 13$ PJ (i:=13) O O (QP ti9 O O O aW ξ) ?_;rintro w13 ⟨bX,dw⟩;refine⟨trivial,?_⟩;refine qE$ Pu.qb (e:=[(0,_),(4,_),(6,_)]) ?_;exact(bH _ _ ⟨bf,rfl,bX,ax.It dw (λj e=>by omega),oK⟩).qb
  ·refine Qv (i:=12) O O O (Rz (cs:=[_]) ti9 O) ?_;rintro _ w12 ⟨bf,rfl,G5,aI,aW⟩;refine⟨ax.trans aI,?_⟩;have ax:=ax.trans aI;have oK:w1.heap.size<=bf:=by omega
   have bY:=Nat.le_trans bY aI.size;refine Rf (i:=5) (by kernel_rfl)$ S0 (i:=5) O O O (yc zft O) (Y4 _ _ _ x e5 mJ _) ?_;rintro _ w5 ⟨rfl,aV⟩;refine⟨ax.trans aV,?_⟩;have ax:=ax.trans aV
   try have aW:=aV.OH aW
   have bY:=Nat.le_trans bY aV.size;refine Rf (i:=11) (by kernel_rfl)$ S0 (i:=11) O O O (yc zfu O) (ZC (Vl width x) (512 / width) ω ω _) ?_;rintro _ w11 ⟨rfl,aT⟩;refine⟨ax.trans aT,?_⟩;have ax:=ax.trans aT
   try have aW:=aT.OH aW
   have bY:=Nat.le_trans bY aT.size;refine Ty [13]$ qO 13$ PJ (i:=13) O O (QP ti9 O O O aW ξ) ?_;rintro w13 ⟨bX,dw⟩;refine⟨trivial,?_⟩;refine qE$ Pu.qb (e:=[(0,_),(4,_),(6,_)]) ?_;exact(bH _ _ ⟨bf,rfl,bX,ax.It dw (λj e=>by omega),oK⟩).qb
end
section
end
section
variable {w w':World}{Q:Rg}{txt:Int->OO}{K:Nat}{X:Nat->Prop}{vb width st each n:Nat}{xs:List Nat}
theorem z3Q (hP:Sp Q txt K X w)(hX:∀b,X b->b<w.heap.size)(hv:Un Q txt vb width st xs w)(eV:X vb)(dt:2<=st)(hc:∀i,st<=i->i<st+VD xs.length (512 / width)->Q.L[i]? =some true):
  Ps prog 40 [ptr vb 0] w λv w'=>v=I 0/\∃txt',Sp (Q.Qp (Qj Q.L st (VD xs.length (512 / width)) false)) txt' K X w'/\(∀y:Int,y<(st:Int)\/(st:Int)+(VD xs.length (512 / width):Int)<=y->txt' y=txt y)/\Kp (λb=>¬X b\/b=vb) w w':=by
 have hB:=hv.cells
 have ck:=hv.fit
 have kO:1<=VD xs.length (512 / width):=Nat.le_max_left _ _
 have hg:=Ext.Pa w
 have MF:=(hP.ext' hg).zkI (λb hb=>by have:=hX b hb;have:=hg.size;omega) kO dt ck hc
 generalize VD xs.length (512 / width)=N at*
 refine py (e:=[(0,_)]) func40 O ntmps40 O O$ QN O$ PR O$ Pb zcL O (UY hv) ?_
 rintro _ w ⟨rfl,rfl⟩
 refine R3 O$ QF O$ Qm O$ An$ An$ R0 (λw'=>Kp (λb=>¬X b) w w') O$ P8 0 O O (hg.kp)$ OM 1 O (Qd O) (hg.kp)$ OM 2 O (Px WR O) (hg.kp)$ qT 3 O (λ_ h=>OS XB O O (h.OH hB (λe=>e eV)) O) (hg.kp)$ P8 4 O O (hg.kp)$ OM 5 O (Qd O) (hg.kp)$ OM 6 O (Px z0i O) (hg.kp)$ qT 7 O (λ_ hS=>Pv Xj O R4 O (OU.cells (n:=2) (hS.OH hB (λe=>e eV)) (news:=[_,_]) O) O) (hg.kp) ?_
 refine S1 8 O zjR O (MF) ?_
 rintro _ w1 ⟨rfl,txt1,ik,nI,az⟩
 refine⟨hg.kp.trans az,?_⟩
 have dx:=hg.kp.trans az
 have ai:=dx.OH hB (λe=>e eV)
 refine OM 9 O (Rv O) (hg.kp.trans az)$ qE$ Pt O$ QF O$ Qm O$ Pt O$ Pw O$ P4 z8d O$ OY O (QP UH O O O ai ξ) ?_
 rintro w2 ⟨ak,am⟩
 refine qM O$ P3 O$ OI func40 O ?_
 exact⟨_,rfl,rfl,txt1,ik.own am (λb e=>by rw[e];exact eV),nI,(dx.ON λb e=> .inl e).trans (am.ON λb e=> .inr e)⟩
def VcT.any {txt:Int->OO}{st width each n:Nat}(he:1<=each)(hw:each*width<=512)(h:∀i,i<n->(txt ((st+i / each:Nat):Int)).length=512):∃xs:List Nat,xs.length=n/\VcT txt st width each xs:=by
 refine⟨(List.range n).map λi=>PF (Pf (((txt ((st+i / each:Nat):Int)).drop (i%each*width)).take width)),ξ,λi x hx=>?_⟩
 rw[List.getElem?_map] at hx
 by_cases hi:i<n
 ·rw[List.getElem?_range hi] at hx;cases hx;have hl:=h i hi;have hm:(i%each+1)*width<=each*width:=Nat.mul_le_mul_right _ (Nat.mod_lt _ he);rw[Nat.add_mul,Nat.one_mul] at hm
  have aJ:(((txt ((st+i / each:Nat):Int)).drop (i%each*width)).take width).length=width:=by
   rw[List.length_take,List.length_drop,hl];omega
  refine⟨?_,?_⟩
  ·have hb:=zcz (((txt ((st+i / each:Nat):Int)).drop (i%each*width)).take width);rw[aJ] at hb;exact hb.symm
  ·have h1:=R7 (Pf (((txt ((st+i / each:Nat):Int)).drop (i%each*width)).take width));rw[bitsT_length,aJ] at h1;exact h1
 ·rw[List.getElem?_eq_none (by simpa using hi)] at hx;cases hx
theorem z8I (hP:Sp Q txt K X w)(hX:∀b,X b->b<w.heap.size)(hK:K<=800000000000){a:Nat}(hp:Pre Q.L a)(n width:Nat)(hn:n<=4194304)(nq:width=1\/width=2\/width=4\/width=8)(ck:a+VD n (512 / width)<=Q.L.length):
  Ps prog 33 [ptr Q.s 0,I (n:Int),I (width:Int)] w λv w'=>∃vb txt',v= .tuple #[ptr vb 0,I 0]/\w.heap.size<=vb/\Sp (Q.Qp (Qj Q.L a (VD n (512 / width)) true)) txt' (K+VD n (512 / width)) (λb=>X b\/b=vb) w'/\Un (Q.Qp (Qj Q.L a (VD n (512 / width)) true)) txt' vb width a (List.replicate n 0) w'/\(∀y:Int,y<(a:Int)\/(a:Int)+(VD n (512 / width):Int)<=y->txt' y=txt y)/\Kp (λb=>¬X b) w w':=by
 have kO:1<=VD n (512 / width):=Nat.le_max_left _ _
 have dX:=hP.n
 obtain⟨e1,e2,e3,e4,e5⟩:64<=512 / width/\512 / width<=512/\512 / width*width=512/\1<=width/\width<=8:=by
  rcases nq with e|e|e|e<;>subst e<;>decide
 have eK:(Qj Q.L a (VD n (512 / width)) true).length=Q.L.length:=Qa ck
 refine py (e:=[(0,_),(1,_),(2,_)]) func33 O ntmps33 O O$ qN O$ Qr O$ QO$ Pt O$ qV (Qb XB O O)$ P3 O$ OR O$ An$ PI (λe' w'=>w'=w/\e'=[(0,ptr Q.s 0),(1,I (n:Int)),(2,I (width:Int)),(15,.bool false)]) ?ao$ λao=>?en
 case ao=>
  rintro e' w' ⟨rfl,rfl⟩;refine SO O$ OG$ QI O$ OT O$ Pb z3J O (hP.size) ?_;rintro _ w' ⟨rfl,rfl⟩;refine OT O$ qV (WX O O ω) ?_;rw[show(512:Int) / (width:Int)=((512 / width:Nat):Int) from rfl];refine qV (Sh (cs:=[_,_,_]) Yt O zgw O O)$ OT O$ qV (Sh (cs:=[_,_,_,_,_,_,_]) zfX O zfQ O O)$ OP O O (R6 O (cs:=[I (n:Int),I (width:Int),I ((512 / width:Nat):Int),I 0,I 0,ptr Q.s 0,.bool false]) O) ?_;rintro _ w1 ⟨vb,rfl,eV,ad,ai⟩;refine QW O$ Pl O$ Pw O$ P4 Se O$ qV (Pv z8Y O Yt O (OU.cells (n:=3) ai (news:=[_,_,_]) O) O)$ Pb zgx O (YQ n width (512 / width) ⟨ω,e2⟩ hn _) ?_;rintro _ w2 ⟨rfl,ae⟩;have aF:=ad.trans ae;have ak:=ae.OH ai;have z1:=ad.size;have z2:=ae.size;have l1:=ai.lt;have f7:Sp Q txt K (λb=>X b\/b=vb) w2:=hP.ext aF (λb e=>e.imp id λe=>by omega)
  have eO:∀b,(X b\/b=vb)->b<w2.heap.size:=λb hb=>by
   rcases hb with e| e
   ·have:=hX b e;have:=aF.size;omega
   ·omega
  obtain⟨N,hN⟩:∃N,VD n (512 / width)=N:=⟨_,rfl⟩;rw[hN] at kO ck eK⊢;refine Pb zg0 O (f7.take eO hp kO ck) ?_;rintro _ w3 ⟨rfl,fU,av⟩;have au:=av.OH ak (λe=>e (.inr O));have z3:=av.size;refine OT O$ SM O$ OP O O (Rz (cs:=[_,_]) R4 O) ?_;rintro _ w4 ⟨b9,rfl,ir,aG,aM⟩;refine OY O (PL (news:=[I (a:Int),I (N:Int)]) R4 O O O O aM ξ) ?_;rintro w5 ⟨aK,aj⟩;replace aK:OU w5 b9 [I (a:Int),I (N:Int)] 118:=aK;have cw:Ext w3 w5:=aG.It aj (λj e=>by omega);have cU:=cw.OH au;have gU:=fU.ext' cw;refine P3 O$ Pu.qb (e:=[(0,_),(8,_),(9,_),(10,_)]) ?_;refine PR O$ QF O$ Qm O$ Pt O$ qV (Pv Xj O R4 O (OU.cells (n:=2) aK (news:=[_,_]) O) O)$ Pw O$ P4 z0i O$ OY O (PL (news:=[I (a:Int),I (N:Int)]) R4 O O O O cU ξ) ?_;rintro w6 ⟨aX,aN⟩;replace aX:OU w6 vb [I (n:Int),I (width:Int),I ((512 / width:Nat):Int),I (a:Int),I (N:Int),ptr Q.s 0,.bool false] 143:=aX;have nt:=gU.own aN (λb e=> .inr e);have aJ:(Q.Qp (Qj Q.L a N true)).L.length=Q.L.length:=eK
  obtain⟨xs,cE,BN⟩:=VcT.any (txt:=txt) (st:=a) (width:=width) (each:=512 / width) (n:=n) ω ω (λi hi=>by
   have uL:=z3b (each:=512 / width) ω hi;rw[hN] at uL
   generalize i / (512 / width)=q at uL⊢
   exact nt.z0M ω (by rw[aJ];omega))
  have MG:Un (Q.Qp (Qj Q.L a N true)) txt vb width a xs w6:=⟨by rw[cE,hN];exact aX,nq,BN,ω,by rw[cE,hN,aJ];exact ck⟩
  have mI:∀b,(X b\/b=vb)->b<w6.heap.size:=λb hb=>by
   have:=eO b hb;have:=cw.size;have:=aN.size;omega
  have sI:=Y5 nt mI ω MG (.inr O) (x:=0) (Nat.two_pow_pos _);rw[cE,hN] at sI;refine OJ$ PR O$ Pb zf0 O (sI) ?_;rintro _ w7 ⟨rfl,hW⟩;obtain⟨txt7,sH,Bu,BO,aB⟩:=hW;refine R3 O$ QF O$ Qm O$ Pt O$ Qr O$ OI func33 O ?_;have lz:(List.replicate n 0).length=n:=List.length_replicate;refine⟨_,rfl,vb,txt7,rfl,ω,sH,Bu,λy hy=>BO y (by rw[lz,hN];exact hy),?_⟩;have cq:Kp (λb=>¬X b) w' w3:=aF.kp.trans (av.ON λb e e2=>e (.inl e2));exact((cq.trans cw.kp).It aN (λb e=> .inl ω)).trans (aB.ON λb e e2=>e (.inl e2))
 case en=>
  rcases nq with rfl|rfl|rfl|rfl
  ·refine Rp O$ QV O$ PO$ Pl O$ QD O$ PO$ PT O$ Pl O$ QF O$ PO$ OT O$ QY$ PT O$ OT O ?_;refine QY$ PT O$ OT O$ QY$ PT O$ PT O$ P3 O$ Pu.qb (e:=[(0,_),(1,_),(2,_),(6,_),(7,_),(15,_)]) ?_;exact(ao _ _ ⟨rfl,rfl⟩).qb
  ·refine Rp O$ QV O$ PO$ Pl O$ QD O$ PO$ PT O$ Pl O$ QF O$ RP$ Pl O$ QF O$ PO$ Ra O ?_;refine OT O$ QY$ PT O$ OT O$ QY$ PT O$ PT O$ P3 O$ Pu.qb (e:=[(0,_),(1,_),(2,_),(6,_),(7,_),(15,_)]) ?_;exact(ao _ _ ⟨rfl,rfl⟩).qb
  ·refine Rp O$ QV O$ PO$ Pl O$ QD O$ PO$ PT O$ Pl O$ QF O$ RP$ Pl O$ QF O$ RP$ Ra O ?_;refine Pl O$ QF O$ PO$ Ra O$ OT O$ QY$ PT O$ PT O$ P3 O$ Pu.qb (e:=[(0,_),(1,_),(2,_),(6,_),(7,_),(15,_)]) ?_;exact(ao _ _ ⟨rfl,rfl⟩).qb
  ·refine Rp O$ QV O$ PO$ Pl O$ QD O$ PO$ PT O$ Pl O$ QF O$ RP$ Pl O$ QF O$ RP$ Ra O ?_;refine Pl O$ QF O$ RP$ Ra O$ Pl O$ QF O$ PO$ Ra O$ PT O$ P3 O$ Pu.qb (e:=[(0,_),(1,_),(2,_),(6,_),(7,_),(15,_)]) ?_;exact(ao _ _ ⟨rfl,rfl⟩).qb
end
structure Gr where
 n:Nat
 succ:Nat->List Nat
 lt:∀v u,u∈succ v->u<n
def Yk {g:List (List Nat)}(h:S7 g)(v u:Nat)(hu:u∈P5 g v):u<g.length:=by
 unfold P5 at hu
 cases e:g[v]? with
 |none=>rw[e] at hu;cases hu
 |some l=>rw[e] at hu;exact h.lt l (List.mem_of_getElem? e) u hu
abbrev Ds:=List (Option Nat)
section
end
section
end
/-! ### The same with a flag: whether there were some -/
/-! ### A run -/
structure BfS where
 t:Nat
 done:Bool
 d:Ds
section
variable {g:List (List Nat)}
end
def z7S {v:Nat}(h:v<=200000):Nat.log2 (v+1)<=17:=by
 have h1:=Nat.log2_self_le (n:=v+1) ω
 have h3:2^Nat.log2 (v+1)<2^18:=by
  have:(2:Nat)^18=262144:=by decide
  omega
 have:=(Nat.pow_lt_pow_iff_right (by decide:1<2)).1 h3
 omega
def Xz.zde {k:Nat}{q:Cd×Nat}(h:Xz k q)(hk:1<=k/\k<=3):(q.1.enc q.2).length<=40:=by
 rw[WN]
 rcases h with⟨e,h⟩|⟨e,h⟩|⟨e,h⟩
 ·rw[e];show q.2+1+0<=_;omega
 ·have:=z7S h;rw[e];show Nat.log2 (q.2+1)+1+Nat.log2 (q.2+1)<=_;omega
 ·have h3:=z7S h;have h4:Nat.log2 (q.2+1) / k<=Nat.log2 (q.2+1):=Nat.div_le_self _ _;have hm:Nat.log2 (q.2+1) / k*k<=Nat.log2 (q.2+1):=Nat.div_mul_le_self _ _
  have h5:(RA (q.2+1-2^(Nat.log2 (q.2+1) / k*k)) (2^(Nat.log2 (q.2+1) / k*k)*2^k-2^(Nat.log2 (q.2+1) / k*k))).2<=20:=by
   have h6:PU (2^(Nat.log2 (q.2+1) / k*k)*2^k-2^(Nat.log2 (q.2+1) / k*k)-1)<=20:=by
    refine R8 ?_;have h7:=Nat.pow_le_pow_right (show 0<2 by decide) (show Nat.log2 (q.2+1) / k*k+k<=20 by omega);rw[Nat.pow_add] at h7;have:=Nat.two_pow_pos (Nat.log2 (q.2+1) / k*k);omega
   unfold RA;dsimp only;split
   ·show PU _-1<=20;omega
   ·exact h6
  rw[e];show Nat.log2 (q.2+1) / k+1+(RA _ _).2<=_;omega
def z71 {p:S6}(hp:p.Qx)(hz:p.zeta<=3){x:Nat}(hx:x<65536){succ ref:List Nat}(hs:PG succ)(hr:PG ref){r:Nat}(jn:r<=p.Pm)(L9:succ.length<=40)(Ba:ref.length<=40):(Ph (Ru p x succ ref r)).length<=6600:=by
 have ay:PG (Pq succ ref):=hs.sub List.filter_sublist
 have eK:(Pq succ ref).length<=succ.length:=List.length_filter_le _ _
 have h1:=(T9 succ ref).z18
 rw[List.length_map] at h1
 have h2:=z2C p.interval ay
 have h3:=(UE p.interval (Pq succ ref)).length_le
 have aJ:(Ru p x succ ref r).length<=165:=by
  unfold Ru;rw[List.length_cons];split
  ·simp
  rw[List.length_append,List.length_append];have e1:(if 0<p.Pm then [(Cd.unary,r)] else []).length<=1:=by split<;>simp
  have e2:(if 0<r then(Cd.gamma,(Rb succ ref).length-1)::Qo 0 (Rb succ ref).dropLast else []).length<=42:=by
   split
   ·rw[List.length_cons,Tb,List.length_dropLast];omega
   ·simp
  have e3:(if Pq succ ref=[] then [] else(if 0<p.interval then(Cd.gamma,(PV p.interval (Pq succ ref)).1.length)::PM x p.interval none (PV p.interval (Pq succ ref)).1 else [])++PN x p.zeta none (PV p.interval (Pq succ ref)).2).length<=121:=by
   split
   ·simp
   ·rw[List.length_append,Ti];split
    ·rw[List.length_cons,SA];omega
    ·simp;omega
  omega
 have:=z2z (n:=40) (L:=Ru p x succ ref r) (λq hq=>(z0m hp hx hs hr jn q hq).zde ⟨hp.2.2.1,hz⟩)
 omega
section
variable {p:Qq}{g:List (List Nat)}{E:List (Nat×Nat)}
def zfH (h:T2 p g E)(wQ:g.length<=40)(hz:p.zeta<=3){i:Nat}(hi:i<g.length):(XI p g E i).length<=6600:=by
 unfold XI
 have uo:g[i]? =some g[i]:=List.getElem?_eq_getElem hi
 have sg:i<E.length:=by have:=h.pk.el;omega
 have J6:E[i]? =some E[i]:=List.getElem?_eq_getElem sg
 have gY:=h.pk.ok.ent i _ J6
 rw[uo,J6]
 rw[uo] at gY
 show(Ph (Ru p.list i g[i] (QC g i E[i].1) E[i].1)).length<=6600
 have h2:PG (QC g i E[i].1)/\(QC g i E[i].1).length<=40:=by
  rcases Xb g i E[i].1 with e| e
  ·rw[e];exact⟨⟨List.Pairwise.nil,λy h=>(by cases h)⟩,Nat.zero_le _⟩
  ·exact⟨h.gr.ok _ e,by have:=h.gr.len e;omega⟩
 have jn:E[i].1<=p.list.Pm:=by
  rcases gY with e|⟨-,h3,-⟩
  ·rw[e];exact Nat.zero_le _
  ·exact h3
 have hm:g[i]∈g:=List.getElem_mem hi
 exact z71 h.Qx.1 hz ω (h.gr.ok _ hm) h2.1 jn (by have:=h.gr.len hm;omega) h2.2
def zbK (h:T2 p g E)(wQ:g.length<=40)(hz:p.zeta<=3):∀n,n<=g.length->(Qz p g E n).length<=n*6600
 |0,_=>by simp[Qz]
 | n + 1, hn => by
   have:=zbK h wQ hz n ω;have:=zfH h wQ hz (i:=n) ω;rw[Ta,List.length_append,Nat.add_mul];omega
def zdh {n u:Nat}(hn:1<=n):(TT n u).bits<=3*n:=by
 show(u-1) / 2^Ya n u+n<=_
 have h:u<2*n*2^Ya n u:=by
  unfold Ya;split
  ·rename_i e
   have:=(Nat.div_eq_zero_iff).1 e;omega
  ·rename_i e
   have h1:=WU (v:=u / n);have h2:=(Nat.div_lt_iff_lt_mul ω).1 h1;have h3:1<=PU (u / n):=by unfold PU;rw[if_neg e];omega
   rw[show PU (u / n)=PU (u / n)-1+1 by omega,Nat.pow_succ,Nat.mul_comm _ n,Nat.mul_comm _ 2,<-Nat.mul_assoc,Nat.mul_comm n 2] at h2;exact h2
 have h4:(u-1) / 2^Ya n u<2*n:=(Nat.div_lt_iff_lt_mul (Nat.two_pow_pos _)).2 ω
 omega
def zbe (h:T2 p g E)(wQ:g.length<=40)(hz:p.zeta<=3):(Xt p g E).length<=36000:=by
 have h1:=zbK h wQ hz g.length (Nat.le_refl _)
 have h2:g.length*6600<=40*6600:=Nat.mul_le_mul_right _ wQ
 have h3:(pfm p g E).size<=2900:=by
  have hw:Ya (g.length+1) ((Qz p g E g.length).length+1)<=30:=Zo ω;have hb:=zdh (n:=g.length+1) (u:=(Qz p g E g.length).length+1) ω;have hm:(g.length+1)*Ya (g.length+1) ((Qz p g E g.length).length+1)<=41*30:=Nat.mul_le_mul ω hw;show 12+((g.length+1)*Ya (g.length+1) ((Qz p g E g.length).length+1)+7) / 8+((TT (g.length+1) ((Qz p g E g.length).length+1)).bits+7) / 8+4*((g.length+1+63) / 64)<=2900;omega
 rw[h.len]
 unfold We
 omega
end
structure GwP where
 p:Qq
 g:List (List Nat)
 E:List (Nat×Nat)
 st:Nat
 len:Nat
 rb:Nat
 sum:Nat
 k:Nat
 x:Nat
def SQ (G:GwP)(Q:Rg)(txt:Int->OO)(K:Nat)(X:Nat->Prop)(w:World):Prop:=∃o:StO Q txt K G.st G.len (Xt G.p G.g G.E),UK (z6l o G.rb G.sum) G.k G.x X w
section
variable {G:GwP}{w w':World}{Q Q':Rg}{txt txt':Int->OO}{K K':Nat}{X Y S':Nat->Prop}
def SQ.sp (h:SQ G Q txt K X w):Sp Q txt K (λb=>X b\/b=G.rb) w:=by obtain⟨o,h⟩:=h;exact h.inv.1
def SQ.rbB (h:SQ G Q txt K X w):OU w G.rb (srC Q.s G.st G.len (Xt G.p G.g G.E).length G.sum) 186:=by obtain⟨o,h⟩:=h;exact h.inv.2.1
def SQ.rbX (h:SQ G Q txt K X w):¬X G.rb:=by obtain⟨o,h⟩:=h;exact h.inv.2.2
def SQ.lt (h:SQ G Q txt K X w):∀b,X b->b<w.heap.size:=by obtain⟨o,h⟩:=h;exact h.lt
def SQ.lt1 (h:SQ G Q txt K X w):∀b,(X b\/b=G.rb)->b<w.heap.size:=λb hb=>hb.elim (h.lt b) (λe=>by rw[e];exact h.rbB.lt)
def SQ.VB (h:SQ G Q txt K X w):K<1000000000000:=by obtain⟨o,h⟩:=h;exact o.k
def SQ.xk (h:SQ G Q txt K X w):X G.k/\X G.x/\X 1/\X 2:=by obtain⟨o,h⟩:=h;exact⟨h.xk,h.xx,h.x1,h.x2⟩
theorem SQ.ok (h:SQ G Q txt K X w):T2 G.p G.g G.E:=by obtain⟨o,h⟩:=h;exact h.ok
theorem SQ.Zb (h:SQ G Q txt K X w)(hk:Kp S' w w')(hS:∀b,S' b->¬(X b\/b=G.rb)\/(X b/\b≠G.k/\b≠G.x/\b≠1/\b≠2))(hP:Sp Q' txt' K' (λb=>X b\/b=G.rb) w')(hs:Q'.s=Q.s)(hl:Q'.L.length=Q.L.length)(hK:K'<1000000000000)(ht:∀y:Int,(G.st:Int)<=y->y<(G.st:Int)+(G.len:Int)->txt' y=txt y):SQ G Q' txt' K' X w':=by
 have uT:=h.rbX
 have BP:=h.rbB
 obtain⟨o,h⟩:=h
 have aJ:=o.len
 refine⟨⟨hK,by rw[hl];exact o.fit,o.laid.TY λk hk=>ht _ ω ω,o.len⟩,h.re hk (λj hj=>?_) ⟨hP,?_,uT⟩⟩
 ·rcases hS j hj with e| e
  ·exact⟨λe2=>e (.inl (e2▸h.xk)),λe2=>e (.inl (e2▸h.xx)),λe2=>e (.inl (e2▸h.x1)),λe2=>e (.inl (e2▸h.x2))⟩
  ·exact e.2
 ·rw[hs];exact hk.OH BP (λe=>(hS _ e).elim (λe=>e (.inr O)) (λe=>uT e.1))
def SQ.zkE (h:SQ G Q txt K X w)(hk:Kp S' w w')(hS:∀b,S' b->¬(X b\/b=G.rb))(aH:∀j,X j->Y j)(hY:∀j,Y j->X j\/(w.heap.size<=j/\j<w'.heap.size))(hP:Sp Q' txt' K' (λb=>Y b\/b=G.rb) w')(hs:Q'.s=Q.s)(hl:Q'.L.length=Q.L.length)(hK:K'<1000000000000)(ht:∀y:Int,(G.st:Int)<=y->y<(G.st:Int)+(G.len:Int)->txt' y=txt y):SQ G Q' txt' K' Y w':=by
 have uT:=h.rbX
 have BP:=h.rbB
 obtain⟨o,h⟩:=h
 have aJ:=o.len
 have hI:(z6l (⟨hK,by rw[hl];exact o.fit,o.laid.TY λk hk=>ht _ ω ω,o.len⟩:StO Q' txt' K' G.st G.len (Xt G.p G.g G.E)) G.rb G.sum).inv Y w':=⟨hP,by rw[hs];exact hk.OH BP (λe=>hS _ e (.inr O)),λe=>(hY _ e).elim uT (λe=>by have:=BP.lt;omega)⟩
 refine⟨_,⟨h.ok,hk.OH h.OH (λe=>hS _ e (.inl h.xk)),hk.OH h.ix (λe=>hS _ e (.inl h.xx)),aH _ h.xk,aH _ h.xx,hI,λj hj=>?_,aH _ h.x1,aH _ h.x2,hk.OH h.gam (λe=>hS _ e (.inl h.x1)),hk.OH h.una (λe=>hS _ e (.inl h.x2))⟩⟩
 rcases hY j hj with e| e
 ·have:=h.lt j e;have:=hk.size;omega
 ·exact e.2
def SQ.grow (h:SQ G Q txt K X w)(hx:Ext w w')(hY:∀j,Y j->X j\/(w.heap.size<=j/\j<w'.heap.size))(aH:∀j,X j->Y j):SQ G Q txt K Y w':=by
 obtain⟨o,h⟩:=h
 exact⟨o,h.grow hx hY aH⟩
def SQ.ext (h:SQ G Q txt K X w)(hx:Ext w w'):SQ G Q txt K X w':=h.grow hx (λj hj=> .inl hj) λj hj=>hj
def SQ.own (h:SQ G Q txt K X w)(hk:Kp S' w w')(hS:∀j,S' j->X j/\j≠G.k/\j≠G.x/\j≠1/\j≠2):SQ G Q txt K X w':=by
 obtain⟨o,h⟩:=h
 exact⟨o,h.own hk hS⟩
theorem SQ.step (h:SQ G Q txt K X w)(hk:Kp S' w w')(hS:∀j,S' j->X j/\j≠G.k/\j≠G.x/\j≠1/\j≠2)(hY:∀j,Y j->X j\/(w.heap.size<=j/\j<w'.heap.size))(aH:∀j,X j->Y j):SQ G Q txt K Y w':=by
 obtain⟨o,h⟩:=h
 exact⟨o,h.step hk hS hY aH⟩
def SQ.less (h:SQ G Q txt K Y w)(aH:∀j,X j->Y j)(hx:X G.k/\X G.x/\X 1/\X 2):SQ G Q txt K X w:=by
 obtain⟨o,h⟩:=h
 exact⟨o,h.less aH hx.1 hx.2.1 hx.2.2.1 hx.2.2.2⟩
theorem SQ.more (h:SQ G Q txt K X w)(hK:K<=K')(MH:K'<1000000000000):SQ G Q txt K' X w:=h.Zb (S':=λ_=>False) (Kp.refl _ w) (λ_ e=>e.elim) (h.sp.more hK) O O MH λ_ _ _=>rfl
def z0z (h:SQ G Q txt K X w):Ps prog 30 [ptr G.k 0] w λv w'=>v=I (G.g.length:Int)/\w'=w:=by
 obtain⟨o,h⟩:=h
 exact zd0 h
def z7a {l bk bi v:Nat}(jq:G.g.length<50)(hv:v<G.g.length)(h:SQ G Q txt K X w)(fB:OU w bk [ptr G.k 0] 28)(wP:OU w bi [I (v:Int)] 3)(Z:Nat->Prop)(hZ:∀j,Z j->X j)(J:(Nat->Prop)->Nat->World->Prop)(F:World->Prop)
  (h0:∀(Y:Nat->Prop) (w':World),(∀j,X j->Y j)->(∀j,Y j->X j\/w.heap.size<=j)->SQ G Q txt K Y w'->Kp (λj=>¬X j) w w'->J Y 0 w')
  (hround:∀(Y:Nat->Prop) (i s:Nat) (w':World),(∀j,X j->Y j)->(∀j,Y j->X j\/w.heap.size<=j)->(P5 G.g v)[i]? =some s->J Y i w'->z26 prog l [PD s,I 0] w' λr w''=>(r= .bool true/\J Y (i+1) w''/\Kp (λj=>¬Y j\/Z j) w' w'')\/(r= .bool false/\F w'')):
  Ps prog 170 [.func (.yield l) #[] #[],ptr bk 0,ptr bi 0] w λr w'=>r= .tuple #[]/\((∃Y,(∀j,X j->Y j)/\(∀j,Y j->X j\/w.heap.size<=j)/\J Y (P5 G.g v).length w')\/F w'):=by
 obtain⟨o,h⟩:=h
 exact z6j jq hv h fB wP Z hZ J F (λY w' h1 h2 h3 h4=>h0 Y w' h1 h2 ⟨o,h3⟩ h4) hround
end
def GrR (w:World)(gb go:Nat)(g:List (List Nat)):Prop:=∀(v:Nat) (l:List Nat),g[v]? =some l->∃(a:Option Addr) (c:Nat),w.cell? ⟨gb,go+v*1,none⟩=some (.slice a l.length c)/\∀(i x:Nat),l[i]? =some x->∃lb lo,a=some ⟨lb,lo,none⟩/\w.cell? ⟨lb,lo+i*1,none⟩=some (PD x)
def Qy {w w':World}{a:Addr}{u:Value}(hx:Ext w w')(h:w.cell? a=some u):w'.cell? a=some u:=by
 unfold World.cell? at h⊢
 cases hh:w.heap[a.block]? with
 |none=>rw[hh] at h;simp at h
 |some o=>rw[hx.heap hh id];rw[hh] at h;exact h
def GrR.ext {w w':World}{gb go:Nat}{g:List (List Nat)}(h:GrR w gb go g)(hx:Ext w w'):GrR w' gb go g:=λv l hl=>by
 obtain⟨a,c,h1,h2⟩:=h v l hl
 refine⟨a,c,Qy hx h1,λi x hi=>?_⟩
 obtain⟨lb,lo,e,h3⟩:=h2 i x hi
 exact⟨lb,lo,e,Qy hx h3⟩
theorem GrM.r {w:World}{v:Value}{g:List (List Nat)}(h:GrM w v g)(h1:1<=g.length):∃gb go gc,v= .slice (some ⟨gb,go,none⟩) g.length gc/\GrR w gb go g:=by
 obtain⟨vs,hr,hv⟩:=h.ex
 rcases hr.2 with⟨c,-,h0⟩|⟨gb,go,gc,e,hc⟩
 ·omega
 ·refine⟨gb,go,gc,e,λv l hl=>?_⟩;obtain⟨a,c,g1,g2,g3⟩:=hv v l hl;refine⟨a,c,by rw[Nat.mul_one];exact hc v _ g1,λi x hi=>?_⟩;rcases g3.2 with⟨c',-,h0⟩|⟨lb,lo,lc,e2,gF⟩
  ·have:l=[]:=List.eq_nil_of_length_eq_zero h0;rw[this] at hi;cases hi
  ·cases e2;exact⟨lb,lo,rfl,by rw[Nat.mul_one];exact gF i _ (by rw[List.getElem?_map,hi];rfl)⟩
/-! ### Distances -/
structure RwM (w:World)(bg B:Nat)(L:List (List Nat)):Prop where
 ex:∃vs:List Value,OU w bg vs 62/\vs.length=L.length/\∀(i:Nat) (l:List Nat),L[i]? =some l->∃(a:Option Addr) (c:Nat),vs[i]? =some (.slice a l.length c)/\l.length<=c/\Rd w (.slice a l.length c) 1 l.length (l.map PD)/\∀b,(Value.slice a l.length c).ownBlock=some b->B<=b/\b≠bg
section
variable {w w':World}{bg B:Nat}{L:List (List Nat)}
def RwM.ext (h:RwM w bg B L)(hx:Ext w w'):RwM w' bg B L:=by
 obtain⟨vs,h1,h2,h3⟩:=h.ex
 refine⟨vs,hx.OH h1,h2,λi l hl=>?_⟩
 obtain⟨a,c,g1,g2,g3,g4⟩:=h3 i l hl
 exact⟨a,c,g1,g2,g3.ext hx,g4⟩
def RwM.new {n:Nat}(h:OU w bg (List.replicate n (.slice none 0 0)) 62):RwM w bg B (List.replicate n []):=
 ⟨_,h,ξ,λi l hl=>by
  rw[List.getElem?_replicate] at hl;split at hl
  ·rename_i hi
   cases hl;exact⟨none,0,by rw[List.getElem?_replicate,if_pos hi];rfl,Nat.le_refl _,⟨rfl,.inl ⟨(none,0),rfl,rfl⟩⟩,λb hb=>by cases hb⟩
  ·cases hl⟩
theorem RwM.set (h:RwM w bg B L){f:Nat}{l:List Nat}{a:Option Addr}{c:Nat}(hk:Kp (λb=>b=bg) w w')(hB:∀vs,OU w bg vs 62->OU w' bg (vs.set (0+f*1) (.slice a l.length c)) 62)(hf:f<L.length)(pE:l.length<=c)(hr:Rd w (.slice a l.length c) 1 l.length (l.map PD))(ho:∀b,(Value.slice a l.length c).ownBlock=some b->B<=b/\b≠bg):RwM w' bg B (L.set f l):=by
 obtain⟨vs,h1,h2,h3⟩:=h.ex
 refine⟨_,hB vs h1,by simp[h2],λi l' hl=>?_⟩
 rw[Nat.zero_add,Nat.mul_one]
 by_cases e:f=i
 ·subst e;rw[List.getElem?_set_self hf] at hl;cases hl;exact⟨a,c,List.getElem?_set_self (by rw[h2];exact hf),pE,hr.kp hk (λb hb e=>(ho b hb).2 e),ho⟩
 ·rw[List.getElem?_set_ne e] at hl;obtain⟨a',c',g1,g2,g3,g4⟩:=h3 i l' hl;exact⟨a',c',by rw[List.getElem?_set_ne e];exact g1,g2,g3.kp hk (λb hb e=>(g4 b hb).2 e),g4⟩
def RwM.gr (h:RwM w bg B L):GrM w (.slice (some ⟨bg,0,none⟩) L.length L.length) L:=by
 obtain⟨vs,h1,h2,h3⟩:=h.ex
 refine⟨vs,⟨by rw[h2,Nat.mul_one],.inr ⟨bg,0,L.length,rfl,λj u hj=>by rw[h1.cell,Nat.zero_add];exact hj⟩⟩,λi l hl=>?_⟩
 obtain⟨a,c,g1,g2,g3,g4⟩:=h3 i l hl
 exact⟨a,c,g1,g2,g3⟩
def RwM.lt (h:RwM w bg B L):bg<w.heap.size:=by obtain⟨vs,h1,-⟩:=h.ex;exact h1.lt
theorem RwM.cell (h:RwM w bg B L){f:Nat}{l:List Nat}(hf:L[f]? =some l):∃(a:Option Addr) (c:Nat),w.cell? ⟨bg,0+f*1,none⟩=some (.slice a l.length c)/\l.length<=c/\Rd w (.slice a l.length c) 1 l.length (l.map PD)/\∀b,(Value.slice a l.length c).ownBlock=some b->B<=b/\b≠bg:=by
 obtain⟨vs,h1,h2,h3⟩:=h.ex
 obtain⟨a,c,g1,g2,g3,g4⟩:=h3 f l hf
 exact⟨a,c,by rw[h1.cell,Nat.zero_add,Nat.mul_one];exact g1,g2,g3,g4⟩
def EdR (w:World)(ea:Option Addr)(es:List (Nat×Nat)):Prop:=∀(i:Nat) (e:Nat×Nat),es[i]? =some e->e.1<4294967296/\e.2<4294967296/\∃eb eo,ea=some ⟨eb,eo,none⟩/\w.cell? ⟨eb,eo+i*2+0,none⟩=some (PD e.1)/\w.cell? ⟨eb,eo+i*2+1,none⟩=some (PD e.2)
def EdR.ext {ea:Option Addr}{es:List (Nat×Nat)}(h:EdR w ea es)(hx:Ext w w'):EdR w' ea es:=λi e he=>by
 obtain⟨h1,h2,eb,eo,h3,h4,h5⟩:=h i e he
 exact⟨h1,h2,eb,eo,h3,Qy hx h4,Qy hx h5⟩
end
def S7.insert {g:List (List Nat)}(h:S7 g){f x k:Nat}{s:List Nat}(hs:g[f]? =some s)(hx:x<g.length)(hk:k<=s.length)(h1:∀y∈s.take k,y<x)(h2:∀y∈s.drop k,x<y):S7 (g.set f (s.take k++[x]++s.drop k)):=by
 have hm:=List.mem_of_getElem? hs
 have uU:=h.ok s hm
 have aS:=h.lt s hm
 have hn:=h.n
 refine⟨λl hl=>?_,λl hl y hy=>?_,by rw[List.length_set];exact h.n⟩
 ·rcases List.mem_or_eq_of_mem_set hl with e| e
  ·exact h.ok l e
  ·subst e;refine⟨?_,λy hy=>?_⟩
   ·have hr:List.Pairwise (·<·) s:=uU.ris;show List.Pairwise (·<·) _;rw[List.append_assoc,List.pairwise_append];refine⟨hr.sublist (List.take_sublist _ _),?_,λa ha b hb=>?_⟩
    ·rw[List.singleton_append,List.pairwise_cons];exact⟨h2,hr.sublist (List.drop_sublist _ _)⟩
    ·rw[List.singleton_append] at hb;rcases List.mem_cons.1 hb with e| e
     ·rw[e];exact h1 a ha
     ·exact Nat.lt_trans (h1 a ha) (h2 b e)
   ·rcases List.mem_append.1 hy with e| e
    ·rcases List.mem_append.1 e with e| e
     ·exact uU.lt y (List.mem_of_mem_take e)
     ·rw[List.mem_singleton.1 e];omega
    ·exact uU.lt y (List.mem_of_mem_drop e)
 ·rw[List.length_set];rcases List.mem_or_eq_of_mem_set hl with e| e
  ·exact h.lt l e y hy
  ·subst e;rcases List.mem_append.1 hy with e| e
   ·rcases List.mem_append.1 e with e| e
    ·exact aS y (List.mem_of_mem_take e)
    ·rw[List.mem_singleton.1 e];exact hx
   ·exact aS y (List.mem_of_mem_drop e)
def S7.empty {n:Nat}(hn:n<=60):S7 (List.replicate n []):=
 ⟨λl hl=>by rw[List.eq_of_mem_replicate hl];exact⟨List.Pairwise.nil,λy h=>(by cases h)⟩,λl hl y hy=>(by rw[List.eq_of_mem_replicate hl] at hy;cases hy),by simpa using hn⟩
theorem OU.uniq {w:World}{b:Nat}{cs cs':List Value}{T T':TypeId}(h:OU w b cs T)(h':OU w b cs' T'):cs=cs':=by
 obtain⟨fz,h1,-⟩:=h
 obtain⟨fz',h2,-⟩:=h'
 rw[h1] at h2
 have:=RB h2
 injection this with e1 e2 e3
 have:=congrArg Array.toList e1
 simpa using this
def z9p {n:Nat}(df:1<=n)(hn:n<=40){w:World}{ea:Option Addr}{ec:Nat}{es:List (Nat×Nat)}(un:es.length<=9000000000000000000)(hE:EdR w ea es):Ps prog 6 [I (n:Int),.slice ea es.length ec] w λv w'=>∃g bg,v= .slice (some ⟨bg,0,none⟩) g.length g.length/\g.length=n/\S7 g/\RwM w' bg w.heap.size g/\Ext w w':=by
 have fA:maxLen=9223372036854775807:=rfl
 refine py (e:=[(0,_),(1,_)]) func6 O ntmps6 O O$ qN O$ R3 O$ OP O O (pmk (c:=n) (n:=n) U23 U7 O O O ω ω ω) ?_
 rintro _ w1 ⟨bg,rfl,⟨J0,ad,ai⟩,-⟩
 have io:RwM w1 bg w.heap.size (List.replicate n []):=RwM.new ai
 refine P3 O$ An$ QN O$ OL$ RN (α:=Nat×List (List Nat)) ((0,List.replicate n [])) (λy=>[(0,I (n:Int)),(1,.slice ea es.length ec),(5,.slice (some ⟨bg,0,none⟩) n n),(6,I (y.1:Int))]) (λy w'=>y.1<=es.length/\y.2.length=n/\S7 y.2/\RwM w' bg w.heap.size y.2/\Ext w w') (λy=>es.length-y.1) ?hI ?hround
 case hI=>exact⟨Nat.zero_le _,ξ,S7.empty ω,io,ad⟩
 case hround =>
  rintro⟨i,g⟩ w2 ⟨hi,fT,ay,dg,ae⟩ ih;dsimp only at hi fT ay dg ae ih⊢
  try dsimp only
  refine An$ QI O$ RO U22 O$ QV O$ OJ$ OX O (λhq=>?_)$ λhq=>?_
  ·have dq : i < es.length := by omega
   obtain⟨e,he⟩:∃e,es[i]? =some e:=⟨_,List.getElem?_eq_getElem dq⟩;obtain⟨e1,e2,eb,eo,rfl,ib,gF⟩:=(hE.ext ae) i e he;refine OK$ QO$ An$ QI O$ qV (Qc U22 z4u O O ω)$ P4 z6f O$ qV (PC QU O O ib)$ qV (PQ O QU U3 ω)$ OT O ?_;by_cases hf:e.1<n
   ·by_cases ht:e.2<n
    ·refine Uh O$ PO$ Pl O$ OT O$ qV (Qc U22 z4u O O ω)$ P4 z1w O$ qV (PC QU O O gF)$ qV (PQ O QU U3 ω)$ OT O$ Uh O$ PO ?_;obtain⟨s,hs⟩:∃s,g[e.1]? =some s:=⟨_,List.getElem?_eq_getElem ω⟩;obtain⟨a,c,fV,pE,eB,Oh⟩:=dg.cell hs;have fL:s.length<=n:=by rw[<-fT];exact ay.len (List.mem_of_getElem? hs)
     refine PT O$ Qm O$ QI O$ OT O$ qV (Qc U22 z4u O O ω)$ P4 z6f O$ qV (PC QU O O ib)$ qV (Qc U23 U7 O O ω)$ qV (PC Pz O O fV)$ QW O$ P3 O$ QO ?_;have uK:List.Pairwise (·<·) s:=(ay.ok s (List.mem_of_getElem? hs)).ris
     have MI:∀(k y:Nat),s[k]? =some y->∀z∈s.drop k,y<=z:=λk y hy z hz=>by
      have nl:k<s.length:=by
       rcases Nat.lt_or_ge k s.length with h| h
       ·exact h
       ·rw[List.getElem?_eq_none h] at hy;cases hy
      have h1:List.Pairwise (·<·) (s.drop k):=uK.sublist (List.drop_sublist _ _);rw[List.drop_eq_getElem_cons nl] at h1 hz;rw[List.getElem?_eq_getElem nl] at hy;cases hy;rcases List.mem_cons.1 hz with e| e
      ·omega
      ·exact Nat.le_of_lt ((List.pairwise_cons.1 h1).1 z e)
     refine SN (λe' w'=>∃k:Nat,e'=[(0,I (n:Int)),(1,.slice (some ⟨eb,eo,none⟩) es.length ec),(5,.slice (some ⟨bg,0,none⟩) n n),(6,I (i:Int)),(7,.slice a s.length c),(8,I (k:Int))]/\k<=s.length/\(∀y∈s.take k,y<e.2)/\(∀y,s[k]? =some y->e.2<=y)/\Ext w2 w') ?na$ λna=>?Ga
     case na =>
      rintro e' w3 ⟨k,rfl,hk,ij,cY,ah⟩;have ag:=Ext.Pa w3;have uV:=eB.ext ah;have uW:=Qy ah gF;refine An$ PI (λe' w'=>∃q,e'=[(0,I (n:Int)),(1,.slice (some ⟨eb,eo,none⟩) es.length ec),(5,.slice (some ⟨bg,0,none⟩) n n),(6,I (i:Int)),(7,.slice a s.length c),(8,I (k:Int)),(76,.bool q)]/\(q=true->∀y∈s.drop k,e.2<y)/\Ext w2 w') ?cX$ λcX=>?iP
      case cX =>
       rintro e' w4 ⟨q,rfl,uM,aG⟩;have fd:=dg.ext aG;have mK:=eB.ext aG;have G6:=Qy aG ib;have G7:=Qy aG gF;have cF:=ae.trans aG;refine Qk O (λBQ=>?_)$ λBQ=>?_
       ·have ax:=Ext.Pa w4;have bY:=ax.size;have II:w.heap.size<=w4.heap.size:=cF.size;have MJ:=fd.lt
        have oL:((s.take k++[e.2])++s.drop k).length=s.length+1:=by
         rw[List.length_append,List.length_append,List.length_take,List.length_drop,List.length_singleton];omega
        have iR:∀(l:List Nat),∀c∈l.map PD,c.oneCell'=true:=λl c hc=>by obtain⟨z,-,rfl⟩:=List.mem_map.1 hc;rfl
        have nA:(s.take k).length=k:=by rw[List.length_take];omega
        have pq:(s.drop k).length=s.length-k:=List.length_drop ..;obtain⟨vs,rj,sk,-⟩:=id fd.ex;refine Pk [23] (λw'=>Ext w4 w') (by kernel_rfl) O$ PW 0 O O (ax)$ PW 1 O O (ax)$ PW 2 O O (ax)$ Pr 3 O (Qc U22 z4u O O ω) ax$ Pr 4 O (Px z6f O) ax$ PW 7 O O (ax)$ PW 8 O O (ax)$ PW 11 O O (ax)$ PW 12 O O (ax)$ Pr 13 O (Qc U22 z4u O O ω) ax$ Pr 14 O (Px z1w O) ax$ PW 18 O O (ax)$ PW 19 O O (ax) ?_;refine qL 5 O (λ_ h=>PC QU O O (Qy h G6)) ax$ Pr 9 O (zca Pz Pc O O ω) ax$ qL 15 O (λ_ h=>PC QU O O (Qy h G7)) ax$ Pr 20 O (Yq Pz Pc O O hk pE) ax$ Xn (i:=6) (j:=16) (by kernel_rfl) ?_ ?_
        ·refine Qv (i:=6) O O O (Yx (cs:=[]) (zs:=[]) Pz Pc O (by kernel_rfl) O O O ψ) ?_;rintro v6 w6 ⟨b6,rfl,⟨nD,aR,aX⟩,fQ⟩;refine⟨ax.trans aR,?_⟩;have G8:w4.heap.size<=b6:=by omega
         have lb6:=aX.lt;have ax:=ax.trans aR
         try have ct:=ct.ext aR
         have bY:=Nat.le_trans bY aR.size;refine Xn (i:=10) (j:=16) (by kernel_rfl) ?_ ?_
         ·refine Qv (i:=10) O O O (pap Pz Pc O ψ O O fQ ((UX (i:=k) mK hk).ext ax) (λc hc=>iR s c (List.mem_of_mem_take hc)) ω ω) ?_;rintro v10 w10 ⟨bT,aA,co,-⟩;refine⟨ax.It aA (λj e=>by have e:b6=j:=RB e;omega),?_⟩;have ax:=ax.It aA (λj e=>by have e:b6=j:=RB e;omega)
          try have ct:=ct.kp aA (λj hj e=>by have e:b6=j:=RB e;have hj:b16=j:=RB hj;omega)
          have co:∀j,v10.ownBlock=some j->w4.heap.size<=j:=λj hj=>by rcases co j hj with e|e;(have e:b6=j:=RB e;omega);omega
          have bY:=Nat.le_trans bY aA.size;have Aj:=λ(j:Nat) (hj:v10.ownBlock=some j)=>bT.lt hj;refine Rf (i:=16) (by kernel_rfl)$ Qv (i:=16) O O O (Yx (cs:=[_]) (zs:=[Value.int .u32 0]) Pz Pc O (by kernel_rfl) O O O ψ) ?_;rintro v16 w16 ⟨b16,rfl,⟨Ak,bA,kX⟩,ct⟩;refine⟨ax.trans bA,?_⟩;have Al:w4.heap.size<=b16:=by omega
          have ax:=ax.trans bA
          try have fQ:=fQ.ext bA
          try have bT:=bT.ext bA
          have lb16:=kX.lt;have bY:=Nat.le_trans bY bA.size;refine Rf (i:=17) (by kernel_rfl)$ Qv (i:=17) O O O (pap Pz Pc O ψ O O bT ct.rd (λc hc=>iR [e.2] c hc) ω ω) ?_;rintro v17 w17 ⟨iB,cN,dT,-⟩;refine⟨ax.It cN (λj e=>co j e),?_⟩;have ax:=ax.It cN (λj e=>co j e);have dT:∀j,v17.ownBlock=some j->w4.heap.size<=j:=λj hj=>by rcases dT j hj with e|e;exact co j e;omega
          have bY:=Nat.le_trans bY cN.size;refine Rf (i:=21) (by kernel_rfl)$ Qv (i:=21) O O O (pap Pz Pc O ψ O O iB ((TO (i:=k) mK hk pE).ext ax) (λc hc=>iR s c (List.mem_of_mem_drop hc)) ω ω) ?_;rintro v21 w21 ⟨dU,jD,gC,-⟩;refine⟨ax.It jD (λj e=>dT j e),?_⟩;have ax:=ax.It jD (λj e=>dT j e);have gC:∀j,v21.ownBlock=some j->w4.heap.size<=j:=λj hj=>by rcases gC j hj with e|e;exact dT j e;omega
          refine Pr 22 O (Qc U23 U7 O O ω) ax ?_;have jE:=ax.OH rj;refine Ty [23]$ qO 23$ PJ (i:=23) O O (QP U7 O O (X8 dU) jE (by rw[sk];omega)) ?_;rintro w23 ⟨bE,cJ⟩;refine⟨trivial,?_⟩;refine qE$ OG$ Rp O$ Q4 O$ P3 O ?_;rw[show 0+k+1+(s.length-k)=(s.take k++[e.2]++s.drop k).length by rw[oL];omega,show([]++List.take k (s.map PD)++[PD e.2]++List.drop k (s.map PD))=(s.take k++[e.2]++s.drop k).map PD by simp[List.map_take,List.map_drop]] at dU;obtain⟨ra,rc,rfl,-⟩:=dU.rd.shape
          have Am:(s.take k++[e.2]++s.drop k).length<=rc:=by
           rcases dU.shape with⟨e1,e2⟩|⟨gg,cc,e1,e2⟩
           ·omega
           ·cases e1;exact e2
          have oM:=(fd.ext ax).set cJ (f:=e.1) (l:=s.take k++[e.2]++s.drop k) (a:=ra) (c:=rc) (λvs' h'=>by rw[OU.uniq h' jE];exact bE) ω Am dU.rd (λj hj=>by have:=gC j hj;omega);have oN:=ay.insert hs (x:=e.2) (k:=k) ω hk ij (uM BQ);exact(ih (i+1,g.set e.1 (s.take k++[e.2]++s.drop k)) _ ⟨ω,by rw[List.length_set];exact fT,oN,oM,(cF.trans ax).It cJ (λj e=>by omega)⟩ ω).qb
         ·refine Qv (i:=16) O O O (Yx (cs:=[_]) (zs:=[Value.int .u32 0]) Pz Pc O (by kernel_rfl) O O O ψ) ?_;rintro v16 w16 ⟨b16,rfl,⟨Ak,bA,kX⟩,ct⟩;refine⟨ax.trans bA,?_⟩;have Al:w4.heap.size<=b16:=by omega
          have ax:=ax.trans bA
          try have fQ:=fQ.ext bA
          try have bT:=bT.ext bA
          have lb16:=kX.lt;have bY:=Nat.le_trans bY bA.size;refine Rf (i:=10) (by kernel_rfl)$ Qv (i:=10) O O O (pap Pz Pc O ψ O O fQ ((UX (i:=k) mK hk).ext ax) (λc hc=>iR s c (List.mem_of_mem_take hc)) ω ω) ?_;rintro v10 w10 ⟨bT,aA,co,-⟩;refine⟨ax.It aA (λj e=>by have e:b6=j:=RB e;omega),?_⟩;have ax:=ax.It aA (λj e=>by have e:b6=j:=RB e;omega)
          try have ct:=ct.kp aA (λj hj e=>by have e:b6=j:=RB e;have hj:b16=j:=RB hj;omega)
          have co:∀j,v10.ownBlock=some j->w4.heap.size<=j:=λj hj=>by rcases co j hj with e|e;(have e:b6=j:=RB e;omega);omega
          have bY:=Nat.le_trans bY aA.size;have Aj:=λ(j:Nat) (hj:v10.ownBlock=some j)=>bT.lt hj;refine Rf (i:=17) (by kernel_rfl)$ Qv (i:=17) O O O (pap Pz Pc O ψ O O bT ct.rd (λc hc=>iR [e.2] c hc) ω ω) ?_;rintro v17 w17 ⟨iB,cN,dT,-⟩;refine⟨ax.It cN (λj e=>co j e),?_⟩;have ax:=ax.It cN (λj e=>co j e);have dT:∀j,v17.ownBlock=some j->w4.heap.size<=j:=λj hj=>by rcases dT j hj with e|e;exact co j e;omega
          have bY:=Nat.le_trans bY cN.size;refine Rf (i:=21) (by kernel_rfl)$ Qv (i:=21) O O O (pap Pz Pc O ψ O O iB ((TO (i:=k) mK hk pE).ext ax) (λc hc=>iR s c (List.mem_of_mem_drop hc)) ω ω) ?_;rintro v21 w21 ⟨dU,jD,gC,-⟩;refine⟨ax.It jD (λj e=>dT j e),?_⟩;have ax:=ax.It jD (λj e=>dT j e);have gC:∀j,v21.ownBlock=some j->w4.heap.size<=j:=λj hj=>by rcases gC j hj with e|e;exact dT j e;omega
          refine Pr 22 O (Qc U23 U7 O O ω) ax ?_;have jE:=ax.OH rj;refine Ty [23]$ qO 23$ PJ (i:=23) O O (QP U7 O O (X8 dU) jE (by rw[sk];omega)) ?_;rintro w23 ⟨bE,cJ⟩;refine⟨trivial,?_⟩;refine qE$ OG$ Rp O$ Q4 O$ P3 O ?_;rw[show 0+k+1+(s.length-k)=(s.take k++[e.2]++s.drop k).length by rw[oL];omega,show([]++List.take k (s.map PD)++[PD e.2]++List.drop k (s.map PD))=(s.take k++[e.2]++s.drop k).map PD by simp[List.map_take,List.map_drop]] at dU;obtain⟨ra,rc,rfl,-⟩:=dU.rd.shape
          have Am:(s.take k++[e.2]++s.drop k).length<=rc:=by
           rcases dU.shape with⟨e1,e2⟩|⟨gg,cc,e1,e2⟩
           ·omega
           ·cases e1;exact e2
          have oM:=(fd.ext ax).set cJ (f:=e.1) (l:=s.take k++[e.2]++s.drop k) (a:=ra) (c:=rc) (λvs' h'=>by rw[OU.uniq h' jE];exact bE) ω Am dU.rd (λj hj=>by have:=gC j hj;omega);have oN:=ay.insert hs (x:=e.2) (k:=k) ω hk ij (uM BQ);exact(ih (i+1,g.set e.1 (s.take k++[e.2]++s.drop k)) _ ⟨ω,by rw[List.length_set];exact fT,oN,oM,(cF.trans ax).It cJ (λj e=>by omega)⟩ ω).qb
        ·refine Qv (i:=16) O O O (Yx (cs:=[_]) (zs:=[Value.int .u32 0]) Pz Pc O (by kernel_rfl) O O O ψ) ?_;rintro v16 w16 ⟨b16,rfl,⟨Ak,bA,kX⟩,ct⟩;refine⟨ax.trans bA,?_⟩;have Al:w4.heap.size<=b16:=by omega
         have ax:=ax.trans bA
         try have fQ:=fQ.ext bA
         try have bT:=bT.ext bA
         have lb16:=kX.lt;have bY:=Nat.le_trans bY bA.size;refine Rf (i:=6) (by kernel_rfl)$ Qv (i:=6) O O O (Yx (cs:=[]) (zs:=[]) Pz Pc O (by kernel_rfl) O O O ψ) ?_;rintro v6 w6 ⟨b6,rfl,⟨nD,aR,aX⟩,fQ⟩;refine⟨ax.trans aR,?_⟩;have G8:w4.heap.size<=b6:=by omega
         have lb6:=aX.lt;have ax:=ax.trans aR
         try have ct:=ct.ext aR
         have bY:=Nat.le_trans bY aR.size;refine Rf (i:=10) (by kernel_rfl)$ Qv (i:=10) O O O (pap Pz Pc O ψ O O fQ ((UX (i:=k) mK hk).ext ax) (λc hc=>iR s c (List.mem_of_mem_take hc)) ω ω) ?_;rintro v10 w10 ⟨bT,aA,co,-⟩;refine⟨ax.It aA (λj e=>by have e:b6=j:=RB e;omega),?_⟩;have ax:=ax.It aA (λj e=>by have e:b6=j:=RB e;omega)
         try have ct:=ct.kp aA (λj hj e=>by have e:b6=j:=RB e;have hj:b16=j:=RB hj;omega)
         have co:∀j,v10.ownBlock=some j->w4.heap.size<=j:=λj hj=>by rcases co j hj with e|e;(have e:b6=j:=RB e;omega);omega
         have bY:=Nat.le_trans bY aA.size;have Aj:=λ(j:Nat) (hj:v10.ownBlock=some j)=>bT.lt hj;refine Rf (i:=17) (by kernel_rfl)$ Qv (i:=17) O O O (pap Pz Pc O ψ O O bT ct.rd (λc hc=>iR [e.2] c hc) ω ω) ?_;rintro v17 w17 ⟨iB,cN,dT,-⟩;refine⟨ax.It cN (λj e=>co j e),?_⟩;have ax:=ax.It cN (λj e=>co j e);have dT:∀j,v17.ownBlock=some j->w4.heap.size<=j:=λj hj=>by rcases dT j hj with e|e;exact co j e;omega
         have bY:=Nat.le_trans bY cN.size;refine Rf (i:=21) (by kernel_rfl)$ Qv (i:=21) O O O (pap Pz Pc O ψ O O iB ((TO (i:=k) mK hk pE).ext ax) (λc hc=>iR s c (List.mem_of_mem_drop hc)) ω ω) ?_;rintro v21 w21 ⟨dU,jD,gC,-⟩;refine⟨ax.It jD (λj e=>dT j e),?_⟩;have ax:=ax.It jD (λj e=>dT j e);have gC:∀j,v21.ownBlock=some j->w4.heap.size<=j:=λj hj=>by rcases gC j hj with e|e;exact dT j e;omega
         refine Pr 22 O (Qc U23 U7 O O ω) ax ?_;have jE:=ax.OH rj;refine Ty [23]$ qO 23$ PJ (i:=23) O O (QP U7 O O (X8 dU) jE (by rw[sk];omega)) ?_;rintro w23 ⟨bE,cJ⟩;refine⟨trivial,?_⟩;refine qE$ OG$ Rp O$ Q4 O$ P3 O ?_;rw[show 0+k+1+(s.length-k)=(s.take k++[e.2]++s.drop k).length by rw[oL];omega,show([]++List.take k (s.map PD)++[PD e.2]++List.drop k (s.map PD))=(s.take k++[e.2]++s.drop k).map PD by simp[List.map_take,List.map_drop]] at dU;obtain⟨ra,rc,rfl,-⟩:=dU.rd.shape
         have Am:(s.take k++[e.2]++s.drop k).length<=rc:=by
          rcases dU.shape with⟨e1,e2⟩|⟨gg,cc,e1,e2⟩
          ·omega
          ·cases e1;exact e2
         have oM:=(fd.ext ax).set cJ (f:=e.1) (l:=s.take k++[e.2]++s.drop k) (a:=ra) (c:=rc) (λvs' h'=>by rw[OU.uniq h' jE];exact bE) ω Am dU.rd (λj hj=>by have:=gC j hj;omega);have oN:=ay.insert hs (x:=e.2) (k:=k) ω hk ij (uM BQ);exact(ih (i+1,g.set e.1 (s.take k++[e.2]++s.drop k)) _ ⟨ω,by rw[List.length_set];exact fT,oN,oM,(cF.trans ax).It cJ (λj e=>by omega)⟩ ω).qb
       ·refine OK$ OG$ Rp O$ Q4 O$ P3 O ?_;exact(ih (i+1,g) _ ⟨ω,fT,ay,fd,cF⟩ ω).qb
      case iP=>
       refine R0 (λw'=>Ext w3 w') O$ P8 0 O O (ag)$ P8 1 O O (ag)$ OM 2 O (SI Pz O) ag ?_;by_cases lD:k=s.length
       ·refine OM 3 O (yeq O O) ag$ TN$ P8 4 O O (ag)$ qJ 5 O (ag)$ qJ 6 O (ag)$ qJ 7 O (ag)$ qJ 8 O (ag)$ qJ 9 O (ag)$ qJ 10 O (ag)$ qJ 11 O (ag)$ qJ 12 O (ag)$ qJ 13 O (ag)$ qJ 14 O (ag)$ OM 15 O (UG O O) ag ?_;refine qE ?_;exact(cX _ _ ⟨true,rfl,λ_ y hy=>(by rw[lD,List.drop_length] at hy;cases hy),ah.trans ag⟩).qb
       ·obtain⟨y,hy⟩:∃y,s[k]? =some y:=⟨_,List.getElem?_eq_getElem ω⟩;rcases uV.2 with⟨⟨ca,cc⟩,jg,wG⟩|⟨lb,lo,cap,jg,fF⟩
        ·omega
        cases jg;have G9:w3.cell? ⟨lb,lo+k*1,none⟩=some (PD y):=fF (k*1) _ (by rw[Nat.mul_one,List.getElem?_map,hy];rfl);refine OM 3 O (yeq O O) ag$ TC$ P8 4 O O (ag)$ P8 5 O O (ag)$ P8 6 O O (ag)$ OM 7 O (Qc Pz Pc O O ω) ag$ P8 9 O O (ag)$ P8 10 O O (ag)$ OM 11 O (Qc U22 z4u O O ω) ag$ OM 12 O (Px z1w O) ag$ qT 8 O (λ_ h=>PC QU O O (Qy h G9)) ag$ qT 13 O (λ_ h=>PC QU O O (Qy h uW)) ag ?_;have BR:=cY y hy;by_cases HT:y=e.2
        ·refine OM 14 O (yne O O) ag$ TC$ OM 15 O (U6 O O) ag$ qE ?_;exact(cX _ _ ⟨false,rfl,λe=>(by cases e),ah.trans ag⟩).qb
        ·refine OM 14 O (yne O O) ag$ TN$ OM 15 O (U6 O O) ag$ qE ?_;exact(cX _ _ ⟨true,rfl,λ_ z hz=>(by have:=MI k y hy z hz;omega),ah.trans ag⟩).qb
     case Ga=>
      refine RN (α:=Nat) (0) (λk=>[(0,I (n:Int)),(1,.slice (some ⟨eb,eo,none⟩) es.length ec),(5,.slice (some ⟨bg,0,none⟩) n n),(6,I (i:Int)),(7,.slice a s.length c),(8,I (k:Int))]) (λk w'=>k<=s.length/\(∀y∈s.take k,y<e.2)/\Ext w2 w') (λk=>s.length-k) ?hI ?hround
      case hI=>exact⟨Nat.zero_le _,λy hy=>(by simp at hy),Ext.refl _⟩
      case hround=>
       rintro k w3 ⟨hk,ij,ah⟩ ih2;have ag:=Ext.Pa w3;have uV:=eB.ext ah;have uW:=Qy ah gF
       try dsimp only
       refine An$ An$ R0 (λw'=>Ext w3 w') O$ P8 0 O O (ag)$ P8 1 O O (ag)$ OM 2 O (SI Pz O) ag ?_;by_cases nl:k<s.length
       ·obtain⟨y,hy⟩:∃y,s[k]? =some y:=⟨_,List.getElem?_eq_getElem nl⟩;rcases uV.2 with⟨⟨ca,cc⟩,jg,wG⟩|⟨lb,lo,cap,jg,fF⟩
        ·omega
        cases jg;have G9:w3.cell? ⟨lb,lo+k*1,none⟩=some (PD y):=fF (k*1) _ (by rw[Nat.mul_one,List.getElem?_map,hy];rfl);refine OM 3 O (ylt O O) ag$ TN$ P8 4 O O (ag)$ P8 5 O O (ag)$ P8 6 O O (ag)$ OM 7 O (Qc Pz Pc O O ω) ag$ P8 9 O O (ag)$ P8 10 O O (ag)$ OM 11 O (Qc U22 z4u O O ω) ag$ OM 12 O (Px z1w O) ag$ qT 8 O (λ_ h=>PC QU O O (Qy h G9)) ag$ qT 13 O (λ_ h=>PC QU O O (Qy h uW)) ag ?_;by_cases BR:y<e.2
        ·refine OM 14 O (ylt O O) ag$ TN$ OM 15 O (UG O O) ag$ qE$ OZ O$ OK$ OL$ Rp O$ Q4 O$ P3 O$ OG ((ih2 (k+1) _ ⟨ω,λz hz=>?_,ah.trans ag⟩ ω).qb);rw[PK hy] at hz;rcases List.mem_append.1 hz with e'|e'
         ·exact ij z e'
         ·rw[List.mem_singleton.1 e'];exact BR
        ·refine OM 14 O (ylt O O) ag$ TC$ OM 15 O (UG O O) ag$ qE$ OR O$ OV O ?_;exact(na _ _ ⟨k,rfl,hk,ij,λz hz=>(by rw[hy] at hz;cases hz;omega),ah.trans ag⟩).qb
       ·refine OM 3 O (ylt O O) ag$ TC$ P8 4 O O (ag)$ qJ 5 O (ag)$ qJ 6 O (ag)$ qJ 7 O (ag)$ qJ 8 O (ag)$ qJ 9 O (ag)$ qJ 10 O (ag)$ qJ 11 O (ag)$ qJ 12 O (ag)$ qJ 13 O (ag)$ qJ 14 O (ag)$ OM 15 O (U6 O O) ag ?_;refine qE$ OR O$ OV O ?_;exact(na _ _ ⟨k,rfl,hk,ij,λz hz=>(by rw[List.getElem?_eq_none ω] at hz;cases hz),ah.trans ag⟩).qb
    ·refine Uh O$ PO$ Pl O$ OT O$ qV (Qc U22 z4u O O ω)$ P4 z1w O$ qV (PC QU O O gF)$ qV (PQ O QU U3 ω)$ OT O$ Uh O$ RP$ PT O$ OJ$ OZ O ?_;refine OV O$ Rp O$ Q4 O$ P3 O ?_;exact(ih (i+1,g) _ ⟨ω,fT,ay,dg,ae⟩ ω).qb
   ·refine Uh O$ RP$ OT O$ QY$ QY$ QY$ QY$ Ra O$ OJ$ OZ O$ OV O$ Rp O$ Q4 O$ P3 O ?_;exact(ih (i+1,g) _ ⟨ω,fT,ay,dg,ae⟩ ω).qb
  ·refine OV O$ Pt O$ P3 O$ OI func6 O ?_;exact⟨_,rfl,g,bg,by rw[fT];rfl,fT,ay,dg,ae⟩
def Vp (g:List (List Nat))(v i u:Nat):List Nat:=(List.range v).filter (λx=>decide (u∈P5 g x))++(if u∈(P5 g v).take i then [v] else [])
def UJ (g:List (List Nat))(v i:Nat):List (List Nat):=(List.range g.length).map (Vp g v i)
def Qu (g:List (List Nat)):List (List Nat):=UJ g g.length 0
def z6R (g:List (List Nat))(v u:Nat):Vp g v (P5 g v).length u=Vp g (v+1) 0 u:=by
 unfold Vp
 rw[List.take_length,List.range_succ,List.filter_append]
 by_cases h:u∈P5 g v<;>simp[h]
theorem To (g:List (List Nat))(v i:Nat):(UJ g v i).length=g.length:=by simp[UJ]
theorem Vy (g:List (List Nat))(v i:Nat){u:Nat}(hu:u<g.length):(UJ g v i)[u]? =some (Vp g v i u):=by
 unfold UJ
 rw[List.getElem?_map,List.getElem?_range hu];rfl
def z9R (g:List (List Nat))(v i u:Nat):(Vp g v i u).length<=v+1:=by
 unfold Vp
 have h1:=List.length_filter_le (λx=>decide (u∈P5 g x)) (List.range v)
 rw[List.length_range] at h1
 rw[List.length_append]
 split<;>simp<;>omega
theorem za3 {g:List (List Nat)}(ay:S7 g){v i u:Nat}(hu:(P5 g v)[i]? =some u):(UJ g v i).set u (Vp g v i u++[v])=UJ g v (i+1):=by
 have sJ:=Yk ay v u (List.mem_of_getElem? hu)
 have eU:u∉(P5 g v).take i:=λh=>by
  have kV:v<g.length:=by
   rcases Nat.lt_or_ge v g.length with h| h
   ·exact h
   ·unfold P5 at hu;rw[List.getElem?_eq_none h] at hu;cases hu
  have hr:List.Pairwise (·<·) (P5 g v):=by
   unfold P5;rw[List.getElem?_eq_getElem kV];exact(ay.ok _ (List.getElem_mem kV)).ris
  have h2:=PK hu;have h3:List.Pairwise (·<·) ((P5 g v).take (i+1)):=hr.sublist (List.take_sublist _ _);rw[h2,List.pairwise_append] at h3;have:=h3.2.2 u h u List.mem_cons_self;omega
 apply List.ext_getElem?
 intro x
 by_cases hx:u=x
 ·subst hx;rw[List.getElem?_set_self (by rw[To];exact sJ),Vy _ _ _ sJ]
  congr 1
  unfold Vp;rw[if_neg eU,List.append_nil,PK hu,if_pos ξ]
 ·rw[List.getElem?_set_ne hx];by_cases oI:x<g.length
  ·rw[Vy _ _ _ oI,Vy _ _ _ oI]
   congr 1
   unfold Vp
   congr 1
   rw[PK hu]
   have:x∈(P5 g v).take i++[u]↔x∈(P5 g v).take i:=by
    rw[List.mem_append,List.mem_singleton];exact⟨λe=>e.resolve_right λe=>hx e.symm,.inl⟩
   simp only[this]
  ·rw[List.getElem?_eq_none (by rw[To];omega),List.getElem?_eq_none (by rw[To];omega)]
theorem Z5 (g:List (List Nat)){u:Nat}(hu:u<g.length):(Qu g)[u]? =some ((List.range g.length).filter λx=>decide (u∈P5 g x)):=by
 unfold Qu
 rw[Vy _ _ _ hu]
 unfold Vp
 rw[List.take_zero,if_neg ξ,List.append_nil]
theorem RZ (g:List (List Nat)):(Qu g).length=g.length:=To _ _ _
def Yv {g:List (List Nat)}(h:S7 g):S7 (Qu g):=by
 have hl:=RZ g
 have gz:∀l∈Qu g,∃u,l=(List.range g.length).filter λx=>decide (u∈P5 g x):=λl hm=>by
  obtain⟨u,hu⟩:=List.getElem?_of_mem hm
  have sJ:u<g.length:=by
   rcases Nat.lt_or_ge u g.length with h| h
   ·exact h
   ·rw[List.getElem?_eq_none ω] at hu;cases hu
  rw[Z5 g sJ] at hu;exact⟨u,(RB hu).symm⟩
 have hn:=h.n
 refine⟨λl hm=>?_,λl hm y hy=>?_,ω⟩
 ·obtain⟨u,rfl⟩:=gz l hm;exact⟨(List.pairwise_lt_range).sublist List.filter_sublist,λy hy=>by have:=List.mem_range.1 (List.mem_filter.1 hy).1;omega⟩
 ·obtain⟨u,rfl⟩:=gz l hm;have:=List.mem_range.1 (List.mem_filter.1 hy).1;omega
structure RwA (w:World)(bg B:Nat)(L:List (List Nat)):Prop where
 ex:∃vs:List Value,OU w bg vs 62/\vs.length=L.length/\(∀(i:Nat) (l:List Nat),L[i]? =some l->∃v:Value,vs[i]? =some v/\Sl w v 59 1 l.length (l.map PD)/\∀b,v.ownBlock=some b->B<=b/\b≠bg)/\∀(i j:Nat) (vi vj:Value) (b:Nat),i≠j->vs[i]? =some vi->vs[j]? =some vj->vi.ownBlock=some b->vj.ownBlock≠some b
section
variable {w w':World}{bg B:Nat}{L:List (List Nat)}
def RwA.new {n:Nat}(h:OU w bg (List.replicate n (.slice none 0 0)) 62):RwA w bg B (List.replicate n []):=by
 refine⟨_,h,ξ,λi l hl=>?_,λi j vi vj b _ hi _ hb=>?_⟩
 ·rw[List.getElem?_replicate] at hl;split at hl
  ·rename_i hi
   cases hl;exact⟨.slice none 0 0,by rw[List.getElem?_replicate,if_pos hi],Sl.nil w _ 1,λb hb=>by cases hb⟩
  ·cases hl
 ·have:=List.mem_of_getElem? hi;rw[List.eq_of_mem_replicate this] at hb;cases hb
theorem RwA.rw (h:RwA w bg B L):RwM w bg B L:=by
 obtain⟨vs,h1,h2,h3,h4⟩:=h.ex
 refine⟨vs,h1,h2,λi l hl=>?_⟩
 obtain⟨v,g1,g2,g3⟩:=h3 i l hl
 obtain⟨a,c,rfl,-⟩:=g2.rd.shape
 refine⟨a,c,g1,?_,g2.rd,g3⟩
 rcases g2.shape with⟨e1,e2⟩|⟨gg,cc,e1,e2⟩
 ·omega
 ·cases e1;exact e2
theorem RwA.put {w2:World}(h:RwA w bg B L){u:Nat}{l l':List Nat}{v v':Value}{vs:List Value}(rj:OU w bg vs 62)(hu:L[u]? =some l)(hv:vs[u]? =some v)(hk:Kp (λb=>v.ownBlock=some b) w w')(hS:Sl w' v' 59 1 l'.length (l'.map PD))(ho:∀b,v'.ownBlock=some b->v.ownBlock=some b\/w.heap.size<=b)(am:Kp (λb=>b=bg) w' w2)(hB:OU w2 bg (vs.set (0+u*1) v') 62)(vS:B<=w.heap.size):RwA w2 bg B (L.set u l'):=by
 obtain⟨vs0,h1,h2,h3,h4⟩:=h.ex
 have e0:=h1.uniq rj
 subst e0
 rw[Nat.zero_add,Nat.mul_one] at hB
 obtain⟨v0,g1,g2,g3⟩:=h3 u l hu
 rw[hv] at g1
 cases g1
 have fi:=h1.lt
 have tp:u<L.length:=by
  rcases Nat.lt_or_ge u L.length with h| h
  ·exact h
  ·rw[List.getElem?_eq_none h] at hu;cases hu
 have B8:∀b,v'.ownBlock=some b->B<=b/\b≠bg:=λb hb=>by
  rcases ho b hb with e| e
  ·exact g3 b e
  ·omega
 have aS:∀(j:Nat) (vj:Value) (b:Nat),vs0[j]? =some vj->vj.ownBlock=some b->b<w.heap.size:=λj vj b hj hb=>by
  obtain⟨lj,MK⟩:∃lj,L[j]? =some lj:=⟨_,List.getElem?_eq_getElem (by
   rw[<-h2];rcases Nat.lt_or_ge j vs0.length with h| h
   ·exact h
   ·rw[List.getElem?_eq_none h] at hj;cases hj)⟩
  obtain⟨vj',k1,k2,-⟩:=h3 j lj MK;rw[hj] at k1;cases k1;exact k2.lt hb
 refine⟨_,hB,by simp[h2],λi li hl=>?_,λi j vi vj b gL hi hj hb=>?_⟩
 ·by_cases e:u=i
  ·subst e;rw[List.getElem?_set_self tp] at hl;cases hl;exact⟨v',List.getElem?_set_self (by rw[h2];exact tp),hS.kp am (λb hb e=>(B8 b hb).2 e),B8⟩
  ·rw[List.getElem?_set_ne e] at hl;obtain⟨vi,k1,k2,k3⟩:=h3 i li hl;exact⟨vi,by rw[List.getElem?_set_ne e];exact k1,(k2.kp hk (λb hb e2=>h4 u i v vi b e hv k1 e2 hb)).kp am (λb hb e=>(k3 b hb).2 e),k3⟩
 ·by_cases ei:u=i
  ·subst ei;rw[List.getElem?_set_self (by rw[h2];exact tp)] at hi;cases hi;rw[List.getElem?_set_ne gL] at hj;intro bN;rcases ho b hb with e| e
   ·exact h4 u j v vj b gL hv hj e bN
   ·have:=aS j vj b hj bN;omega
  ·rw[List.getElem?_set_ne ei] at hi;by_cases ej:u=j
   ·subst ej;rw[List.getElem?_set_self (by rw[h2];exact tp)] at hj;cases hj;intro bN;rcases ho b bN with e| e
    ·exact h4 i u vi v b gL hi hv hb e
    ·have:=aS i vi b hi hb;omega
   ·rw[List.getElem?_set_ne ej] at hj;exact h4 i j vi vj b gL hi hj hb
end
def z0V {g:List (List Nat)}(ay:S7 g){w:World}{gb go gc:Nat}(hg:GrR w gb go g):Ps prog 12 [.slice (some ⟨gb,go,none⟩) g.length gc] w λv w'=>∃bt,v= .slice (some ⟨bt,0,none⟩) g.length g.length/\RwM w' bt w.heap.size (Qu g)/\Ext w w':=by
 have fA:maxLen=9223372036854775807:=rfl
 have hn:=ay.n
 refine py (e:=[(0,_)]) func12 O ntmps12 O O$ qN O$ R3 O$ RO U23 O$ OP O O (pmk (c:=g.length) (n:=g.length) U23 U7 O O O ω ω ω) ?_
 rintro _ w1 ⟨bt,rfl,⟨qI,ad,ai⟩,-⟩
 have io:RwA w1 bt w.heap.size (UJ g 0 0):=by
  have e:UJ g 0 0=List.replicate g.length []:=by
   apply List.ext_getElem<;>simp[UJ,Vp]
  rw[e];exact RwA.new ai
 refine P3 O$ An$ QN O$ OL$ RN (α:=Nat) (0) (λv=>[(0,.slice (some ⟨gb,go,none⟩) g.length gc),(3,.slice (some ⟨bt,0,none⟩) g.length g.length),(4,I (v:Int))]) (λv w'=>v<=g.length/\RwA w' bt w.heap.size (UJ g v 0)/\Ext w w') (λv=>g.length-v) ?hI ?hround
 case hI=>exact⟨Nat.zero_le _,io,ad⟩
 case hround =>
  rintro v w2 ⟨hv,dg,ae⟩ ih
  try dsimp only
  refine An$ QI O$ RO U23 O$ QV O$ OJ$ OX O (λhq=>?_)$ λhq=>?_
  ·have kV:v<g.length:=by omega
   have fT:g[v]? =some (P5 g v):=by unfold P5;rw[List.getElem?_eq_getElem kV];rfl
   have fL:(P5 g v).length<=g.length:=ay.len (List.mem_of_getElem? fT);refine OK$ QO$ QN O$ OL$ RN (α:=Nat) (0) (λi=>[(0,.slice (some ⟨gb,go,none⟩) g.length gc),(3,.slice (some ⟨bt,0,none⟩) g.length g.length),(4,I (v:Int)),(5,I (i:Int))]) (λi w'=>i<=(P5 g v).length/\RwA w' bt w.heap.size (UJ g v i)/\Ext w w') (λi=>(P5 g v).length-i) ?hI ?hround
   case hI=>exact⟨Nat.zero_le _,dg,ae⟩
   case hround=>
    rintro i w3 ⟨hi,lN,ah⟩ ih2;obtain⟨a,c,ib,gF⟩:=hg v _ fT;have ag:=Ext.Pa w3
    try dsimp only
    refine An$ QI O$ OT O$ qV (Qc U23 U7 O O ω)$ qV (PC Pz O O (Qy ah ib))$ RO Pz O$ QV O$ OJ$ OX O (λgS=>?_)$ λgS=>?_
    ·obtain⟨u,hu⟩:∃u,(P5 g v)[i]? =some u:=⟨_,List.getElem?_eq_getElem ω⟩;obtain⟨lb,lo,rfl,J7⟩:=gF i u hu;have sJ:u<g.length:=Yk ay v u (List.mem_of_getElem? hu);have J8:=Vy g v i sJ;have j5:=z9R g v i u;obtain⟨vs,rj,sk,jY,Gb⟩:=id lN.ex;obtain⟨vu,J9,ML,BS⟩:=jY u _ J8
     have MM:∀{w':World},Kp (λb=>vu.ownBlock=some b) w3 w'->w'.cell? ⟨bt,0+u*1,none⟩=some vu:=λhk=>by
      rw[(hk.OH rj (λe=>(BS _ e).2 O)).cell,Nat.zero_add,Nat.mul_one];exact J9
     have z3:=ah.size;refine OK$ QO ?_;have BT:∀{w':World},Kp (λb=>vu.ownBlock=some b) w3 w'->Ext w w':=λhk=>ah.It hk (λb e=>(BS b e).1);refine Pk [23] (λw'=>Kp (λb=>vu.ownBlock=some b) w3 w') (by kernel_rfl) O$ PW 0 O O (ag.kp)$ PW 1 O O (ag.kp)$ PW 2 O O (ag.kp)$ Pr 3 O (Qc U23 U7 O O ω) (ag.kp)$ PW 5 O O (ag.kp)$ PW 8 O O (ag.kp)$ PW 9 O O (ag.kp)$ PW 10 O O (ag.kp)$ Pr 11 O (Qc U23 U7 O O ω) (ag.kp)$ PW 13 O O (ag.kp)$ PW 18 O O (ag.kp)$ Pr 19 O (z4T O U3 QU) (ag.kp)$ qL 4 O (λ_ h=>PC Pz O O (Qy (BT h) ib)) (ag.kp) ?_;refine qL 12 O (λ_ h=>PC Pz O O (Qy (BT h) ib)) (ag.kp)$ Pr 6 O (Qc Pz Pc O O ω) (ag.kp)$ Pr 14 O (Qc Pz Pc O O ω) (ag.kp)$ qL 7 O (λ_ h=>PC QU O O (Qy (BT h) J7)) (ag.kp)$ qL 15 O (λ_ h=>PC QU O O (Qy (BT h) J7)) (ag.kp)$ Pr 16 O (Qc U23 U7 O O ω) (ag.kp)$ qL 17 O (λ_ h=>PC Pz O O (MM h)) (ag.kp) ?_;rw[Nat.mod_eq_of_lt (show v<4294967296 by omega)];refine Rf (i:=20) (by kernel_rfl)$ Qv (i:=20) O O O (Yx (cs:=[_]) (zs:=[Value.int .u32 0]) Pz Pc O (by kernel_rfl) O O O ψ) ?_;rintro v4 w4 ⟨b4,rfl,⟨fX,aG,aM⟩,eA⟩;refine⟨ag.kp.trans aG.kp,?_⟩;have dy:=ag.trans aG;refine Rf (i:=21) (by kernel_rfl)$ Qv (i:=21) O O O (pap Pz Pc O ψ O O (ML.ext dy) eA.rd (λc hc=>by obtain⟨z,-,rfl⟩:=List.mem_map.1 (show c∈[v].map PD from hc);rfl) ω ω) ?_;rintro v5 w5 ⟨gM,aj,tT,-⟩;refine⟨dy.kp.trans aj,?_⟩;have fx:Kp (λb=>vu.ownBlock=some b) w3 w5:=dy.kp.trans aj;have z34:=dy.size;have Gc:=fx.OH rj (λe=>(BS _ e).2 O);refine Pr 22 O (Qc U23 U7 O O ω) (dy.kp.trans aj)$ Ty [23]$ qO 23$ PJ (i:=23) O O (QP U7 O O (X8 gM) Gc (by rw[sk,To];omega)) ?_;rintro w6 ⟨aX,aN⟩;refine⟨trivial,?_⟩;have ie:=lN.put (l':=Vp g v i u++[v]) rj J8 J9 fx (by rw[List.length_append,List.map_append];exact gM) (λb hb=>(tT b hb).imp id λe=>by omega) aN aX z3;rw[za3 ay hu] at ie;refine qE$ OG$ Rp O$ Q4 O$ P3 O ?_;exact(ih2 (i+1) _ ⟨ω,ie,(ah.It fx (λb e=>(BS b e).1)).It aN (λb e=>by omega)⟩ ω).qb
    ·have dq:i=(P5 g v).length:=by omega
     subst dq;refine OV O$ OG$ Rp O$ Q4 O$ P3 O ?_
     have e:UJ g v (P5 g v).length=UJ g (v+1) 0:=by
      unfold UJ;exact List.map_congr_left λu _=>z6R g v u
     exact(ih (v+1) _ ⟨ω,by rw[<-e];exact lN,ah⟩ ω).qb
  ·have kV:v=g.length:=by omega
   subst kV;refine OV O$ Pt O$ P3 O$ OI func12 O ?_;exact⟨_,rfl,bt,rfl,dg.rw,ae⟩
end Go.Proofs.YtffbidffdbpcoaaGreatDoor
