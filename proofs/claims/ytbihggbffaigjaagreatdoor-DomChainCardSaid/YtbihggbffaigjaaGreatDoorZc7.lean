/- Merged by program. -/
import Derived.Test.YtbihggbffaigjaaGreatDoorZc6
import Derived.Shelf.Strings.Repeat
import Derived.Test.YtbihggbffaigjaaGreatDoorProg
import Derived.Room.AppendFits
import Derived.Lib.UnsafeStr
set_option linter.all false
set_option maxRecDepth 1000000
set_option maxHeartbeats 16000000
namespace Go.Proofs.YtbihggbffaigjaaGreatDoor
open Go Go.RowKit Go.Proofs.Tryz
def Sp (Q:QY)(txt:Int->Ov)(K:Nat)(X:Nat->Prop)(w:World):Prop:=∃P,TY w P/\VM P txt K/\Q.Same P/\∀b,P.fp b->¬X b
section
variable {w w':World}{Q Q' P P':QY}{X Y S':Nat->Prop}{txt txt':Int->Ov}{K K':Nat}
theorem Sp.step (h:Sp Q txt K X w)(hk:Kp S' w w')(hS:∀b,S' b->X b)(hY:∀b,Y b->X b\/w.heap.size<=b):Sp Q txt K Y w':=by
 obtain⟨P,hm,hI,hs,hf⟩:=h
 refine⟨P,hm.kp hk λb hb e=>hf b hb (hS b e),hI,hs,λb hb e=>?_⟩
 rcases hY b e with e| e
 ·exact hf b hb e
 ·have:=hm.lt hb;omega
theorem Sp.ext (h:Sp Q txt K X w)(hx:Ext w w')(hY:∀b,Y b->X b\/w.heap.size<=b):Sp Q txt K Y w':=h.step (S':=λ_=>False) hx (λ_ e=>e.elim) hY
def Sp.ext' (h:Sp Q txt K X w)(hx:Ext w w'):Sp Q txt K X w':=h.ext hx λ_ e=> .inl e
def Sp.own (h:Sp Q txt K X w)(hk:Kp S' w w')(hS:∀b,S' b->X b):Sp Q txt K X w':=h.step hk hS λ_ e=> .inl e
def Sp.of (hf:∀b,P.fp b->¬X b)(hX:∀b,X b->b<w.heap.size)(hr:U6 w P w' P')(hI:VM P' txt' K')(hs:Q'.Same P'):Sp Q' txt' K' X w'/\Kp (λb=>¬X b) w w':=
 ⟨⟨P',hr.m,hI,hs,λb hb e=>by
  rcases hr.fp b hb with h| h
  ·exact hf b h e
  ·have:=hX b e;omega⟩,hr.k.OA hf⟩
def VM.more (h:VM P txt K)(hK:K<=K'):VM P txt K':=by
 obtain⟨a1,a2,a3,a4,a5,a6,a7,a8,a9,b1,b2,b3,b4,b5,b6,b7⟩:=h
 exact⟨a1,a2,a3,a4,a5,a6,a7,a8,a9,b1,b2,b3,b4,ω,ω,b7⟩
theorem Sp.more (h:Sp Q txt K X w)(hK:K<=K'):Sp Q txt K' X w:=by
 obtain⟨P,hm,hI,hs,hf⟩:=h
 exact⟨P,hm,hI.more hK,hs,hf⟩
theorem Sp.less (h:Sp Q txt K X w)(hY:∀b,Y b->X b):Sp Q txt K Y w:=by
 obtain⟨P,hm,hI,hs,hf⟩:=h
 exact⟨P,hm,hI,hs,λb hb e=>hf b hb (hY b e)⟩
theorem Sp.size (h:Sp Q txt K X w):P9 prog 65 [ptr Q.s 0] w λv w'=>v=I 512/\w'=w:=by
 obtain⟨P,hm,hI,hs,-⟩:=h
 rw[<-hs.s]
 exact z0T hm hI.N
theorem Sp.dev (h:Sp Q txt K X w):P9 prog 137 [ptr Q.s 0] w λv w'=>v=ptr Q.d 0/\w'=w:=by
 obtain⟨P,hm,hI,hs,-⟩:=h
 rw[<-hs.s,<-hs.d]
 exact z8M hm
theorem Sp.blocks (h:Sp Q txt K X w):P9 prog 138 [ptr Q.d 0] w λv w'=>v=I (Q.L.length:Int)/\w'=w:=by
 obtain⟨P,hm,hI,hs,-⟩:=h
 have hb:=We hm.dev
 rw[hI.B] at hb
 rw[<-hs.d,<-hs.L]
 exact hb
theorem Sp.map (h:Sp Q txt K X w):P9 prog 24 [ptr Q.s 0] w λv w'=>v=ptr Q.m 0/\w'=w:=by
 obtain⟨P,hm,hI,hs,-⟩:=h
 rw[<-hs.s,<-hs.m]
 exact z7T hm
theorem Sp.room (h:Sp Q txt K X w){a:Nat}(hp:Pre Q.L a)(ha:a<Q.L.length):P9 prog 25 [ptr Q.m 0] w λv w'=>v=I ((Q.L.length-a:Nat):Int)/\Ext w w':=by
 obtain⟨P,hm,hI,hs,-⟩:=h
 rw[<-hs.m]
 rw[<-hs.L] at hp ha⊢
 exact z5h hm.ext hp ha
theorem Sp.z0w (h:Sp Q txt K X w){x:Int}(h0:0<=x)(h1:x<(Q.L.length:Int)):(txt x).length=512:=by
 obtain⟨P,hm,hI,hs,-⟩:=h
 exact hI.len x h0 (by rw[hs.L];exact h1)
theorem Sp.n (h:Sp Q txt K X w):Q.L.length<=4096:=by
 obtain⟨P,hm,hI,hs,-⟩:=h
 rw[<-hs.L]
 exact hm.ext.n
theorem Sp.read (h:Sp Q txt K X w)(hX:∀b,X b->b<w.heap.size)(hK:K<1000000000000){no:Int}(h0:0<=no)(h1:no<(Q.L.length:Int)):P9 prog 83 [ptr Q.s 0,I no] w λv w'=>v= .tuple #[S (txt no),I 0]/\Sp Q txt K X w'/\Kp (λb=>¬X b) w w':=by
 obtain⟨P,hm,hI,hs,hf⟩:=h
 rw[<-hs.s]
 refine(z5R hm hI hK h0 (by rw[hs.L];exact h1)).mono λv w' ⟨hv,P',hr,zF,qh⟩=>⟨hv,Sp.of hf hX hr zF (hs.trans qh)⟩
theorem Sp.write (h:Sp Q txt K X w)(hX:∀b,X b->b<w.heap.size)(hK:K<1000000000000){no:Int}(h0:0<=no)(h1:no<(Q.L.length:Int))(t:Ov)(ht:t.length=512):P9 prog 100 [ptr Q.s 0,I no,S t] w λv w'=>v=I 0/\Sp Q (YO txt no (some t)) (K+1) X w'/\Kp (λb=>¬X b) w w':=by
 obtain⟨P,hm,hI,hs,hf⟩:=h
 rw[<-hs.s]
 refine(z7Z hm hI hK h0 (by rw[hs.L];exact h1) t ht).mono λv w' ⟨hv,P',hr,zF,qh⟩=>⟨hv,Sp.of hf hX hr zF (hs.trans qh)⟩
def QY.PI (Q:QY)(L:List Bool):QY:={Q with L:=L}
theorem QY.Same.PI (h:Q.Same P)(L:List Bool):(Q.PI L).Same {P with L:=L}:=⟨h.s,h.d,h.m,h.gi,h.c,h.pm,h.p,h.fr,rfl⟩
theorem Sp.take (h:Sp Q txt K X w)(hX:∀b,X b->b<w.heap.size){a n:Nat}(hp:Pre Q.L a)(ce:1<=n)(oU:a+n<=Q.L.length):P9 prog 66 [ptr Q.s 0,I (n:Int)] w λv w'=>v= .tuple #[.agg #[I (a:Int),I (n:Int)],I 0]/\Sp (Q.PI (PJ Q.L a n true)) txt K X w'/\Kp (λb=>¬X b) w w':=by
 obtain⟨P,hm,hI,hs,hf⟩:=h
 rw[<-hs.s]
 rw[<-hs.L] at hp oU
 refine(z5B hm hp ce oU).mono λv w' ⟨hv,hr⟩=>⟨hv,?_⟩
 rw[<-hs.L]
 exact Sp.of hf hX hr (hI.PI (by rw[PY oU])) (hs.PI _)
theorem Sp.ziI (h:Sp Q txt K X w)(hX:∀b,X b->b<w.heap.size){s n:Nat}(ce:1<=n)(dg:2<=s)(j9:s+n<=Q.L.length)(hc:∀i,s<=i->i<s+n->Q.L[i]? =some true):P9 prog 73 [ptr Q.s 0,.agg #[I (s:Int),I (n:Int)]] w λv w'=>v=I 0/\∃txt',Sp (Q.PI (PJ Q.L s n false)) txt' K X w'/\(∀x:Int,x<(s:Int)\/(s:Int)+(n:Int)<=x->txt' x=txt x)/\Kp (λb=>¬X b) w w':=by
 obtain⟨P,hm,hI,hs,hf⟩:=h
 rw[<-hs.s]
 rw[<-hs.L] at j9 hc
 refine(z6y hm hI ce dg j9 hc).mono λv w' ⟨hv,P',txt',hr,zF,iQ,qh⟩=>⟨hv,txt',?_⟩
 obtain⟨h1,h2⟩:=Sp.of hf hX hr zF ((hs.trans qh).PI _)
 rw[<-hs.L]
 exact⟨h1,iQ,h2⟩
end
open Go.Proofs Go.Shelf
def z4O:Go.Shelf.Ren:=⟨fun|105=>76|212=>110|99=>111|165=>112|166=>84|170=>113|169=>85|263=>148|264=>149|206=>150|240=>122|241=>151|276=>159|277=>182|n=>n,fun|9=>9|3=>3|4=>4|20=>20|0=>0|46=>172|109=>205|5=>5|72=>175|76=>179|51=>42|146=>252|53=>39|148=>254|70=>173|37=>113|75=>178|127=>222|164=>265|80=>181|n=>n,fun|n=>n⟩
def zeg:Go.Proofs.Lays.n105 prog z4O:={
 mixed:=by kernel_rfl
 f99:=func111.trans (congrArg some (by kernel_rfl))
 f105:=func76.trans (congrArg some (by kernel_rfl))
 f165:=func112.trans (congrArg some (by kernel_rfl))
 f166:=func84.trans (congrArg some (by kernel_rfl))
 f169:=func85.trans (congrArg some (by kernel_rfl))
 f170:=func113.trans (congrArg some (by kernel_rfl))
 f206:=func150.trans (congrArg some (by kernel_rfl))
 f212:=func110.trans (congrArg some (by kernel_rfl))
 f240:=func122.trans (congrArg some (by kernel_rfl))
 f241:=func151.trans (congrArg some (by kernel_rfl))
 f263:=func148.trans (congrArg some (by kernel_rfl))
 f264:=func149.trans (congrArg some (by kernel_rfl))
 f276:=func159.trans (congrArg some (by kernel_rfl))
 f277:=func182.trans (congrArg some (by kernel_rfl))
 t0:=underlying0
 a0:=isAgg0
 z0:=sizeOf0
 v0:=zeroValue0
 t3:=underlying3
 a3:=isAgg3
 z3:=sizeOf3
 v3:=zeroValue3
 t4:=underlying4
 a4:=isAgg4
 z4:=sizeOf4
 v4:=zeroValue4
 t5:=underlying5
 a5:=isAgg5
 z5:=sizeOf5
 v5:=zeroValue5
 t9:=underlying9
 a9:=isAgg9
 z9:=sizeOf9
 v9:=zeroValue9
 t20:=underlying20
 a20:=isAgg20
 z20:=sizeOf20
 v20:=zeroValue20
 t37:=underlying113
 a37:=isAgg113
 z37:=sizeOf113
 v37:=zeroValue113
 t46:=underlying172
 a46:=isAgg172
 z46:=sizeOf172
 v46:=zeroValue172
 t51:=underlying42
 a51:=isAgg42
 z51:=sizeOf42
 v51:=zeroValue42
 t53:=underlying39
 a53:=isAgg39
 z53:=sizeOf39
 v53:=zeroValue39
 t70:=underlying173
 a70:=isAgg173
 z70:=sizeOf173
 v70:=zeroValue173
 t72:=underlying175
 a72:=isAgg175
 z72:=sizeOf175
 v72:=zeroValue175
 t75:=underlying178
 a75:=isAgg178
 z75:=sizeOf178
 v75:=zeroValue178
 t76:=underlying179
 a76:=isAgg179
 z76:=sizeOf179
 v76:=zeroValue179
 t109:=underlying205
 a109:=isAgg205
 z109:=sizeOf205
 v109:=zeroValue205
 t127:=underlying222
 a127:=isAgg222
 z127:=sizeOf222
 v127:=zeroValue222
 t146:=underlying252
 a146:=isAgg252
 z146:=sizeOf252
 v146:=zeroValue252
 t148:=underlying254
 a148:=isAgg254
 z148:=sizeOf254
 v148:=zeroValue254
 t164:=underlying265
 a164:=isAgg265
 z164:=sizeOf265
 v164:=zeroValue265}
/-! ### A builder of strings -/
def zeX:Builder.Extra prog z4O where
 sizeBuilder:=by kernel_rfl
 liesBuilder:=by kernel_rfl
 t5:=by kernel_rfl
 a5:=λ_=>by kernel_rfl
 z5:=λ_=>by kernel_rfl
 v5:=λw=>TI.zero (w:=w) XN
 infoByte:=by kernel_rfl
 cellsByte:=by kernel_rfl
 sizeByte:=by kernel_rfl
 neB5:=by decide
section
end
theorem z7e (l:Ov):∀n,Lib.repeatL l n=(List.replicate n l).flatten
 |0=>rfl
 |n+1=>by rw[Lib.repeatL,z7e l n];rfl
def YI (l:Ov)(n:Nat)(hl:l.length<=100)(hn:n<=1000000)(w:World):P9 prog 76 [S l,I (n:Int)] w λv w'=>v=S (List.replicate n l).flatten/\Ext w w':=by
 have h2:n*l.length<=1000000*100:=Nat.mul_le_mul hn hl
 have:=Any.strings_Repeat zeg zeX ⟨l.toArray⟩ n w ω (by rw[SM,Nat.mul_comm];omega)
 refine Calls.mono this λ_ _ ⟨he,hw⟩=>⟨_,he,?_,Ext.zaL hw⟩
 show Value.string ⟨(Lib.repeatL l n).toArray⟩=_
 rw[z7e]
def UW (w n:Nat):Ov:=(List.range w).map λk=>UInt8.ofNat (n / 2^(8*(w-1-k)))
theorem PW (w n:Nat):(UW w n).length=w:=by simp[UW]
theorem zbn (w n:Nat):UW (w+1) n=UInt8.ofNat (n / 2^(8*w))::UW w n:=by
 unfold UW
 rw[List.range_succ_eq_map,List.map_cons,List.map_map]
 congr 1
 refine List.map_congr_left λk hk=>?_
 show UInt8.ofNat (n / 2^(8*(w+1-1-(k+1))))=_
 rw[show w+1-1-(k+1)=w-1-k by omega]
theorem YU:∀(w n:Nat),OU (UW w n)=OZ (8*w) n
 |0,n=>rfl
 | w + 1, n => by
   rw[zbn,Tk,YU w n,show 8*(w+1)=8+8*w by omega,RJ]
   congr 1
   refine W3 ?_;have:(UInt8.ofNat (n / 2^(8*w))).toNat=n / 2^(8*w)%256:=by simp
   rw[this];omega
def z2m {w n:Nat}(h:n<2^(8*w)):Pp (OU (UW w n))=n:=by
 rw[YU,PR,Nat.mod_eq_of_lt h]
def zbY (s:Ov):UW s.length (Pp (OU s))=s:=by
 have h1:OU (UW s.length (Pp (OU s)))=OU s:=by
  rw[YU];have:=z0F (OU s);rw[bitsT_length] at this;exact this
 have inj:∀a b:Ov,a.length=b.length->OU a=OU b->a=b:=λa=>by
  induction a with
  | nil => intro b hb _; cases b with
    |nil=>rfl
    |cons=>cases hb
  | cons c a ih =>
    intro b hb he
    cases b with
    |nil=>cases hb
    | cons d b =>
      rw[Tk,Tk] at he;obtain⟨e1,e2⟩:=List.append_inj he (by rw[bitsN_length,bitsN_length]);rw[ih b (by simpa using hb) e2]
      congr 1
      have:=congrArg Pp e1;rw[PR,PR] at this;have h3:=c.toNat_lt;have h4:=d.toNat_lt;exact UInt8.toNat_inj.1 ω
 exact inj _ _ (PW _ _) h1
def Laid (txt:Int->Ov)(a:Nat)(T:Ov):Prop:=∀k,512*k<T.length->(txt ((a+k:Nat):Int)).take (T.length-512*k)=(T.drop (512*k)).take 512
section
variable {txt txt':Int->Ov}{a n:Nat}{T:Ov}
def Laid.piece (h:Laid txt a T){off n:Nat}(h1:off+n<=T.length)(h2:n<=512-off%512):((txt ((a+off / 512:Nat):Int)).drop (off%512)).take n=(T.drop off).take n:=by
 by_cases hn:n=0
 ·subst hn;simp
 have hk:=h (off / 512) ω
 have e:=congrArg (λl=>(l.drop (off%512)).take n) hk
 try dsimp only at e
 rw[List.drop_take,List.take_take,Nat.min_eq_left ω,List.drop_take,List.take_take,List.drop_drop,Nat.min_eq_left ω,show 512*(off / 512)+off%512=off by omega] at e
 exact e
def Laid.VT (h:Laid txt a T)(e:∀k,512*k<T.length->txt' ((a+k:Nat):Int)=txt ((a+k:Nat):Int)):Laid txt' a T:=λk hk=>by rw[e k hk];exact h k hk
def Laid.of (h:∀k,512*k<T.length->(txt ((a+k:Nat):Int)).length=512/\∃r,txt ((a+k:Nat):Int)=(T.drop (512*k)).take 512++r):Laid txt a T:=λk hk=>by
 obtain⟨hl,r,e⟩:=h k hk
 have h1:((T.drop (512*k)).take 512).length=min 512 (T.length-512*k):=by simp
 rw[e,List.length_append,h1] at hl
 rw[e]
 by_cases hc:T.length-512*k<=512
 ·exact List.take_left' (by rw[h1];omega)
 ·have:r=[]:=List.eq_nil_of_length_eq_zero ω;rw[this,List.append_nil,List.take_of_length_le (by rw[h1];omega)]
end
def VcT (txt:Int->Ov)(st width each:Nat)(xs:List Nat):Prop:=∀i x,xs[i]? =some x->((txt ((st+i / each:Nat):Int)).drop (i%each*width)).take width=UW width x/\x<2^(8*width)
theorem z1y (a b c:Ov){k n:Nat}(hn:k+n<=a.length):((a++b++c).drop k).take n=(a.drop k).take n:=by
 rw[List.append_assoc,List.drop_append_of_le_length ω,List.take_append_of_le_length (by rw[List.length_drop];omega)]
section
variable {txt txt':Int->Ov}{st width each:Nat}{xs:List Nat}
def VcT.VT (h:VcT txt st width each xs)(e:∀i,i<xs.length->txt' ((st+i / each:Nat):Int)=txt ((st+i / each:Nat):Int)):VcT txt' st width each xs:=λi x hx=>by
 have hi:i<xs.length:=by
  rcases Nat.lt_or_ge i xs.length with h| h
  ·exact h
  ·rw[List.getElem?_eq_none h] at hx;cases hx
 rw[e i hi]
 exact h i x hx
theorem VcT.set (h:VcT txt st width each xs)(he:1<=each){i x:Nat}(hx:x<2^(8*width))(hi:i<xs.length){t:Ov}(ht:txt ((st+i / each:Nat):Int)=t)(hl:i%each*width+width<=t.length):VcT (YO txt ((st+i / each:Nat):Int) (some (t.take (i%each*width)++UW width x++t.drop (i%each*width+width)))) st width each (xs.set i x):=λj y hy=>by
 by_cases hb:j / each=i / each
 ·rw[hb,RQ];show((t.take (i%each*width)++UW width x++t.drop (i%each*width+width)).drop (j%each*width)).take width=_/\_;have aN:(t.take (i%each*width)).length=i%each*width:=by rw[List.length_take];omega
  by_cases gJ:j=i
  ·subst gJ;rw[List.getElem?_set_self hi] at hy;cases hy;refine⟨?_,hx⟩;rw[List.append_assoc,List.drop_left' aN,List.take_left' (PW _ _)]
  ·rw[List.getElem?_set_ne (λe=>gJ e.symm)] at hy;obtain⟨h1,h2⟩:=h j y hy;refine⟨?_,h2⟩;rw[hb,ht] at h1;rw[<-h1];have tB:=Nat.div_add_mod i each;have mO:=Nat.div_add_mod j each;rw[hb] at mO;have br:j%each≠i%each:=λe=>gJ ω;rcases Nat.lt_or_gt_of_ne br with mN|O3
   ·have hm:(j%each+1)*width<=i%each*width:=Nat.mul_le_mul_right _ ω;rw[Nat.add_mul,Nat.one_mul] at hm;rw[z1y _ _ _ ω,List.drop_take,List.take_take,Nat.min_eq_left ω]
   ·have hm:(i%each+1)*width<=j%each*width:=Nat.mul_le_mul_right _ ω;rw[Nat.add_mul,Nat.one_mul] at hm;rw[List.drop_append,List.drop_of_length_le (by rw[List.length_append,aN,PW];omega),List.nil_append,List.length_append,aN,PW,List.drop_drop,show i%each*width+width+(j%each*width-(i%each*width+width))=j%each*width by omega]
 ·have gJ:j≠i:=λe=>hb (by rw[e]);rw[List.getElem?_set_ne (λe=>gJ e.symm)] at hy;rw[Rk _ _ ω];exact h j y hy
def z1l {l z:Ov}{w:Nat}(hl:l.length=w):∀(e k:Nat),k<e->(((List.replicate e l).flatten++z).drop (k*w)).take w=l
 |0,k,h=>by omega
 | e + 1, 0, h => by
   rw[Nat.zero_mul,List.drop_zero,List.replicate_succ,List.flatten_cons,List.append_assoc]
   exact List.take_left' hl
 | e + 1, k + 1, h => by
   rw[List.replicate_succ,List.flatten_cons,List.append_assoc,List.drop_append,List.drop_of_length_le (by rw[hl,Nat.add_mul];omega),List.nil_append,hl,Nat.add_mul,Nat.one_mul,Nat.add_sub_cancel];exact z1l hl e k ω
theorem VcT.fill {n x:Nat}(hx:x<2^(8*width))(he:1<=each)(h:∀i,i<n->∃z,txt ((st+i / each:Nat):Int)=(List.replicate each (UW width x)).flatten++z):VcT txt st width each (List.replicate n x):=λi y hy=>by
 rw[List.getElem?_replicate] at hy
 split at hy
 ·rename_i hi
  cases hy;obtain⟨z,e⟩:=h i hi;rw[e];exact⟨z1l (PW _ _) each _ (Nat.mod_lt _ he),hx⟩
 ·cases hy
end
def z0B (n wd k:Nat):List Value:=(List.range wd).map λi=>if i<k then Tg (UInt8.ofNat (n / 2^(8*(wd-1-i)))) else .int .u8 0
@[simp] theorem beTo_length (n wd k:Nat):(z0B n wd k).length=wd:=by simp[z0B]
theorem z26 (n wd:Nat):z0B n wd 0=List.replicate wd (.int .u8 0):=by
 apply List.ext_getElem<;>simp[z0B]
theorem z4X (n wd:Nat):z0B n wd wd=(UW wd n).map Tg:=by
 simp only[z0B,UW,List.map_map]
 apply List.map_congr_left
 intro i hi
 rw[if_pos (by simpa using hi)];rfl
theorem z4S (n wd k:Nat)(h:k<wd):(z0B n wd k).set (0+k*1) (.int .u8 ((n / 2^(8*(wd-1-k))%256:Nat):Int))=z0B n wd (k+1):=by
 apply List.ext_getElem
 ·simp
 ·intro j h1 h2;have hj:j<wd:=by simpa using h2
  simp only[z0B,List.getElem_set,List.getElem_map,List.getElem_range];by_cases DV:j=k
  ·subst DV;simp[Tg]
  ·rw[if_neg ω];by_cases aN:j<k
   ·rw[if_pos aN,if_pos ω]
   ·rw[if_neg aN,if_neg ω]
def Zr (n wd:Nat)(w:World)(hn:n<18446744073709551616)(oS:wd<=8):P9 prog 104 [ON n,I (wd:Int)] w λv w'=>v=S (UW wd n)/\Ext w w':=by
 have fg:maxLen=9223372036854775807:=rfl
 refine py (e:=[(0,_),(1,_)]) func104 O ntmps104 O O$ qN O$ QO O$ Oy O O (pmk (c:=wd) (n:=wd) Qk XN O O O ω ω ω) ?_
 rintro _ w1 ⟨b1,rfl,⟨bK,ad,ah⟩,-⟩
 refine OK O$ Pz O$ Ro Qk O$ OC O$ Oq$ Ou ?_
 rw[<-z26 n wd] at ah
 refine Rw (α:=Nat) (0) (λk=>[(0,ON n),(1,I (wd:Int)),(5,.slice (some ⟨b1,0,none⟩) wd wd),(10,I (wd:Int)),(11,I (k:Int))]) (λk w'=>k<=wd/\OE w' b1 (z0B n wd k) 5/\Ext w w') (λk=>wd-k) ?hI ?hround
 case hI=>exact⟨ω,ah,ad⟩
 case hround=>
  rintro k w2 ⟨hk,ak,ae⟩ ih
  try dsimp only
  refine qN O$ Qv O$ Oq$ An$ OH O (λaN=>?_)$ λaN=>?_
  ·have Ff:k<wd:=by omega
   refine Ot (Qt (P7 O (OK O (Oz O (OX O (OX O (Ra O (OC O (Ra O (qV (X5 O O ω) ?_))))))))));rw[show(8:Int)*(((wd:Int)-1)-(k:Int))=((8*(wd-1-k):Nat):Int) from by omega];refine qV (Uk (8*(wd-1-k)) (2^(8*(wd-1-k))) O O (by simp only[IntKind.bits];omega) O) ?_;refine qV (zcG O R7 U5) (qV (PK Qk XN O O ω) (OJ O (Qw XN O O O ak (by simp;omega)) ?_));rintro w3 ⟨ao,ar⟩;rw[z4S n wd k Ff] at ao;refine Oq$ Om$ Oz O$ PL O$ OC O$ Oq ?_;exact(ih (k+1) w3 ⟨ω,ao,ae.It ar (λi hi=>by rw[hi,bK];exact Nat.le_refl _)⟩ ω).qb
  ·have:k=wd:=by omega
   subst this;rw[z4X] at ak;refine OD O (P7 O (qV (z8m (l:=UW k n) Qk U5 U9 O ak (by rw[List.drop_zero];exact List.take_of_length_le (by rw[List.length_map,PW];omega)) (by simp[UW])) ?_));refine OK O$ Oo func104 O ?_;exact⟨_,rfl,rfl,ae⟩
def z1Y (s:Ov)(hs:s.length<=8)(w:World):P9 prog 105 [S s] w λv w'=>v=ON (Pp (OU s))/\Ext w w':=by
 refine py (e:=[(0,_)]) func105 O ntmps105 O O$ QB O$ Pz O$ Oy O O (zbw U9 Qk U5 O) ?_
 rintro _ w1 ⟨b7,c7,rest,rfl,⟨kF,ad,ah⟩,Do⟩
 refine Ro Qk O$ OC O$ Oq$ Ou$ Rw (α:=Nat) (0) (λi=>[(2,ON (Pp (OU (s.take i)))),(6,.slice (some ⟨b7,0,none⟩) s.length c7),(7,I (s.length:Int)),(8,I (i:Int))]) (λi w'=>w'=w1/\i<=s.length) (λi=>s.length-i) ?hI ?hround
 case hI=>exact⟨rfl,Nat.zero_le _⟩
 case hround=>
  rintro i w2 ⟨rfl,hi⟩ ih
  try dsimp only
  refine qN O$ Qv O$ Oq$ An$ OH O (λh0=>?_)$ λh0=>?_
  ·obtain⟨c,hc⟩:∃c,s[i]? =some c:=⟨_,List.getElem?_eq_getElem ω⟩;have eR:=c.toNat_lt;have kg:=z0d hc
   have aN:Pp (OU (s.take i))<72057594037927936:=by
    have h1:=QU (OU (s.take i));rw[bitsT_length,List.length_take] at h1;have h2:2^(8*min i s.length)<=2^56:=Nat.pow_le_pow_right ψ ω;omega
   have aY:w2.cell? ⟨b7,0+i*1,none⟩=some (Tg c):=by
    rw[ah.cell,Nat.zero_add,Nat.mul_one,List.getElem?_append_left (by rw[List.length_map];omega),List.getElem?_map,hc];rfl
   refine Ot$ Qt$ qN O$ qV (PK Qk XN O O ω)$ qV (Pc U5 O O aY) ?_
   generalize Pp (OU (s.take i))=q at kg aN
   refine OK O$ R0 O$ qV (R6 8 256 O O ψ O)$ OC O$ qV ((zam O U5 R7 ψ))$ qV (z0j O O ω ω) ?_
   have oC:(q*256%18446744073709551616 |||c.toNat)=Pp (OU (s.take (i+1))):=by
    rw[kg,Nat.mod_eq_of_lt ω,Nat.mul_comm q];exact(Nat.two_pow_add_eq_or_of_lt (i:=8) eR q).symm
   rw[oC];refine OK O$ Om$ Oz O$ PL O$ OC O$ Oq ?_;exact(ih (i+1) _ ⟨rfl,ω⟩ ω).qb
  ·have dq:i=s.length:=by omega
   subst dq;rw[List.take_length];refine OD O$ P7 O$ OK O$ Oo func105 O ?_;exact⟨_,rfl,rfl,ad⟩
def vcC (n width each st len s:Nat)(cl:Bool):List Value:=[I (n:Int),I (width:Int),I (each:Int),I (st:Int),I (len:Int),ptr s 0,.bool cl]
def Wf (n each:Nat):Nat:=max 1 ((n+each-1) / each)
structure Vn (Q:QY)(txt:Int->Ov)(vb width st:Nat)(xs:List Nat)(w:World):Prop where
 On:OE w vb (vcC xs.length width (512 / width) st (Wf xs.length (512 / width)) Q.s false) 164
 wd:width=1\/width=2\/width=4\/width=8
 t:VcT txt st width (512 / width) xs
 n:xs.length<=4194304
 fit:st+Wf xs.length (512 / width)<=Q.L.length
def z2K {n each:Nat}(he:1<=each){i:Nat}(hi:i<n):i / each<Wf n each:=by
 unfold Wf
 have h1:i / each<=(n-1) / each:=Nat.div_le_div_right ω
 have h2:(n+each-1) / each=(n-1) / each+1:=by
  rw[show n+each-1=(n-1)+each by omega,Nat.add_div_right _ ω]
 omega
section
variable {w w':World}{Q Q':QY}{txt txt':Int->Ov}{vb width st:Nat}{xs ys:List Nat}{S':Nat->Prop}
theorem Vn.e (h:Vn Q txt vb width st xs w):64<=512 / width/\512 / width<=512/\512 / width*width=512/\1<=width/\width<=8:=by
 rcases h.wd with e|e|e|e<;>subst e<;>decide
def Vn.kp (h:Vn Q txt vb width st xs w)(hk:Kp S' w w')(hn:¬S' vb):Vn Q txt vb width st xs w':=⟨hk.On h.On hn,h.wd,h.t,h.n,h.fit⟩
theorem Vn.ext (h:Vn Q txt vb width st xs w)(hx:Ext w w'):Vn Q txt vb width st xs w':=h.kp (S':=λ_=>False) hx id
def Vn.VT (h:Vn Q txt vb width st xs w)(e:∀y:Int,(st:Int)<=y->y<(st:Int)+(Wf xs.length (512 / width):Int)->txt' y=txt y):Vn Q txt' vb width st xs w:=
 ⟨h.On,h.wd,h.t.VT λi hi=>by
  have:=z2K (each:=512 / width) (by have:=h.e;omega) hi
  generalize i / (512 / width)=q at this⊢
  exact e _ ω ω,h.n,h.fit⟩
theorem Vn.q (h:Vn Q txt vb width st xs w)(hs:Q'.s=Q.s)(hl:Q'.L.length=Q.L.length):Vn Q' txt vb width st xs w:=⟨by rw[hs];exact h.On,h.wd,h.t,h.n,by rw[hl];exact h.fit⟩
def Vn.lt (h:Vn Q txt vb width st xs w):vb<w.heap.size:=h.On.lt
def Vn.at_ (h:Vn Q txt vb width st xs w){i:Nat}(hi:i<xs.length):st+i / (512 / width)<Q.L.length/\i%(512 / width)*width+width<=512/\i / (512 / width)<Wf xs.length (512 / width):=by
 obtain⟨h1,h2,h3,h4,h5⟩:=h.e
 have h6:=z2K (each:=512 / width) ω hi
 have h7:=h.fit
 have h8:(i%(512 / width)+1)*width<=512 / width*width:=Nat.mul_le_mul_right _ (Nat.mod_lt _ ω)
 rw[Nat.add_mul,Nat.one_mul] at h8
 refine⟨ω,ω,h6⟩
theorem Vn.cells (h:Vn Q txt vb width st xs w):OE w vb [I (xs.length:Int),I (width:Int),I ((512 / width:Nat):Int),I (st:Int),I (Wf xs.length (512 / width):Int),ptr Q.s 0,.bool false] 164:=h.On
def VcW (Q:QY)(txt:Int->Ov)(K:Nat)(X:Nat->Prop)(vb width st:Nat)(ys:List Nat)(w w':World):Prop:=
 ∃txt',Sp Q txt' K X w'/\Vn Q txt' vb width st ys w'/\(∀y:Int,y<(st:Int)\/(st:Int)+(Wf ys.length (512 / width):Int)<=y->txt' y=txt y)/\Kp (λb=>¬X b) w w'
end
end Go.Proofs.YtbihggbffaigjaaGreatDoor
namespace Go.Proofs.YtbihggbffaigjaaGreatDoor.Sums
def bit (c:Nat):Nat:=if c%2=1 then(c / 2)^^^2197175160 else c / 2
def zdb (c:Nat):Nat:=bit (bit (bit (bit (bit (bit (bit (bit c)))))))
def byte (c:Nat)(b:UInt8):Nat:=zdb (c^^^b.toNat)
def raw (c:Nat)(l:List UInt8):Nat:=l.foldl byte c
def neg (c:Nat):Nat:=4294967295^^^c
def on (c:Nat)(l:List UInt8):Nat:=neg (raw (neg c) l)
def crc (l:List UInt8):Nat:=on 0 l
def num (l:List UInt8):Nat:=(l.getD 0 0).toNat*16777216+(l.getD 1 0).toNat*65536+(l.getD 2 0).toNat*256+(l.getD 3 0).toNat
def be4 (n:Nat):List UInt8:=[UInt8.ofNat (n / 16777216),UInt8.ofNat (n / 65536),UInt8.ofNat (n / 256),UInt8.ofNat n]
@[simp] theorem be4_length (n:Nat):(be4 n).length=4:=rfl
def head (k:UInt8)(p:List UInt8):List UInt8:=k::be4 p.length
def frame (k:UInt8)(p:List UInt8):List UInt8:=head k p++be4 (crc (head k p++p))++p
@[simp] theorem head_length (k:UInt8) (p:List UInt8):(head k p).length=5:=rfl
theorem z9G (c:Nat):(c / 2)^^^(2197175160&&&((4294967296-(c&&&1))%4294967296))=bit c:=by
 have h1:c&&&1=c%2:=Nat.and_two_pow_sub_one_eq_mod c 1
 rw[h1]
 unfold bit
 by_cases h:c%2=1
 ·rw[if_pos h,h]
  congr 1
 ·have h0:c%2=0:=by omega
  rw[if_neg h,h0];simp
def Y6 {a b:Nat}(ha:a<4294967296)(hb:b<4294967296):a^^^b<4294967296:=Nat.xor_lt_two_pow (n:=32) ha hb
def Vp {c:Nat}(h:c<4294967296):bit c<4294967296:=by
 unfold bit
 split
 ·exact Y6 ω ω
 ·omega
def zb5 {c:Nat}(h:c<4294967296):zdb c<4294967296:=Vp (Vp (Vp (Vp (Vp (Vp (Vp (Vp h)))))))
def z7N {c:Nat}(h:c<4294967296)(b:UInt8):byte c b<4294967296:=zb5 (Y6 h (by have:=b.toNat_lt;omega))
def zap:∀(l:List UInt8) {c:Nat},c<4294967296->raw c l<4294967296
 |[],_,h=>h
 |b::l,_,h=>zap l (z7N h b)
def z5S {c:Nat}(h:c<4294967296):neg c<4294967296:=Y6 ω h
def zdT {c:Nat}(l:List UInt8)(h:c<4294967296):on c l<4294967296:=z5S (zap l (z5S h))
def ze5 (l:List UInt8):crc l<4294967296:=zdT l ω
theorem z6d (c:Nat)(a b:List UInt8):raw c (a++b)=raw (raw c a) b:=List.foldl_append ..
/-! ### The step is linear -/
/-! ### Linear maps, by their table -/
def iter (L:Nat->Nat):Nat->Nat->Nat
 |0,x=>x
 |n+1,x=>iter L n (L x)
/-! ### Frames -/
@[simp] theorem frame_length (k:UInt8) (p:List UInt8):(frame k p).length=9+p.length:=by simp[frame];omega
/-! ### A byte that is turned is told -/
theorem getD_take (s:List UInt8)(n i:Nat)(h:i<n):(s.take n).getD i 0=s.getD i 0:=by simp[List.getD,h]
theorem Qe (s:List UInt8)(n i:Nat)(x:UInt8)(h:i≠n):(s.set n x).getD i 0=s.getD i 0:=by
 simp only[List.getD,List.getElem?_set]
 rw[if_neg (λe=>h e.symm)]
def zaB (s:List UInt8)(i:Nat)(d:UInt8):List UInt8:=s.set i (s.getD i 0^^^d)
@[simp] theorem turned_length (s:List UInt8) (i:Nat) (d:UInt8):(zaB s i d).length=s.length:=by simp[zaB]
end Go.Proofs.YtbihggbffaigjaaGreatDoor.Sums
namespace Go.Proofs.YtbihggbffaigjaaGreatDoor
open Go Go.RowKit Go.Proofs.Tryz
set_option linter.unusedVariables false
abbrev U (n:Nat):Value:= .int .u32 (n:Int)
def zaD (c:Nat)(b:UInt8)(p:Nat)(T:TypeId)(w:World)(hB:OE w p [U c] T)(hc:c<4294967296):
  P9 prog 140 [Tg b,ptr p 0] w λv w'=>v= .tuple #[]/\OE w' p [U (Sums.byte c b)] T/\Kp (λk=>k=p) w w':=by
 have hb:=b.toNat_lt
 have hx:=Sums.Y6 hc (show b.toNat<4294967296 by omega)
 refine py (e:=[(0,_),(1,_)]) func140 O ntmps140 O O$ qN O$ qV (OB QA O O hB O)$ OC O$ qV ((zam O U5 QA ψ))$ qV (zcX O O ω ω)$ OJ O (Qw OS O O O hB ξ) ?_
 rintro w1 ⟨ah,aG⟩
 refine qM O$ OC O$ Oq$ Ou$ Rw (α:=Nat×Nat) ((0,c^^^b.toNat)) (λx=>[(0,Tg b),(1,ptr p 0),(7,I (x.1:Int))]) (λx w'=>x.1<=8/\x.2<4294967296/\Sums.iter Sums.bit (8-x.1) x.2=Sums.byte c b/\OE w' p [U x.2] T/\Kp (λk=>k=p) w w') (λx=>8-x.1) ?hI ?hround
 case hI=>exact⟨ω,hx,rfl,ah,aG⟩
 case hround=>
  rintro⟨k,d⟩ w2 ⟨aP,hd,hs,ak,am⟩ ih
  try dsimp only
  refine qN O$ Qv O$ Oq$ An$ OH O (λaN=>?_)$ λaN=>?_
  ·have jG:d&&&1<4294967296:=Nat.lt_of_le_of_lt Nat.and_le_right ω;have ul:(4294967296-(d&&&1))%4294967296<4294967296:=Nat.mod_lt _ ω;have iU:2197175160&&&((4294967296-(d&&&1))%4294967296)<4294967296:=Nat.lt_of_le_of_lt Nat.and_le_left ω;refine Ot (Qt (Oz O (qV (OB QA O O ak O) (qV (Uk 1 2 O O ψ O) (qV (OB QA O O ak O) (qV (zdh O O ω ω) (qV (zfg O ω) (qV (zdh O O ω ω) (qV (zcX O O ω ω) (OJ O (Qw OS O O O ak ξ) ?_))))))))));rintro w3 ⟨ao,ar⟩;refine Oq$ Om$ Oz O$ PL O$ OC O$ Oq ?_;simp only[List.set_cons_zero] at ao;rw[Sums.z9G] at ao;refine(ih (k+1,Sums.bit d) w3 ⟨by dsimp only at*;omega,Sums.Vp hd,?_,ao,am.trans ar⟩ (by dsimp only at*;omega)).qb;have h8:8-k=(8-(k+1))+1:=by dsimp only at*;omega
   dsimp only at hs⊢;rw[h8] at hs;exact hs
  ·refine OD O$ PQ func140 O ?_;have hk:k=8:=by dsimp only at*;omega
   subst hk;refine⟨_,rfl,rfl,?_,am⟩;have:d=Sums.byte c b:=hs;rw[<-this];exact ak
def zek {l:List UInt8}{rest:List Value}{k:Nat}(h:k<l.length):(l.map Tg++rest)[0+k*1]? =some (Tg (l.getD k 0)):=by
 rw[Nat.zero_add,Nat.mul_one,List.getElem?_append_left (by simpa using h)]
 simp[h,List.getD]
theorem z1q (c:Nat)(l:List UInt8)(k:Nat)(h:k<l.length):Sums.raw c (l.take (k+1))=Sums.byte (Sums.raw c (l.take k)) (l.getD k 0):=by
 rw[List.take_succ_eq_append_getElem h,Sums.z6d]
 simp[Sums.raw,List.getD,h]
def zaP (c:Nat)(l:List UInt8)(w:World)(hc:c<4294967296)(hl:l.length<=9223372036854775807):
  P9 prog 103 [U c,S l] w λv w'=>v=U (Sums.on c l)/\Ext w w':=by
 refine py (e:=[(0,_),(1,_)]) func103 O ntmps103 O O$ qN O$ Oy O O (R9 O O) ?_
 rintro _ w1 ⟨b1,rfl,bK,ad,ah⟩
 refine QL O$ qV (OB QA O O ah O)$ qV (zdL O ω)$ OJ O (Qw OS O O O ah ξ) ?_
 rintro w2 ⟨ak,am⟩
 simp only[List.set_cons_zero] at ak
 have ae:Ext w w2:=ad.It am (λi hi=>by rw[hi,bK];exact Nat.le_refl _)
 refine qM O$ qV (ymf (first:=[]) (caps:=[.tmp 2]) O O)$ OK O$ Pz O$ Oy O O (zbw U9 Qk U5 O) ?_
 rintro _ w3 ⟨b3,cap,rest,rfl,⟨dY,aj,ao⟩,jH⟩
 refine Ro Qk O$ OC O$ Oq$ Ou ?_
 have br:b3≠b1:=by have:=ak.lt;omega
 refine Rw (α:=Nat×Nat) ((0,Sums.neg c)) (λx=>[(2,ptr b1 0),(5,.func (.func 140) #[] #[ptr b1 0]),(12,.slice (some ⟨b3,0,none⟩) l.length cap),(13,I (l.length:Int)),(14,I (x.1:Int))]) (λx w'=>x.1<=l.length/\x.2<4294967296/\x.2=Sums.raw (Sums.neg c) (l.take x.1)/\OE w' b1 [U x.2] 42/\OE w' b3 (l.map Tg++rest) 5/\Ext w w') (λx=>l.length-x.1) ?hI ?hround
 case hI=>exact⟨ξ,Sums.z5S hc,rfl,aj.On ak,ao,ae.trans aj⟩
 case hround=>
  rintro⟨k,d⟩ w4 ⟨hk,hd,hs,aH,aD,aC⟩ ih;dsimp only at hk hd hs aH
  try dsimp only
  refine qN O$ Qv O$ Oq$ An$ OH O (λaN=>?_)$ λaN=>?_
  ·have kU:k<l.length:=by omega
   refine Ot (Qt (qN O (qV (PK Qk XN O O ω) (qV (OB U5 O O aD (zek kU)) (OK O (Oz O (OX O (Qy O O (RY zh5 O O) (zaD d (l.getD k 0) b1 _ w4 aH hd) ?_))))))));rintro _ w5 ⟨rfl,aT,aJ⟩;refine Oq (Om (Oz O (PL O (OC O (Oq ((ih (k+1,Sums.byte d (l.getD k 0)) w5 ⟨kU,Sums.z7N hd _,?_,aT,aJ.On aD br,aC.It aJ (λi hi=>by rw[hi,bK];exact Nat.le_refl _)⟩ (by dsimp only;omega)).qb))))));rw[z1q _ _ _ kU,<-hs]
  ·refine OD O (qN O (qV (OB QA O O aH O) (qV (zdL O ω) (OK O (Oo func103 O (⟨_,rfl,?_,aC⟩))))));have eC:k=l.length:=by omega
   subst eC;rw[List.take_length] at hs;show U (Sums.neg d)=_;rw[hs]
   rfl
def z6V (l:List UInt8)(w:World)(hl:l.length<=9223372036854775807):
  P9 prog 97 [S l] w λv w'=>v=U (Sums.crc l)/\Ext w w':=by
 refine py (e:=[(0,_)]) func97 O ntmps97 O O$ qN O$ QO O$ OQ zcP O (zaP 0 l _ ω hl) ?_
 rintro _ w1 ⟨rfl,ad⟩
 refine OK O$ Oo func97 O ?_
 exact⟨_,rfl,rfl,ad⟩
theorem z1i (s:Ov):Lib.strCells ⟨s.toArray⟩=s.map Tg:=by simp[Lib.strCells,Tg]
section
variable {P:Program}{e:Env}{d:Option Nat}{ty t tu tn el:TypeId}{pos:String}{aft:Array Edge}{g:Option (Nat×Bool)}{x y:Operand}{w w':World}{n k:Nat}{v:Value}{cs:List Value}{s:Ov}{kn:IntKind}{za:Int}
def z3U (ht:P.underlying t=some (.slice el))(hu:P.underlying tu=some .string)(hs:TI P el (.int .u8 0) 1 1)(hv:Sl w v el 1 n cs)(hb:n+s.length<=140737488355328):
  ∃v' w',(Builtin.append_ #[t,tu] ty #[v,S s]).run P w= .ok v' w'/\Sl w' v' el 1 (n+s.length) (cs++s.map Tg)/\Kp (λk=>v.ownBlock=some k) w w'/\(∀g,v'.ownBlock=some g->v.ownBlock=some g\/w.heap.size<=g):=by
 have fg:maxLen=9223372036854775807:=rfl
 obtain⟨i,hi,oZ,jE,qG⟩:=hs
 have e1:=SM s
 have e2:=z1i s
 rcases id hv.2 with⟨rfl,rfl⟩|⟨g,cap,cur,rfl,LW,hg,jq,mE,fN,In⟩
 ·have hx:cs=[]:=List.eq_nil_of_length_eq_zero (by simpa using hv.1);subst hx;obtain⟨v',w',hr,ho,hg,-⟩:=Lib.run_append_own_string (P:=P) w w.heap.size t tu ty el i ht hu hi oZ jE qG (.slice none 0 0) 0 [] (World.ownsRow_nil w w.heap.size el 1) ⟨s.toArray⟩ (by rw[e1];omega) (by rw[e1];exact hb) (Nat.le_refl _);rw[e1,e2] at ho;refine⟨v',w',hr,⟨ho.1,?_⟩,Kp.Uo hg,λg hg=> .inr (World.ownsRow.lt ho g hg).1⟩;rcases ho.2 with LX|⟨g,cap2,cur2,kK,bP,da⟩
  ·exact .inl LX
  ·exact .inr ⟨g,cap2,cur2,kK,Nat.zero_le _,da⟩
 ·by_cases eI:n+s.length<=cap
  ·by_cases hc:0<cap
   ·obtain⟨w',hr,ho,cO⟩:=Lib.run_append_fits_string (P:=P) w 0 t tu ty el i ht hu hi jE (some ⟨g,0,none⟩) n cap cs hv ⟨s.toArray⟩ hc (by rw[e1];exact eI);rw[e1,e2] at ho;rw[e1] at hr;exact⟨_,w',hr,ho,Kp.Uo cO,λg' cO=> .inl (by simpa[Value.ownBlock] using cO)⟩
   ·obtain⟨v',w',hr,ho,cO,-⟩:=Lib.run_append_own_string (P:=P) w 0 t tu ty el i ht hu hi oZ jE qG (.slice (some ⟨g,0,none⟩) n cap) n cs hv ⟨s.toArray⟩ (by rw[e1];omega) (by rw[e1];exact hb) (Nat.zero_le _);have LY:s=[]:=List.eq_nil_of_length_eq_zero ω;subst LY;have da:=Lib.run_append_room_string (P:=P) w t tu ty el i ht hu hi jE g n cap cur hg ⟨[].toArray⟩ (by rw[e1];exact eI) (by rw[e1];simp only[Nat.mul_one] at fN;simp only[List.length_nil];omega);rw[da] at hr;cases hr;rw[e1,e2] at ho;exact⟨_,_,da,ho,Kp.Uo cO,λg' cO=> .inl (by simpa[Value.ownBlock] using cO)⟩
  ·obtain⟨v',w',hr,ho,cO,-⟩:=Lib.run_append_own_string (P:=P) w 0 t tu ty el i ht hu hi oZ jE qG (.slice (some ⟨g,0,none⟩) n cap) n cs hv ⟨s.toArray⟩ (by rw[e1];omega) (by rw[e1];exact hb) (Nat.zero_le _);have da:=Lib.run_append_grow_string (P:=P) w t tu ty el i (.int .u8 0) ht hu hi oZ ⟨g,0,none⟩ n cap cs (by rw[jE];exact hv.1) (World.ownsRow.cells hv (g:=g) O) ⟨s.toArray⟩ (by rw[e1];omega) (by rw[e1];omega) (by rw[e1];exact growslice_fits ω (by rw[qG];omega));rw[da] at hr;cases hr;rw[e1,e2] at ho;refine⟨_,_,da,by rw[<-e1] at ho⊢;exact ho,Kp.Uo cO,λg' cO=> .inr ?_⟩;simp[Value.ownBlock] at cO;omega
def zfm (ht:P.underlying t=some (.slice el))(hu:P.underlying tu=some .string)(hs:TI P el (.int .u8 0) 1 1)(hx:look e x=some v)(hy:look e y=some (S s))(hv:Sl w v el 1 n cs)(hb:n+s.length<=140737488355328):
  Yp P e ⟨d,.call ⟨.builtin .append,#[x,y],#[t,tu]⟩,ty,pos,aft,g⟩ w λv' w'=>Sl w' v' el 1 (n+s.length) (cs++s.map Tg)/\Kp (λk=>v.ownBlock=some k) w w'/\(∀g,v'.ownBlock=some g->v.ownBlock=some g\/w.heap.size<=g):=by
 obtain⟨v',w',hr,nM⟩:=z3U (P:=P) (ty:=ty) ht hu hs hv hb
 refine⟨v',w',fun ρ hρ=>?_,nM⟩
 simp[execOp,resolve,invoke,builtin,hρ _ _ hx,hρ _ _ hy,hr]
def z3k (k:Nat):Builtin.zeroCells (Value.int .u8 0).cells k=(Lib.strCells ⟨(zeros k).toArray⟩).toArray:=by
 rw[z1i]
 apply Array.ext'
 rw[Xg (.int .u8 0) k O]
 simp[zeros,Tg]
theorem zf4 [s6:T3 za k](ht:P.underlying t=some (.slice el))(hn:P.underlying tn=some (.int kn))(hu:P.underlying tu=some .string)(hs:TI P el (.int .u8 0) 1 1)(hx:look e x=some v)(hy:look e y=some (I za))(hv:Sl w v el 1 n cs)(hb:n+k<=140737488355328):
  Yp P e ⟨d,.call ⟨.builtin .append,#[x,y],#[t,tn]⟩,ty,pos,aft,g⟩ w λv' w'=>Sl w' v' el 1 (n+k) (cs++(zeros k).map Tg)/\Kp (λk=>v.ownBlock=some k) w w'/\(∀g,v'.ownBlock=some g->v.ownBlock=some g\/w.heap.size<=g):=by
 obtain⟨rfl⟩:=s6
 have hl:(zeros k).length=k:=by simp[zeros]
 obtain⟨v',w',hr,h1,h2⟩:=z3U (P:=P) (ty:=ty) (s:=zeros k) ht hu hs hv (by rw[hl];exact hb)
 rw[hl] at h1
 have he:(Builtin.append_ #[t,tn] ty #[v,I (k:Int)]).run P w= .ok v' w':=by
  rw[<-hr];obtain⟨i,hi,oZ,jE,qG⟩:=hs;have hw:IntKind.i64.wrap (k:Int)=k:=by rw[IntKind.wrap_i64];omega
  have ul:¬((k:Int)<0):=by omega
  have Io:¬(281474976710656<(k:Int)*(i.bytes:Int)):=by rw[qG];omega
  have hf:=λw=>Lib.run_firstCells_string (P:=P) w i.size ⟨(zeros k).toArray⟩;have cH:(ByteArray.mk (zeros k).toArray).size=k:=by rw[SM,hl]
  rw[cH] at hf
  obtain⟨a,c,LZ⟩:∃a c,v= .slice a n c:=by
   rcases hv.2 with⟨rfl,rfl⟩|⟨g,cap,cur,rfl,_⟩
   ·exact⟨_,_,rfl⟩
   ·exact⟨_,_,rfl⟩
  subst LZ;have M0:k=0->(Lib.strCells ⟨(zeros k).toArray⟩).toArray=#[]:=λe=>by subst e;rfl
  have M1:c<=maxLen/\n<=c:=by
   rcases hv.2 with⟨h,h'⟩|⟨g,cap,cur,h,_,_,h1,h2,_⟩
   ·cases h;exact⟨by simp[maxLen],ω⟩
   ·cases h;exact⟨h2,h1⟩
  have cq:n+k<=c\/¬(281474976710656<Builtin.nextslicecap (n+k) c*i.bytes):=by
   by_cases hr:n+k<=c
   ·exact .inl hr
   ·have:=growslice_fits (need:=n+k) (old:=c) (bytes:=i.bytes) ω (by rw[qG];omega);exact .inr ω
  have Fg:¬(9223372036854775807<((n:Int)+(k:Int))):=by omega
  by_cases hk:k=0
  ·subst hk;have e0:=M0 O;have i8:n<=c:=M1.2;have mW:IntKind.i64.wrap 0=0:=by rw[IntKind.wrap_i64];omega
   have iM:=hf w;rw[jE,e0] at iM;simp[Builtin.append_,run_underlying ht,run_underlying hn,run_underlying hu,sizeOf,typeInfo,zeroValue,hi,oZ,jE,asInt,asIntOf,mW,Builtin.lenOf,cH,i8,iM]
  ·have bO:=z3k k;have sh:∀w,(Builtin.firstCells 1 k (.string ⟨(zeros k).toArray⟩)).run P w= .ok (Builtin.zeroCells (Value.int .u8 0).cells k) w:=λw=>by rw[bO];have:=hf w;rw[jE] at this;exact this
   have eL:¬(k*i.size=0):=by rw[jE];omega
   by_cases hr:n+k<=c
   ·simp[Builtin.append_,run_underlying ht,run_underlying hn,run_underlying hu,sizeOf,typeInfo,zeroValue,hi,oZ,jE,asInt,asIntOf,hw,ul,Io,Builtin.lenOf,cH,hr,sh,hk]
   ·have Fh:=cq.resolve_left hr;simp[Builtin.append_,run_underlying ht,run_underlying hn,run_underlying hu,sizeOf,typeInfo,zeroValue,hi,oZ,jE,asInt,asIntOf,hw,ul,Io,Builtin.lenOf,cH,hr,sh,hk,Fg,Fh]
 refine⟨v',w',fun ρ hρ=>?_,h1,h2⟩
 simp[execOp,resolve,invoke,builtin,hρ _ _ hx,hρ _ _ hy,he]
end
/-! ### Writers -/
def swC (s st len:Nat)(rest:Value)(at' n:Nat)(sum:Nat)(put:Value)(dn:Bool):List Value:=[ptr s 0,I (st:Int),I (len:Int),rest,I (at':Int),I (n:Int),U sum,put,.bool dn]
section
variable {w w':World}{Q:QY}{txt:Int->Ov}{K:Nat}{X:Nat->Prop}
def z2t (n:Nat)(hn:n<=2000000)(w:World):P9 prog 64 [I 512,I (n:Int)] w λv w'=>v= .tuple #[I (((n+523) / 512:Nat):Int),I 0]/\w'=w:=by
 refine py (e:=[(0,_),(1,_)]) func64 O ntmps64 O O$ qN O$ Qd O$ Pz O$ Qv O$ Pu$ OX O$ Qr O$ Pu$ PC O$ OX O$ qV (yre O O ω)$ Ql O$ Pu ?_
 refine PC O$ OX O$ Qv O$ Pu$ PC O$ OX O$ OC O$ qV (X5 O O ω)$ Ra O$ Qr O$ Pu$ PC O$ Oq$ P8.qb (e:=[(0,_),(1,_),(4,_),(5,_),(27,_)]) ?_
 refine T2 O$ P7 O$ PL O$ OC O$ PL O$ Ra O$ OC O$ qV (Wq O O ω)$ Qd O ?_
 rw[show((n:Int)+12+512-1) / 512=(((n+523) / 512:Nat):Int) by omega]
 refine Oo func64 O ?_
 exact⟨_,rfl,rfl,rfl⟩
def ZA (h:Sp Q txt K X w){st len:Nat}(h1:1<=len)(h2:st+len<=Q.L.length):P9 prog 98 [.agg #[ptr Q.s 0,I (st:Int),I (len:Int)]] w λv w'=>v=I 0/\Ext w w':=by
 have en:=h.n
 refine py (e:=[(0,_)]) func98 O ntmps98 O O$ qN O$ Oy O O (R9 O (cs:=[ptr Q.s 0,I (st:Int),I (len:Int)]) O) ?_
 rintro _ w1 ⟨b1,rfl,bK,ad,ah⟩
 have hP:=h.ext' ad
 have hg:=Ext.OT w1
 have Ip:=(hP.ext' hg).dev
 have Iq:=(hP.ext' hg).blocks
 refine OK O$ Qt$ qN O$ OL UM O$ qV (OB XP O O ah O)$ qV (PU XP O O)$ OK O$ Ox O$ An$ R8 (λw'=>Ext w1 w') O$ Ow 0 O (Pk TV O) hg$ Ow 1 O (Pk QX O) hg$ qT 2 O (λ_ h=>OB U3 O O (h.On ah) O) hg$ Ow 3 O (ylt O O) hg ?_
 refine TK$ OR 4 O O (hg)$ Ow 5 O (Pk TV O) hg$ Ow 6 O (Pk QJ O) hg$ qT 7 O (λ_ h=>OB U3 O O (h.On ah) O) hg$ Ow 8 O (ylt O O) hg$ TK$ Ow 9 O (U0 O O) hg$ OR 10 O O (hg)$ Ow 11 O (Pk TV O) hg$ Ow 12 O (Pk QJ O) hg$ qT 13 O (λ_ h=>OB U3 O O (h.On ah) O) hg$ Ow 14 O (Pk UM O) hg$ qT 15 O (λ_ h=>OB XP O O (h.On ah) O) hg ?_
 refine SH 16 O zdw O (Ip) ?_
 rintro _ w2 ⟨rfl,rfl⟩
 refine⟨hg,?_⟩
 refine SH 17 O z4v O (Iq) ?_
 rintro _ w2 ⟨rfl,rfl⟩
 refine⟨hg,?_⟩
 refine Ow 18 O (yge O O) hg$ TK$ Ow 19 O (U0 O O) hg$ OR 20 O O (hg)$ Ow 21 O (Pk TV O) hg$ Ow 22 O (Pk QX O) hg$ qT 23 O (λ_ h=>OB U3 O O (h.On ah) O) hg$ Ow 24 O (Pk UM O) hg$ qT 25 O (λ_ h=>OB XP O O (h.On ah) O) hg$ Ow 28 O (Pk TV O) hg$ Ow 29 O (Pk QJ O) hg$ qT 30 O (λ_ h=>OB U3 O O (h.On ah) O) hg$ SH 26 O zdw O (Ip) ?_
 rintro _ w2 ⟨rfl,rfl⟩
 refine⟨hg,?_⟩
 refine SH 27 O z4v O (Iq) ?_
 rintro _ w2 ⟨rfl,rfl⟩
 refine⟨hg,?_⟩
 refine Ow 31 O (X8 O O ω) hg$ Ow 32 O (XQ O O) hg$ TK$ Ow 33 O (U0 O O) hg$ Ow 34 O (Rr O) hg$ qE$ P8.qb (e:=[(2,_),(7,_)]) ?_
 refine T2 O$ Om$ QB O$ Oo func98 O ?_
 exact⟨_,rfl,rfl,ad.trans hg⟩
def z0X (h:Sp Q txt K X w){st len:Nat}(h2:len<=100000):P9 prog 106 [.agg #[ptr Q.s 0,I (st:Int),I (len:Int)]] w λv w'=>v=I ((len:Int)*512-12)/\Ext w w':=by
 refine py (e:=[(0,_)]) func106 O ntmps106 O O$ qN O$ Oy O O (R9 O (cs:=[ptr Q.s 0,I (st:Int),I (len:Int)]) O) ?_
 rintro _ w1 ⟨b1,rfl,bK,ad,ah⟩
 have hP:=h.ext' ad
 have hg:=Ext.OT w1
 have M2:=(hP.ext' hg).size
 refine OK O$ An$ R8 (λw'=>Ext w1 w') O$ Ow 0 O (Pk TV O) hg$ Ow 1 O (Pk QX O) hg$ qT 2 O (λ_ h=>OB U3 O O (h.On ah) O) hg$ Ow 3 O (Pk UM O) hg$ qT 4 O (λ_ h=>OB XP O O (h.On ah) O) hg$ SH 5 O z4h O (M2) ?_
 rintro _ w2 ⟨rfl,rfl⟩
 refine⟨hg,?_⟩
 refine Ow 6 O (X5 O O ω) hg$ Ow 7 O (X8 O O ω) hg$ Ow 8 O (Rr O) hg$ qE$ Oo func106 O ?_
 exact⟨_,rfl,rfl,ad.trans hg⟩
def Y1 {wb s st len at' n sum:Nat}{rest put:Value}(hB:OE w wb (swC s st len rest at' n sum put false) 197):P9 prog 101 [ptr wb 0] w λv w'=>v=I 0/\w'=w:=by
 replace hB:OE w wb [ptr s 0,I (st:Int),I (len:Int),rest,I (at':Int),I (n:Int),U sum,put,.bool false] 197:=hB
 refine py (e:=[(0,_)]) func101 O ntmps101 O O$ QB O$ Qt$ P7 O$ qV (PU z2S O O)$ OK O$ Ox O$ P7 O$ Pb O$ OL XS O$ qV (OB U4 O O hB O)$ OK O$ T2 O$ Om ?_
 refine QB O$ Oo func101 O ?_
 exact⟨_,rfl,rfl,rfl⟩
def z4A (h:Sp Q txt K X w){wb st len at' n sum:Nat}{rest put:Value}(h2:len<=100000)(hn:n<=100000000)(hB:OE w wb (swC Q.s st len rest at' n sum put false) 197):P9 prog 102 [ptr wb 0] w λv w'=>v=I ((len:Int)*512-12-(n:Int))/\Ext w w':=by
 replace hB:OE w wb [ptr Q.s 0,I (st:Int),I (len:Int),rest,I (at':Int),I (n:Int),U sum,put,.bool false] 197:=hB
 have hg:=Ext.OT w
 have M3:=z0X (h.ext' hg) (st:=st) h2
 refine py (e:=[(0,_)]) func102 O ntmps102 O O$ QB O$ Pz O$ qV (PU z2S O O)$ OX O$ Pb O$ OL XS O$ qV (OB U4 O O hB O)$ PC O$ PX O$ An$ R8 (λw'=>Ext w w') O$ OR 0 O O (hg)$ Ow 1 O (Q8 O) hg ?_
 refine Ow 2 O (Pk Wp O) hg$ qT 3 O (λ_ h=>Pa zcI O Xo O (OE.cells (n:=3) (h.On hB) (news:=[_,_,_]) O) O) hg$ OR 5 O O (hg)$ Ow 6 O (Q8 O) hg$ Ow 7 O (Pk ZN O) hg$ qT 8 O (λ_ h=>OB U3 O O (h.On hB) O) hg$ SH 4 O zdR O (M3) ?_
 rintro _ w2 ⟨rfl,ae⟩
 refine⟨(hg.trans ae),?_⟩
 refine Ow 9 O (X8 O O ω) ((hg.trans ae))$ Ow 10 O (Rr O) ((hg.trans ae))$ qE$ Oo func102 O ?_
 exact⟨_,rfl,rfl,hg.trans ae⟩
end
def z0e (bs bx bw:Nat):Value:= .func (.func 99) #[] #[ptr bs 0,ptr bx 0,ptr bw 0]
structure SwM (s st len wb bs bx bw:Nat)(rest:Value)(at' n sum:Nat)(w:World):Prop where
 wr:OE w wb (swC s st len rest at' n sum (z0e bs bx bw) false) 197
 sb:OE w bs [ptr s 0] 27
 xb:OE w bx [I (st:Int),I (len:Int)] 124
 pb:OE w bw [ptr wb 0] 143
 ne:bs≠wb/\bx≠wb/\bw≠wb
section
variable {w w':World}{Q:QY}{txt:Int->Ov}{K:Nat}{X S':Nat->Prop}{s st len wb bs bx bw at' n sum:Nat}{rest:Value}
def SwM.kp (h:SwM s st len wb bs bx bw rest at' n sum w)(hk:Kp S' w w')(h1:¬S' wb)(h2:¬S' bs)(h3:¬S' bx)(h4:¬S' bw):SwM s st len wb bs bx bw rest at' n sum w':=
 ⟨hk.On h.wr h1,hk.On h.sb h2,hk.On h.xb h3,hk.On h.pb h4,h.ne⟩
theorem SwM.ext (h:SwM s st len wb bs bx bw rest at' n sum w)(hx:Ext w w'):SwM s st len wb bs bx bw rest at' n sum w':=h.kp (S':=λ_=>False) hx id id id id
def SwM.re {rest2:Value}{at2 n2 sum2:Nat}(h:SwM s st len wb bs bx bw rest at' n sum w)(hk:Kp (λb=>b=wb) w w')(hB:OE w' wb (swC s st len rest2 at2 n2 sum2 (z0e bs bx bw) false) 197):SwM s st len wb bs bx bw rest2 at2 n2 sum2 w':=
 ⟨hB,hk.On h.sb h.ne.1,hk.On h.xb h.ne.2.1,hk.On h.pb h.ne.2.2,h.ne⟩
theorem SwM.cells (h:SwM s st len wb bs bx bw rest at' n sum w):OE w wb [ptr s 0,I (st:Int),I (len:Int),rest,I (at':Int),I (n:Int),U sum,z0e bs bx bw,.bool false] 197:=h.wr
def Zf (hP:Sp Q txt K X w)(hX:∀b,X b->b<w.heap.size)(hK:K<1000000000000)(h:SwM Q.s st len wb bs bx bw rest at' n sum w)(aO:X wb/\X bs/\X bx/\X bw)(Bj:st+at'<Q.L.length)(t:Ov)(ht:t.length=512):
  P9 prog 99 [S t,ptr bs 0,ptr bx 0,ptr bw 0] w λv w'=>v=I 0/\Sp Q (YO txt ((st+at':Nat):Int) (some t)) (K+1) X w'/\SwM Q.s st len wb bs bx bw rest (at'+1) n sum w'/\Kp (λb=>¬X b\/b=wb) w w':=by
 have en:=hP.n
 have m9:=h.sb
 have iR:=h.xb
 have ma:=h.pb
 have hB:=h.cells
 have hg:=Ext.OT w
 refine py (e:=[(0,_),(1,_),(2,_),(3,_)]) func99 O ntmps99 O O$ QB O$ An$ R8 (λw'=>Kp (λb=>¬X b) w w') O$ qT 0 O (λ_ hS=>(OB XP O O (hS.On m9 (λe=>e aO.2.1)) O)) (hg.kp)$ Ow 1 O (Pk QJ O) (hg.kp)$ qT 2 O (λ_ hS=>(OB U3 O O (hS.On iR (λe=>e aO.2.2.1)) O)) (hg.kp)$ qT 3 O (λ_ hS=>(OB z2S O O (hS.On ma (λe=>e aO.2.2.2)) O)) (hg.kp)$ Ow 4 O (Q8 O) (hg.kp)$ Ow 5 O (Pk Yo O) (hg.kp)$ qT 6 O (λ_ hS=>(OB U3 O O (hS.On hB (λe=>e aO.1)) O)) (hg.kp)$ Ow 7 O (Uw O O ω) (hg.kp)$ OR 8 O O (hg.kp) ?_
 rw[show(st:Int)+(at':Int)=((st+at':Nat):Int) by omega]
 refine SH 9 O zbq O ((hP.ext' hg).write (λb hb=>by have:=hX b hb;have:=hg.size;omega) hK (no:=((st+at':Nat):Int)) ω ω t ht) ?_
 rintro _ w1 ⟨rfl,md,aG⟩
 refine⟨hg.kp.trans aG,?_⟩
 have iy:Kp (λb=>¬X b) w w1:=hg.kp.trans aG
 have h1:=h.kp iy (λe=>e aO.1) (λe=>e aO.2.1) (λe=>e aO.2.2.1) (λe=>e aO.2.2.2)
 have ah:=h1.cells
 have Fi:=h1.pb
 have eX:∀b,X b->b<w1.heap.size:=λb hb=>by have:=hX b hb;have:=iy.size;omega
 refine Ow 10 O (Rr O) (hg.kp.trans aG)$ qE$ qN O$ qV ((OB z2S O O Fi O))$ Pb O$ OL Yo O$ qV ((OB U3 O O ah O))$ PL O$ Pb O$ OL Yo O$ OJ O (Qw PH O O O ah ξ) ?_
 rintro w2 ⟨ak,am⟩
 have eu:OE w2 wb (swC Q.s st len rest (at'+1) n sum (z0e bs bx bw) false) 197:=ak
 have h2:=h1.re am eu
 have zH:=h2.cells
 have zI:=h2.pb
 have aa:=Ext.OT w2
 have f9:=md.own am (λb e=>by rw[e];exact aO.1)
 refine Oq$ An$ OW [11] (λw'=>Ext w2 w') (by kernel_rfl) O$ qL 0 O (λ_ h=>(OB z2S O O (h.On zI) O)) aa$ qL 1 O (λ_ h=>(OB z2S O O (h.On zI) O)) aa$ P5 2 O (Q8 O) aa$ P5 3 O (Pk XS O) aa$ qL 4 O (λ_ h=>(OB U4 O O (h.On zH) O)) aa$ PF 5 O O (aa)$ PF 6 O O (aa)$ P5 7 O (yne O O) aa$ P5 8 O (U0 O O) aa$ P5 9 O (Q8 O) aa$ P5 10 O (Pk XS O) aa ?_
 refine Th [11] ?_
 have ao:=aa.On zH
 refine qO 11$ Pt (i:=11) O O (Qw US O O O ao ξ) ?_
 rintro w3 ⟨kl,ar⟩
 refine⟨trivial,?_⟩
 refine qE$ P8.qb (e:=[(5,_),(6,_)]) ?_
 refine P7 O$ OK O$ Oo func99 O ?_
 have h3:=(h2.ext aa).re ar (show OE w3 wb (swC Q.s st len rest (at'+1) n sum (z0e bs bx bw) false) 197 from kl)
 exact⟨_,rfl,rfl,(f9.ext' aa).own ar (λb e=>by rw[e];exact aO.1),h3,((iy.OA λb e=> .inl e).trans (am.OA λb e=> .inr e)).trans (aa.kp.trans (ar.OA λb e=> .inr e))⟩
end
section
variable {P:Program}{e:Env}{d:Option Nat}{ty t t' el:TypeId}{pos:String}{aft:Array Edge}{g:Option (Nat×Bool)}{x:Operand}{w:World}{l:Ov}{v:Value}
def zea (hs:P.underlying t=some (.slice el))(he:P.underlying el=some (.int .u8))(hd:P.underlying t'=some .string)(hx:look e x=some v)(hr:Rd w v 1 l.length (l.map Tg))(hl:0<l.length):
  Y P e ⟨d,.convert t t' x,ty,pos,aft,g⟩ (S l) w w:=fun ρ hρ=>by
 rcases hr.2 with⟨⟨ca,c⟩,hv,h0⟩|⟨b,off,cap,hv,hc⟩
 ·omega
 ·subst hv;have hr:=run_convert_bytes_back (P:=P) w t t' el ⟨b,off,none⟩ cap l hs he hd (λj hj=>by rw[Rb];exact hc j _ (by simp[hj,Tg]));simp[execOp,hρ _ _ hx,hr]
end
section
variable {w w':World}{Q:QY}{txt:Int->Ov}{K:Nat}{X:Nat->Prop}{s st len wb bs bx bw n sum:Nat}
theorem z36 (hP:Sp Q txt K X w){st len:Nat}(h1:1<=len)(h2:st+len<=Q.L.length):
  P9 prog 67 [ptr Q.s 0,.agg #[I (st:Int),I (len:Int)]] w λv w'=>∃wb bs bx bw sum,v= .tuple #[ptr wb 0,I 0]/\sum<4294967296/\SwM Q.s st len wb bs bx bw (.slice none 0 0) 0 0 sum w'/\(w.heap.size<=wb/\w.heap.size<=bs/\w.heap.size<=bx/\w.heap.size<=bw)/\Ext w w':=by
 have mv:Sums.crc []<4294967296:=Sums.ze5 _
 obtain⟨c0,um⟩:∃c0,Sums.crc []=c0:=⟨_,rfl⟩
 rw[um] at mv
 refine py (e:=[(0,_),(1,_)]) func67 O ntmps67 O O$ qN O$ Oy O O (R9 O (cs:=[ptr Q.s 0]) O) ?_
 rintro _ w1 ⟨bs,rfl,xR,ad,m9⟩
 refine Oy O O (R9 O (cs:=[I (st:Int),I (len:Int)]) O) ?_
 rintro _ w2 ⟨bx,rfl,fF,ae,iR⟩
 have kq:=ae.On m9
 have M4:=hP.ext' (ad.trans ae)
 have av:=Ext.OT w2
 have bO:=av.size
 refine Qd O$ An$ Pw (λe' w'=>∃wb bw,e'=[(2,ptr bs 0),(3,ptr bx 0),(6,ptr bw 0)]/\OE w' wb [ptr Q.s 0,I (st:Int),I (len:Int),.slice none 0 0,I 0,I 0,U c0,.nilFunc,.bool false] 197/\OE w' bw [ptr wb 0] 143/\Ext w2 w'/\w2.heap.size<=wb/\w2.heap.size<=bw/\wb≠bw) ?bD$ λbD=>?de
 case bD=>
  rintro e' w3 ⟨wb,bw,rfl,ao,my,aj,nI,Fj,br⟩;have lbs:=m9.lt;have lbx:=iR.lt;have eg:=ae.size;have gI:=M4.ext' aj;refine An$ qN O$ qV ((OB z2S O O my O))$ Pb O$ OL Wp O$ qV ((Pa zcI O Xo O (OE.cells (n:=3) ao (news:=[_,_,_]) O) O))$ OQ zg0 O (ZA gI h1 h2) ?_;rintro _ w4 ⟨rfl,aC⟩;have lO:=aC.On my;have aH:=aC.On ao;refine QO O (Ql O (PX O (qN O (qV ((OB z2S O O lO O)) (qV (ymf (first:=[]) (caps:=[.tmp 2,.tmp 3,.tmp 6]) O O) (Pb O (OL ZL O (OJ O (Qw zel O O O aH ξ) ?_))))))));rintro w5 ⟨aD,ai⟩;have B7:=ai.On lO (λe=>br e.symm);refine qM O$ qV (OB z2S O O B7 O)$ Qd O$ Oo func67 O ?_;have io:Ext w2 w5:=(aj.trans aC).It ai (λj e=>by omega);refine⟨_,rfl,wb,bs,bx,bw,c0,rfl,mv,⟨aD,io.On kq,io.On iR,B7,⟨ω,ω,λe=>br e.symm⟩⟩,⟨ω,ω,ω,ω⟩,(ad.trans ae).trans io⟩
 case de=>
 refine OW [7] (λw'=>Ext w2 w') (by kernel_rfl) O$ qL 0 O (λ_ h=>(OB XP O O (h.On kq) O)) av$ qL 1 O (λ_ hS=>(Pa WY O QT O (OE.cells (n:=2) (hS.On iR) (news:=[_,_]) O) O)) av$ P5 2 O (Sa (cs:=[_,_,_]) Xo O zdB O O) av$ Xd (i:=3) (j:=6) (by kernel_rfl) ?_ ?_
 ·refine RM (i:=3) O O O (yc (args:=[.const (Value.string (⟨#[]⟩))]) zhy O) (z6V [] _ ξ) ?_;rintro _ w3 ⟨rfl,aj⟩;refine⟨av.trans aj,?_⟩;rw[um];have av:=av.trans aj
  try have aT:=aj.On aT
  have bO:=Nat.le_trans bO aj.size;refine P5 4 O (Sa (cs:=[_,_,_,_,_,_,_,_,_]) zdV O zdx O O) av$ Xd (i:=5) (j:=6) (by kernel_rfl) ?_ ?_
  ·refine Qg (i:=5) O O O (R9 O (cs:=[ptr Q.s 0,I (st:Int),I (len:Int),.slice none 0 0,I 0,I 0,U c0,.nilFunc,.bool false]) O) ?_;rintro _ w5 ⟨wb,rfl,nI,aR,aD⟩;refine⟨av.trans aR,?_⟩;have av:=av.trans aR
   try have aT:=aR.On aT
   have te:w2.heap.size<=wb:=by omega
   have bO:=Nat.le_trans bO aR.size;refine R4 (i:=6) (by kernel_rfl)$ Qg (i:=6) O O O (Rq (cs:=[_]) z1O O) ?_;rintro _ w6 ⟨bw,rfl,Fj,aQ,aT⟩;refine⟨av.trans aQ,?_⟩;have av:=av.trans aQ
   try have aD:=aQ.On aD
   have zJ:w2.heap.size<=bw:=by omega
   have bO:=Nat.le_trans bO aQ.size;refine Th [7] (qO 7 (Pt (i:=7) O O (Qw z1O O O O aT ξ) ?_));rintro w7 ⟨bZ,ax⟩;refine⟨trivial,?_⟩;refine qE ?_;replace bZ:OE w7 bw [ptr wb 0] 143:=bZ
   have jl:wb≠bw:=by
    intro e;have h5:=aD;rw[e] at h5;obtain⟨fz,h5,-⟩:=h5;obtain⟨fz6,h6,-⟩:=aT;rw[h5] at h6;cases h6
   have jK:=ax.On aD jl;exact(bD _ _ ⟨wb,bw,rfl,jK,bZ,av.It ax (λj e=>by omega),te,zJ,jl⟩).qb
  ·refine Qg (i:=6) O O O (Rq (cs:=[_]) z1O O) ?_;rintro _ w6 ⟨bw,rfl,Fj,aQ,aT⟩;refine⟨av.trans aQ,?_⟩;have av:=av.trans aQ
   try have aD:=aQ.On aD
   have zJ:w2.heap.size<=bw:=by omega
   have bO:=Nat.le_trans bO aQ.size;refine R4 (i:=5) (by kernel_rfl)$ Qg (i:=5) O O O (R9 O (cs:=[ptr Q.s 0,I (st:Int),I (len:Int),.slice none 0 0,I 0,I 0,U c0,.nilFunc,.bool false]) O) ?_;rintro _ w5 ⟨wb,rfl,nI,aR,aD⟩;refine⟨av.trans aR,?_⟩;have av:=av.trans aR
   try have aT:=aR.On aT
   have te:w2.heap.size<=wb:=by omega
   have bO:=Nat.le_trans bO aR.size;refine Th [7] (qO 7 (Pt (i:=7) O O (Qw z1O O O O aT ξ) ?_));rintro w7 ⟨bZ,ax⟩;refine⟨trivial,?_⟩;refine qE ?_;replace bZ:OE w7 bw [ptr wb 0] 143:=bZ
   have jl:wb≠bw:=by
    intro e;have h5:=aD;rw[e] at h5;obtain⟨fz,h5,-⟩:=h5;obtain⟨fz6,h6,-⟩:=aT;rw[h5] at h6;cases h6
   have jK:=ax.On aD jl;exact(bD _ _ ⟨wb,bw,rfl,jK,bZ,av.It ax (λj e=>by omega),te,zJ,jl⟩).qb
 ·refine Qg (i:=6) O O O (Rq (cs:=[_]) z1O O) ?_;rintro _ w6 ⟨bw,rfl,Fj,aQ,aT⟩;refine⟨av.trans aQ,?_⟩;have av:=av.trans aQ
  try have aD:=aQ.On aD
  have zJ:w2.heap.size<=bw:=by omega
  have bO:=Nat.le_trans bO aQ.size;refine R4 (i:=3) (by kernel_rfl) (RM (i:=3) O O O (yc (args:=[.const (Value.string (⟨#[]⟩))]) zhy O) (z6V [] _ ξ) ?_);rintro _ w3 ⟨rfl,aj⟩;refine⟨av.trans aj,?_⟩;rw[um];have av:=av.trans aj
  try have aT:=aj.On aT
  have bO:=Nat.le_trans bO aj.size;refine P5 4 O (Sa (cs:=[_,_,_,_,_,_,_,_,_]) zdV O zdx O O) av (R4 (i:=5) (by kernel_rfl) (Qg (i:=5) O O O (R9 O (cs:=[ptr Q.s 0,I (st:Int),I (len:Int),.slice none 0 0,I 0,I 0,U c0,.nilFunc,.bool false]) O) ?_));rintro _ w5 ⟨wb,rfl,nI,aR,aD⟩;refine⟨av.trans aR,?_⟩;have av:=av.trans aR
  try have aT:=aR.On aT
  have te:w2.heap.size<=wb:=by omega
  have bO:=Nat.le_trans bO aR.size;refine Th [7] (qO 7 (Pt (i:=7) O O (Qw z1O O O O aT ξ) ?_));rintro w7 ⟨bZ,ax⟩;refine⟨trivial,?_⟩;refine qE ?_;replace bZ:OE w7 bw [ptr wb 0] 143:=bZ
  have jl:wb≠bw:=by
   intro e;have h5:=aD;rw[e] at h5;obtain⟨fz,h5,-⟩:=h5;obtain⟨fz6,h6,-⟩:=aT;rw[h5] at h6;cases h6
  have jK:=ax.On aD jl;exact(bD _ _ ⟨wb,bw,rfl,jK,bZ,av.It ax (λj e=>by omega),te,zJ,jl⟩).qb
end
section
variable {w w':World}{Q:QY}{txt:Int->Ov}{K:Nat}{X:Nat->Prop}{st len wb bs bx bw n sum:Nat}{rest:Value}{T:Ov}
theorem z8H (T:Ov)(k:Nat):((T.drop (512*k)).map Tg).drop 512=(T.drop (512*(k+1))).map Tg:=by
 rw[<-List.map_drop,List.drop_drop]
 congr 2
def SwI (Q:QY)(txt:Int->Ov)(K:Nat)(X:Nat->Prop)(st len wb bs bx bw:Nat)(T:Ov)(sum:Nat)(w:World)(k:Nat)(w':World):Prop:=
 ∃txt' rest,Sp Q txt' (K+k) (λb=>X b\/rest.ownBlock=some b) w'/\SwM Q.s st len wb bs bx bw rest k T.length sum w'/\Sl w' rest 5 1 (T.length-512*k) ((T.drop (512*k)).map Tg)/\(∀j,j<k->txt' ((st+j:Nat):Int)=(T.drop (512*j)).take 512)/\(∀y:Int,y<(st:Int)\/(st:Int)+(k:Int)<=y->txt' y=txt y)/\Kp (λb=>¬X b\/b=wb) w w'/\(∀b,rest.ownBlock=some b->w.heap.size<=b)
theorem z3X (hP:Sp Q txt K X w)(hX:∀b,X b->b<w.heap.size)(hK:K<=100000000000)(h:SwM Q.s st len wb bs bx bw (.slice none 0 0) 0 0 sum w)(gM:sum<4294967296)(aO:X wb/\X bs/\X bx/\X bw)(cq:st+len<=Q.L.length)(h1:1<=len)(hT:T.length<=len*512-12):
  P9 prog 68 [ptr wb 0,S T] w λv w'=>v=I 0/\∃sum',sum'<4294967296/\SwI Q txt K X st len wb bs bx bw T sum' w (T.length / 512) w':=by
 have fg:maxLen=9223372036854775807:=rfl
 have en:=hP.n
 refine py (e:=[(0,_),(1,_)]) func68 O ntmps68 O O$ QB O$ Pz O$ OQ zd9 O (Y1 h.wr) ?_
 rintro _ w ⟨rfl,rfl⟩
 refine QO O$ Ql O$ PX O$ Pz O$ qV (VX U9 O)$ OC O$ OQ zgV O (z4A hP ω ω h.wr) ?_
 rintro _ w1 ⟨rfl,ad⟩
 have md:=hP.ext' ad
 have dN:=h.ext ad
 have ah:=dN.cells
 refine Qr O$ Pu$ PX O$ P7 O$ Pb O$ OL ZN O$ qV (OB U3 O O ah O)$ OC O$ qV (VX U9 O)$ PL O$ Pb O$ OL ZN O ?_
 rw[show((0:Nat):Int)+(T.length:Int)=(T.length:Int) by omega]
 refine OJ O (Qw PH O O O ah ξ) ?_
 rintro w2 ⟨ak,am⟩
 have dg:=dN.re am (show OE w2 wb (swC Q.s st len (.slice none 0 0) 0 T.length sum (z0e bs bx bw) false) 197 from ak)
 have f9:=md.own am (λb e=>by rw[e];exact aO.1)
 have eu:=dg.cells
 refine qM O$ OX O$ Pb O$ OL z2X O$ qV (OB QA O O eu O)$ OC O$ OQ zcP O (zaP sum T _ gM ω) ?_
 rintro _ w3 ⟨rfl,aj⟩
 have rQ:=Sums.zdT T gM
 obtain⟨sum3,iF⟩:∃sum3,Sums.on sum T=sum3:=⟨_,rfl⟩
 rw[iF] at rQ⊢
 have oN:=dg.ext aj
 have ao:=oN.cells
 refine Pb O$ OL z2X O$ OJ O (Qw OS O O O ao ξ) ?_
 rintro w4 ⟨aH,aq⟩
 have vy:=oN.re aq (show OE w4 wb (swC Q.s st len (.slice none 0 0) 0 T.length sum3 (z0e bs bx bw) false) 197 from aH)
 have jx:=(f9.ext' aj).own aq (λb e=>by rw[e];exact aO.1)
 have eY:=vy.cells
 refine Oq$ P8.qb (e:=[(0,_),(1,_),(4,_)]) ?_
 refine Qh O$ Pb O$ OL SG O$ qV (OB Qk O O eY O)$ OC O$ Oy O O (zfm Qk U9 XN O O (Sl.nil w4 _ 1) ω) ?_
 rintro v5 w5 ⟨fP,ai,sV⟩
 simp only[List.nil_append,Nat.zero_add] at fP
 replace ai:Ext w4 w5:=ai.OA (λb e=>by cases e)
 have un:∀b,v5.ownBlock=some b->w4.heap.size<=b:=λb e=>(sV b e).elim (λe=>by cases e) id
 obtain⟨a5,c5,rfl,-⟩:=fP.rd.shape
 have oH:=vy.ext ai
 have aD:=oH.cells
 have bL:Kp (λb=>¬X b\/b=wb) w w5:=(((ad.kp.trans (am.OA λb e=> .inr e)).trans aj.kp).trans (aq.OA λb e=> .inr e)).trans ai.kp
 have z4:w.heap.size<=w4.heap.size:=by have:=ad.size;have:=am.size;have:=aj.size;have:=aq.size;omega
 have lwb:=aD.lt
 have lwb0:=hX _ aO.1
 refine Pb O$ OL SG O$ OJ O (Qw X9 O O O aD ξ) ?_
 rintro w6 ⟨aT,aJ⟩
 have EE:=oH.re aJ (show OE w6 wb (swC Q.s st len (.slice a5 T.length c5) 0 T.length sum3 (z0e bs bx bw) false) 197 from aT)
 have o5:Sp Q txt K (λb=>X b\/(Value.slice a5 T.length c5).ownBlock=some b) w6:=(jx.ext ai (λb e=>e.imp id (un b))).own aJ (λb e=> .inl (by rw[e];exact aO.1))
 have fL:=fP.kp aJ (λb hb e=>by have:=un b hb;omega)
 have mP:=EE.cells
 have ir:=bL.trans (aJ.OA λb e=>Or.inr e)
 refine qM O$ OC O$ Pb O$ OL Wp O$ OL UM O$ qV (OB XP O O mP O)$ OQ z4h O (o5.size) ?_
 rintro _ w6 ⟨rfl,rfl⟩
 refine OK O$ Qt$ Rw (α:=Nat) (0) (λk=>[(0,ptr wb 0),(6,I 512)]) (λk w'=>k<=T.length / 512/\SwI Q txt K X st len wb bs bx bw T sum3 w k w') (λk=>T.length / 512-k) ?hI ?hround
 case hI=>exact⟨Nat.zero_le _,txt,_,o5,EE,fL,λj hj=>by omega,λy hy=>rfl,ir,λb hb=>by have:=un b hb;omega⟩
 case hround=>
  rintro k w8 ⟨hk,txt1,rest,oR,xm,er,iQ,zK,aP,jv⟩ ih;obtain⟨a8,c8,rfl,-⟩:=er.rd.shape;have bY:=xm.cells;have Hv:=aP.size
  try dsimp only
  refine Pz O$ Pb O$ OL SG O$ qV (OB Qk O O bY O)$ Ro Qk O$ OC O$ TE O$ Oq$ OH O (λh0=>?_)$ λh0=>?_
  ·have M5:512*k+512<=T.length:=by omega
   rcases er.shape with⟨e,vM⟩|⟨gb,cc,e,ES⟩
   ·omega
   cases e;have Lg:=jv gb O;have hg:=Ext.OT w8;have eJ:((T.drop (512*k)).take 512).length=512:=by rw[List.length_take,List.length_drop];omega
   have Fk:Rd w8 (.slice (some ⟨gb,0,none⟩) 512 c8) 1 ((T.drop (512*k)).take 512).length (((T.drop (512*k)).take 512).map Tg):=by
    rw[eJ,List.map_take];exact UA er.rd ω
   have M6:∀b,(X b\/(Value.slice (some ⟨gb,0,none⟩) (T.length-512*k) c8).ownBlock=some b)->b<w8.heap.size:=λb hb=>by
    rcases hb with e| e
    ·have:=hX b e;omega
    ·exact er.lt e
   refine Ot (Ou (An (An (OW [11,12] (λw'=>Ext w8 w') (by kernel_rfl) O (PF 0 O O (hg) (P5 1 O (Q8 O) hg (P5 2 O (Pk ZL O) hg (qL 3 O (λ_ h=>OB U55 O O (h.On bY) O) hg (PF 4 O O (hg) (P5 5 O (Q8 O) hg (P5 6 O (Pk SG O) hg (qL 7 O (λ_ h=>OB Qk O O (h.On bY) O) hg (PF 8 O O (hg) ?_)))))))))))));refine P5 9 O (zca Qk XN O O ω) hg (qL 10 O (λ_ hS=>zea (l:=(T.drop (512*k)).take 512) Qk U5 U9 O (Fk.ext hS) ω) hg (Th [11] (qO 11 (W9 (i:=11) O O O (RY zeE O O) (Zf (oR.ext' hg) (λb hb=>by have:=M6 b hb;have:=hg.size;omega) ω (xm.ext hg) ⟨.inl aO.1,.inl aO.2.1,.inl aO.2.2.1,.inl aO.2.2.2⟩ ω ((T.drop (512*k)).take 512) eJ) ?_))));rintro _ w9 ⟨rfl,vR,Bh,aK⟩;refine⟨trivial,?_⟩;refine Ow 12 O (Rr O) trivial$ qE$ P7 O$ Ql O ?_;have cR:=Bh.cells;have uo:=hg.kp.trans aK
   have mT:=er.kp uo (λb hb e=>by
    rcases e with e| e
    ·exact e (.inr hb)
    ·have e1:gb=b:=Rh hb
     omega)
   have Hw:=uo.size;refine PX O (Oz O (OX O (Pb O (OL SG O (qV (OB Qk O O cR O) (OC O (qV (Ya Qk XN O O ω ω) (Oy O O (pap Qk XN O ψ O O (Sl.nil w9 _ 1) (Tw (i:=512) mT.rd ω ω) (λc hc=>by obtain⟨z,-,rfl⟩:=List.mem_map.1 (List.mem_of_mem_drop hc);rfl) ω ω) ?_))))))));rintro v10 w10 ⟨cj,aA,ck,-⟩;rw[List.nil_append,z8H,Nat.zero_add,show T.length-512*k-512=T.length-512*(k+1) by omega] at cj;replace aA:Ext w9 w10:=aA.OA (λb e=>by cases e);have o6:∀b,v10.ownBlock=some b->w9.heap.size<=b:=λb e=>(ck b e).elim (λe=>by cases e) id;obtain⟨a10,c10,rfl,-⟩:=cj.rd.shape;have zL:=Bh.ext aA;have fm:=zL.cells;refine Pb O (OL SG O (OJ O (Qw X9 O O O fm ξ) ?_));rintro w11 ⟨aX,bz⟩;have Fl:=zL.re bz (show OE w11 wb (swC Q.s st len (.slice a10 (T.length-512*(k+1)) c10) (k+1) T.length sum3 (z0e bs bx bw) false) 197 from aX);have Fn:Sp Q (YO txt1 ((st+k:Nat):Int) (some ((T.drop (512*k)).take 512))) (K+k+1) (λb=>X b\/(Value.slice a10 (T.length-512*(k+1)) c10).ownBlock=some b) w11:=(vR.ext aA (λb e=>e.elim (λe=> .inl (.inl e)) (λe=> .inr (o6 b e)))).own bz (λb e=> .inl (by rw[e];exact aO.1));have sG:=cj.kp bz (λb hb e=>by have:=o6 b hb;omega);refine Oq$ Om ((ih (k+1) w11 ⟨ω,_,_,Fn,Fl,sG,λj hj=>?_,λy hy=>?_,?_,λb hb=>by have:=o6 b hb;omega⟩ ω).qb)
   ·by_cases e:j=k
    ·subst e;exact RQ _ _ _
    ·rw[Rk _ _ ω];exact iQ j ω
   ·rw[Rk _ _ ω];exact zK y ω
   ·refine(aP.It uo λb e=>?_).trans (aA.kp.trans (bz.OA λb e=> .inr e));rcases e with e| e
    ·by_cases hb:X b
     ·exact absurd (.inl hb) e
     ·exact .inr (.inl hb)
    ·exact .inr (.inr e)
  ·have M7:k=T.length / 512:=by omega
   subst M7;refine OD O$ QB O$ Oo func68 O ?_;exact⟨_,rfl,rfl,sum3,rQ,txt1,_,oR,xm,er,iQ,zK,aP,jv⟩
end
section
variable {w w':World}{Q:QY}{txt:Int->Ov}{K:Nat}{X:Nat->Prop}{st len wb bs bx bw n sum:Nat}{rest:Value}{T:Ov}
def Xc (n sum:Nat):Ov:=UW 8 n++UW 4 sum
def z2U (n sum:Nat):(Xc n sum).length=12:=by simp[Xc,PW]
theorem z3D (hP:Sp Q txt K (λb=>X b\/rest.ownBlock=some b) w)(hX:∀b,X b->b<w.heap.size)(hK:K<=200000000000)(h:SwM Q.s st len wb bs bx bw rest (T.length / 512) T.length sum w)(gM:sum<4294967296)(aO:X wb/\X bs/\X bx/\X bw)(cq:st+len<=Q.L.length)(aB:len=(T.length+523) / 512)
  (hS:Sl w rest 5 1 (T.length%512) ((T.drop (512*(T.length / 512))).map Tg)) (br:∀b,rest.ownBlock=some b->¬X b) (iQ:∀j,j<T.length / 512->txt ((st+j:Nat):Int)=(T.drop (512*j)).take 512):
  P9 prog 69 [ptr wb 0] w λv w'=>v=I 0/\∃txt',Sp Q txt' (K+2) X w'/\(∀j,512*j<T.length->∃z,txt' ((st+j:Nat):Int)=(T.drop (512*j)).take 512++z)/\(∃z,txt' ((st+(len-1):Nat):Int)=z++Xc T.length sum/\z.length=500)/\(∀y:Int,y<(st:Int)\/(st:Int)+(len:Int)<=y->txt' y=txt y)/\Kp (λb=>¬X b\/b=wb) w w':=by
 have fg:maxLen=9223372036854775807:=rfl
 have en:=hP.n
 obtain⟨a0,c0,rfl,-⟩:=hS.rd.shape
 have hB:=h.cells
 have M8:∀b,(Value.slice a0 (T.length%512) c0).ownBlock=some b->b<w.heap.size:=λb hb=>hS.lt hb
 have hg:=Ext.OT w
 refine py (e:=[(0,_)]) func69 O ntmps69 O O$ QB O$ Pz O$ OQ zd9 O (Y1 h.wr) ?_
 rintro _ w ⟨rfl,rfl⟩
 refine QO O$ Ql O$ PX O$ P7 O$ Pb O$ OL Wp O$ OL UM O$ qV (OB XP O O hB O)$ OQ z4h O (hP.size) ?_
 rintro _ w ⟨rfl,rfl⟩
 refine OK O$ An$ An$ Pw (λe' w'=>∃q,e'=[(0,ptr wb 0),(4,I 512),(38,.bool q)]/\(q=true↔T.length / 512<len-1)/\Ext w w') ?cS$ λcS=>?fQ
 case cS=>
  rintro e' w1 ⟨q,rfl,hq,ad⟩;have md:=hP.ext' ad;have h1:=h.ext ad;have jC:=hS.ext ad;have ah:=h1.cells;have mG:=ad.size;refine Pw (λe' w'=>e'=[(0,ptr wb 0),(4,I 512)]/\∃txt1 rest1 at1 l,Sp Q txt1 (K+1) (λb=>X b\/rest1.ownBlock=some b) w'/\SwM Q.s st len wb bs bx bw rest1 at1 T.length sum w'/\Sl w' rest1 5 1 l.length (l.map Tg)/\l.length<=500/\(∀b,rest1.ownBlock=some b->¬X b)/\l=T.drop (512*(len-1))/\(∀j,j<len-1->512*j<T.length->∃z,txt1 ((st+j:Nat):Int)=(T.drop (512*j)).take 512++z)/\(∀y:Int,y<(st:Int)\/(st:Int)+(len:Int)<=y->txt1 y=txt y)/\Kp (λb=>¬X b\/b=wb) w w') ?au$ λau=>?dX
  case au=>
   rintro e' w2 ⟨rfl,txt1,rest1,at1,l,f9,h2,cU,HJ,fO,hl,Fp,Fr,am⟩;obtain⟨a2,c2,rfl,-⟩:=cU.rd.shape;have ak:=h2.cells;have aa:=Ext.OT w2;have mK:=am.size;refine An (R8 (λw'=>Kp (λb=>(Value.slice a2 l.length c2).ownBlock=some b) w2 w') O (OR 0 O O (aa.kp) (Ow 1 O (Q8 O) (aa.kp) (Ow 2 O (Pk SG O) (aa.kp) (qT 3 O (λ_ h=>OB Qk O O (h.On ak (λe=>fO _ e aO.1)) O) (aa.kp) (OR 4 O O (aa.kp) (Ow 5 O (X8 O O ω) (aa.kp) (OR 6 O O (aa.kp) (Ow 7 O (Q8 O) (aa.kp) (Ow 8 O (Pk SG O) (aa.kp) (qT 9 O (λ_ h=>OB Qk O O (h.On ak (λe=>fO _ e aO.1)) O) (aa.kp) (Ow 10 O (St Qk O) (aa.kp) (Ow 11 O (X8 O O ω) (aa.kp) ?_)))))))))))));rw[show(512:Int)-12-(l.length:Int)=((500-l.length:Nat):Int) by omega];refine qO 12 (ZC (i:=12) O O O (zf4 Qk U3 U9 XN O O (cU.ext aa) ω) ?_);rintro v3 w3 ⟨cV,ar,pK⟩;refine⟨aa.kp.trans ar,?_⟩;have zM:l.length+(500-l.length)=500:=by omega
   rw[zM,<-List.map_append] at cV;obtain⟨a3,c3,rfl,-⟩:=cV.rd.shape;have dK:=aa.kp.trans ar
   have eS:∀b,(Value.slice a3 500 c3).ownBlock=some b->¬X b:=λb hb e=>by
    rcases pK b hb with e2|e2
    ·exact fO b e2 e
    ·have:=hX b e;have:=aa.size;omega
   have gI:Sp Q txt1 (K+1) (λb=>X b\/(Value.slice a3 500 c3).ownBlock=some b) w3:=f9.step dK (λb e=> .inr e) (λb e=>e.elim (λe=> .inl (.inl e)) (λe=>(pK b e).imp .inr (λe=>by have:=aa.size;omega)));have h3:=h2.kp dK (λe=>fO _ e aO.1) (λe=>fO _ e aO.2.1) (λe=>fO _ e aO.2.2.1) (λe=>fO _ e aO.2.2.2);have ao:=h3.cells;have bU:Kp (λb=>¬X b\/b=wb) w w3:=am.It dK (λb e=> .inr (.inl (fO b e)));refine Ow 13 O (Rr O) (aa.kp.trans ar)$ qE$ Qh O$ Pb O$ OL Wp O$ OL TV O$ OL QX O$ qV (OB U3 O O ao O)$ Ra O$ Pb O$ OL Yo O ?_;rw[show(len:Int)-1=((len-1:Nat):Int) by omega];refine OJ O (Qw PH O O O ao ξ) ?_;rintro w4 ⟨aH,aq⟩;have h4:=h3.re aq (show OE w4 wb (swC Q.s st len (.slice a2 l.length c2) (len-1) T.length sum (z0e bs bx bw) false) 197 from aH);have jx:=gI.own aq (λb e=> .inl (by rw[e];exact aO.1));have ep:=cV.kp aq (λb hb e=>eS b hb (by rw[e];exact aO.1));have eY:=h4.cells;have af:=Ext.OT w4;have fE:=bU.trans (aq.OA λb e=>Or.inr e);have iW:=PW 8 T.length;have gF:=PW 4 sum;have uq:(l++zeros (500-l.length)).length=500:=by rw[List.length_append,show(zeros (500-l.length)).length=500-l.length by simp[zeros]];omega
   rw[List.length_append] at uq;refine Oq$ P8.qb (e:=[(0,_),(6,_)]) ?_;refine An (OW [20,21] (λw'=>Ext w4 w') (by kernel_rfl) O (PF 0 O O (af) (P5 1 O (Q8 O) af (P5 2 O (Pk ZL O) af (qL 3 O (λ_ h=>OB U55 O O (h.On eY) O) af (PF 4 O O (af) (PF 6 O O (af) (P5 7 O (Q8 O) af (P5 8 O (Pk ZN O) af (qL 9 O (λ_ h=>OB U3 O O (h.On eY) O) af (P5 10 O ((PO O U3 R7 ω)) af (PF 13 O O (af) (P5 14 O (Q8 O) af ?_)))))))))))));refine P5 15 O (Pk z2X O) af (qL 16 O (λ_ h=>OB QA O O (h.On eY) O) af (P5 17 O (PO O QA R7 ω) af (qL 5 O (λ_ h=>zea (l:=l++zeros (500-l.length)) Qk U5 U9 O (by rw[List.length_append,uq];exact ep.rd.ext h) (by rw[List.length_append];omega)) af ?_)));refine R4 (i:=11) (by kernel_rfl) (RM (i:=11) O O O (yc zcO O) (Zr T.length 8 _ ω ω) ?_);rintro _ w5 ⟨rfl,aR⟩;refine⟨af.trans aR,?_⟩;refine P5 12 O (Yl O O (by first|omega|(simp;done)|(simp;omega))) (af.trans aR) ?_;refine R4 (i:=18) (by kernel_rfl) (RM (i:=18) O O O (yc zcO O) (Zr sum 4 _ ω ω) ?_);rintro _ w6 ⟨rfl,aQ⟩;refine⟨(af.trans aR).trans aQ,?_⟩;have cP:=(af.trans aR).trans aQ
   have qo:∀b,(X b\/(Value.slice a3 500 c3).ownBlock=some b)->b<w6.heap.size:=λb hb=>by
    have:=cP.size;have:=aq.size;have:=dK.size;rcases hb with e| e
    ·have:=hX b e;omega
    ·have:=cV.lt e;omega
   refine P5 19 O (Yl O O (by first|omega|(simp;done)|(simp;omega))) ((af.trans aR).trans aQ) ?_;refine Th [20] ?_;have lJ:(l++zeros (500-l.length)++UW 8 T.length++UW 4 sum).length=512:=by rw[List.length_append,List.length_append,List.length_append,uq,PW,PW]
   refine qO 20 (W9 (i:=20) O O O (RY zeE O O) (Zf (jx.ext' cP) qo ω (h4.ext cP) ⟨.inl aO.1,.inl aO.2.1,.inl aO.2.2.1,.inl aO.2.2.2⟩ ω _ lJ) ?_);rintro _ w7 ⟨rfl,zN,h7,ax⟩;refine⟨trivial,?_⟩;have bZ:=h7.cells;refine Ow 21 O (Rr O) trivial (qE (P7 O (Pb O (OL XS O (OJ O (Qw US O O O bZ ξ) ?_)))));rintro w8 ⟨bY,aP⟩;have oR:=(zN.own aP (λb e=> .inl (by rw[e];exact aO.1))).less (Y:=X) (λb e=> .inl e);refine Oq$ P8.qb (e:=[(7,_)]) ?_;refine P7 O$ OK O$ Oo func69 O (⟨_,rfl,rfl,_,oR,λj hj=>?_,⟨l++zeros (500-l.length),?_,by rw[List.length_append,uq]⟩,λy hy=>?_,?_⟩)
   ·by_cases e:j=len-1
    ·subst e;refine⟨zeros (500-l.length)++UW 8 T.length++UW 4 sum,?_⟩;rw[RQ];show l++_++_++_=_;rw[<-hl,List.take_of_length_le ω];simp only[List.append_assoc]
    ·obtain⟨z,hz⟩:=Fp j ω hj;exact⟨z,by rw[Rk _ _ ω];exact hz⟩
   ·rw[RQ];show _++_++_=_;unfold Xc;simp only[List.append_assoc]
   ·rw[Rk _ _ ω];exact Fr y hy
   ·refine((fE.trans cP.kp).It ax λb e=>?_).trans (aP.OA λb e=> .inr e);rcases e with e| e
    ·by_cases hb:X b
     ·exact absurd (.inl hb) e
     ·exact .inr (.inl hb)
    ·exact .inr (.inr e)
  case dX=>
   refine Q0 O (λgN=>?_)$ λgN=>?_
   ·have y7:=hq.1 gN;have hr:500<T.length%512/\T.length / 512=len-2/\2<=len:=by omega
    have bc:=Ext.OT w1;refine An (An (OW [17,18] (λw'=>Kp (λb=>(Value.slice a0 (T.length%512) c0).ownBlock=some b) w1 w') (by kernel_rfl) O (PF 0 O O (bc.kp) (P5 1 O (Q8 O) (bc.kp) (P5 2 O (Pk ZL O) (bc.kp) (qL 3 O (λ_ h=>OB U55 O O (h.On ah (λe=>br _ e aO.1)) O) (bc.kp) (PF 4 O O (bc.kp) (P5 5 O (Q8 O) (bc.kp) (P5 6 O (Pk SG O) (bc.kp) (qL 7 O (λ_ h=>OB Qk O O (h.On ah (λe=>br _ e aO.1)) O) (bc.kp) (PF 8 O O (bc.kp) (PF 9 O O (bc.kp) (P5 10 O (Q8 O) (bc.kp) ?_)))))))))))));refine P5 11 O (Pk SG O) (bc.kp) (qL 12 O (λ_ h=>OB Qk O O (h.On ah (λe=>br _ e aO.1)) O) (bc.kp) (P5 13 O (St Qk O) (bc.kp) (P5 14 O (X8 O O ω) (bc.kp) ?_)));rw[show(512:Int)-((T.length%512:Nat):Int)=((512-T.length%512:Nat):Int) by omega];refine R4 (i:=15) (by kernel_rfl) (Qg (i:=15) O O O (zf4 Qk U3 U9 XN O O (jC.ext bc) ω) ?_);rintro v2 w2 ⟨cU,am,sh⟩;refine⟨bc.kp.trans am,?_⟩;rw[show T.length%512+(512-T.length%512)=512 by omega,<-List.map_append] at cU;have uq:(T.drop (512*(T.length / 512))++zeros (512-T.length%512)).length=512:=by rw[List.length_append,List.length_drop,show(zeros (512-T.length%512)).length=512-T.length%512 by simp[zeros]];omega
    refine R4 (i:=16) (by kernel_rfl) (zdF (i:=16) O O O (zea (l:=T.drop (512*(T.length / 512))++zeros (512-T.length%512)) Qk U5 U9 O (by rw[uq];exact cU.rd) ω) (bc.kp.trans am) ?_);have bj:=bc.kp.trans am;have f9:Sp Q txt K X w2:=md.step bj (λb e=> .inr e) (λb e=> .inl (.inl e));have h2:=h1.kp bj (λe=>br _ e aO.1) (λe=>br _ e aO.2.1) (λe=>br _ e aO.2.2.1) (λe=>br _ e aO.2.2.2);have mK:=bj.size;refine Th [17] (qO 17 (W9 (i:=17) O O O (RY zeE O O) (Zf f9 (λb hb=>by have:=hX b hb;omega) ω h2 aO ω _ uq) ?_));rintro _ w3 ⟨rfl,gI,h3,ar⟩;refine⟨trivial,?_⟩;have ao:=h3.cells;refine Ow 18 O (Rr O) trivial (qE (P7 O (Ql O (PX O (R0 O (Pb O (OL SG O (OJ O (Qw X9 O O O ao ξ) ?_))))))));rintro w4 ⟨aH,aq⟩;have h4:=h3.re aq (show OE w4 wb (swC Q.s st len (.slice none 0 0) (T.length / 512+1) T.length sum (z0e bs bx bw) false) 197 from aH);have jx:=gI.own aq (λb e=>by rw[e];exact aO.1);have kD:(T.drop (512*(T.length / 512))).take 512=T.drop (512*(T.length / 512)):=List.take_of_length_le (by rw[List.length_drop];omega);refine Oq$ P8.qb (e:=[(0,_),(4,_)]) ?_;refine(au _ _ ⟨rfl,_,.slice none 0 0,_,[],jx.less (λb e=>e.elim id (λe=>by cases e)),h4,Sl.nil w4 _ 1,Nat.zero_le _,(λb e=>by cases e),(List.drop_of_length_le ω).symm,λj hj kL=>?_,λy hy=>?_,?_⟩).qb
    ·by_cases e:j=T.length / 512
     ·subst e;exact⟨zeros (512-T.length%512),by rw[RQ,kD];rfl⟩
     ·exact⟨[],by rw[Rk _ _ ω,List.append_nil];exact iQ j ω⟩
    ·rw[Rk _ _ ω]
    ·refine((ad.kp.It bj λb e=> .inr (.inl (br b e))).trans ar).trans (aq.OA λb e=> .inr e)
   ·have y7:¬T.length / 512<len-1:=λe=>by rw[hq.2 e] at gN;cases gN
    have M9:T.length / 512=len-1:=by omega
    have fx:(T.drop (512*(T.length / 512))).length=T.length%512:=by rw[List.length_drop];omega
    refine Ot ((au _ _ ⟨rfl,txt,.slice a0 (T.length%512) c0,T.length / 512,T.drop (512*(T.length / 512)),md.more ω,h1,by rw[fx];exact jC,ω,br,by rw[M9],λj hj kL=>⟨[],by rw[List.append_nil];exact iQ j ω⟩,λy hy=>rfl,ad.kp⟩).qb)
 case fQ=>
  refine R8 (λw'=>Ext w w') O (OR 0 O O (hg) (Ow 1 O (Q8 O) hg (Ow 2 O (Pk Yo O) hg (qT 3 O (λ_ h=>OB U3 O O (h.On hB) O) hg (OR 4 O O (hg) (Ow 5 O (Q8 O) hg (Ow 6 O (Pk Wp O) hg (Ow 7 O (Pk TV O) hg (Ow 8 O (Pk QX O) hg (qT 9 O (λ_ h=>OB U3 O O (h.On hB) O) hg (Ow 10 O (X8 O O ω) hg ?_)))))))))));rw[show(len:Int)-1=((len-1:Nat):Int) by omega];rcases Nat.lt_or_ge (T.length / 512) (len-1) with hq|hq
  ·refine Ow 11 O (ylt O O) hg$ TH$ OR 12 O O (hg)$ OR 13 O O (hg)$ Ow 14 O (Q8 O) hg$ Ow 15 O (Pk SG O) hg$ qT 16 O (λ_ h=>OB Qk O O (h.On hB) O) hg$ Ow 17 O (St Qk O) hg$ Ow 18 O (XQ O O) hg$ TH$ Ow 19 O (UT O O) hg$ qE$ P8.qb (e:=[(0,_),(2,_),(4,_),(38,_)]) ?_;exact(cS _ _ ⟨true,rfl,⟨λ_=>hq,λ_=>rfl⟩,hg⟩).qb
  ·refine Ow 11 O (ylt O O) hg$ TK$ OR 12 O O (hg)$ qJ 13 O (hg)$ qJ 14 O (hg)$ qJ 15 O (hg)$ qJ 16 O (hg)$ qJ 17 O (hg)$ qJ 18 O (hg)$ Ow 19 O (U0 O O) hg$ qE$ P8.qb (e:=[(0,_),(2,_),(4,_),(38,_)]) ?_;exact(cS _ _ ⟨false,rfl,⟨λe=>(by cases e),λe=>by omega⟩,hg⟩).qb
end
open Go.Shelf
def BdM (w:World)(b:Nat)(l:Ov)(v:Value):Prop:=(∃p,(p= .pointer none\/p=ptr b 0)/\OE w b [p,v] 175)/\Sl w v 5 1 l.length (l.map Tg)/\v.ownBlock≠some b
section
variable {w w':World}{b:Nat}{l s:Ov}{v:Value}{S':Nat->Prop}
def BdM.kp (h:BdM w b l v)(hk:Kp S' w w')(h1:¬S' b)(h2:∀g,v.ownBlock=some g->¬S' g):BdM w' b l v:=by
 obtain⟨⟨p,hp,hB⟩,hS,hn⟩:=h
 exact⟨⟨p,hp,hk.On hB h1⟩,hS.kp hk h2,hn⟩
def BdM.new (h:OE w b [.pointer none,.slice none 0 0] 175):BdM w b [] (.slice none 0 0):=⟨⟨_,.inl O,h⟩,Sl.nil w _ 1,λe=>by cases e⟩
def OE.shape {cs:List Value}{T:TypeId}(h:OE w b cs T):w.shape? b=some (T,cs.length):=by
 obtain⟨fz,hb,-⟩:=h
 simp[World.shape?,hb]
def z9y (h:BdM w b l v):P9 prog 122 [ptr b 0] w λr w'=>r= .tuple #[]/\BdM w' b l v/\Kp (λk=>k=b) w w':=by
 obtain⟨⟨p,hp,hB⟩,hS,hn⟩:=h
 rcases hp with rfl|rfl
 ·refine Calls.mono (Any.Builder_copyCheck_fresh {zeg with} zeX.toX72 b w (hB.cell 0) hB.shape (hB.free (i:=0) ξ)) λ_ _ ⟨he,hw⟩=>⟨_,he,rfl,?_,?_⟩
  ·rw[hw];have hk:=To w b 0 (ptr b 0);exact⟨⟨_,.inr O,Wg hB 0 (ptr b 0)⟩,hS.kp hk (λg hg e=>hn (e▸hg)),hn⟩
  ·rw[hw];exact To w b 0 _
 ·exact Calls.mono (Any.Builder_copyCheck_used {zeg with} zeX.toX72 b w (hB.cell 0)) λ_ _ ⟨he,hw⟩=>⟨_,he,rfl,by rw[hw];exact⟨⟨_,.inr O,hB⟩,hS,hn⟩,by rw[hw];exact Kp.refl _ _⟩
def zbs (h:BdM w b l v)(s:Ov)(hl:l.length+s.length<=140737488355328):P9 prog 84 [ptr b 0,S s] w λ_ w'=>∃v',BdM w' b (l++s) v'/\Kp (λk=>k=b\/v.ownBlock=some k) w w'/\(∀g,v'.ownBlock=some g->v.ownBlock=some g\/w.heap.size<=g):=by
 refine py (e:=[(0,_),(1,_)]) func84 O ntmps84 O O$ qN O$ Si O$ QO O$ OQ zit O (z9y h) ?_
 rintro _ w1 ⟨rfl,⟨⟨p,hp,ah⟩,jC,ce⟩,aG⟩
 have mG:=aG.size
 have l1:=ah.lt
 refine qM O$ OX O$ Pb O$ OL ZR O$ qV (OB Qk O O ah O)$ OC O$ Oy O O (zfm Qk U9 XN O O jC hl) ?_
 rintro v2 w2 ⟨cU,am,vO⟩
 have ak:=am.On ah ce
 have mK:=am.size
 have jt:v2.ownBlock≠some b:=λe=>by
  rcases vO b e with e| e
  ·exact ce e
  ·omega
 refine Pb O$ OL ZR O$ OJ O (Qw X9 O O (Ws cU) ak ξ) ?_
 rintro w3 ⟨ao,ar⟩
 refine qM O$ OC O$ qV (VX U9 O)$ Qd O$ Oo func84 O ?_
 rw[<-List.length_append,<-List.map_append] at cU
 refine⟨_,rfl,v2,⟨⟨p,hp,ao⟩,cU.kp ar (λg hg e=>jt (e▸hg)),jt⟩,((aG.OA λk e=> .inl e).trans (am.OA λk e=> .inr e)).trans (ar.OA λk e=> .inl e),λg hg=>(vO g hg).imp id λe=>by omega⟩
def z9q (w:World)(a:Addr)(n:Nat):Kp (λk=>k=a.block) w (w.freeze a n):=by
 by_cases h0:n=0
 ·subst h0;rw[show w.freeze a 0=w by simp[World.freeze]];exact Kp.refl _ w
 ·unfold World.freeze;rw[if_neg h0]
  exact⟨rfl,rfl,rfl,ξ,λk _ hn=>by
   simp only[Array.getElem?_modify]
   rw[if_neg (λh=>hn h.symm)]⟩
section
variable {P:Program}{e:Env}{d:Option Nat}{ty t it el:TypeId}{pos:String}{aft:Array Edge}{g:Option (Nat×Bool)}{x y:Operand}{n c:Nat}{a:Option Addr}
def ziH (hx:look e x=some (.slice a n c))(hc:a≠none->c≠0):Y P e ⟨d,.call ⟨.builtin .unsafeSliceData,#[x],#[t]⟩,ty,pos,aft,g⟩ (.pointer a) w w:=fun ρ hρ=>by
 have hr:∀w,(Builtin.unsafeSliceData_ #[t] ty #[.slice a n c]).run P w= .ok (.pointer a) w:=λw=>by
  cases a with
  |none=>rfl
  |some a=>exact Lib.run_unsafeSliceData_row (P:=P) w #[t] ty a n c (hc ξ)
 simp[execOp,resolve,invoke,builtin,hρ _ _ hx,hr]
theorem ziK (hp:P.underlying t=some (.pointer el))(hc:P.cellsOf el=1)(hx:look e x=some (.pointer a))(hy:look e y=some (I (l.length:Int)))(hS:Sl w (.slice a l.length c) el 1 l.length (l.map Tg))(Fg:l.length<=9223372036854775807)(h0:l=[]\/∃g,a=some ⟨g,0,none⟩):
  Yp P e ⟨d,.call ⟨.builtin .unsafeString,#[x,y],#[t,it]⟩,ty,pos,aft,g⟩ w λr w'=>r=S l/\Kp (λk=>(Value.slice a l.length c).ownBlock=some k) w w':=by
 by_cases hl:l=[]
 ·subst hl;have hr:=Lib.run_unsafeString_none (P:=P) w t it ty a;refine⟨_,w,fun ρ hρ=>?_,rfl,Kp.refl _ _⟩;have h1:=hρ _ _ hx;have h2:ρ y= .int .i64 0:=hρ _ _ hy;simp[execOp,resolve,invoke,builtin,h1,h2,hr]
  rfl
 ·obtain⟨b,rfl⟩:=h0.resolve_left hl;obtain⟨cur,jF,jq,mE,aB,mH⟩:=hS.row;have aY:=World.ownsRow.cells hS (g:=b) O;simp only[Nat.mul_one] at aB mH
  have hr:=Lib.run_unsafeString_row (P:=P) w t it ty el hp hc b cur.length (by unfold Ux at jF;simp[World.shape?,jF]) l hl ω Fg (λj x hj=>by
   have:=aY j (Tg x) (by rw[List.getElem?_map,hj];rfl)
   exact this)
  refine⟨_,_,fun ρ hρ=>?_,rfl,(z9q w ⟨b,0,none⟩ l.length).OA λk e=>by rw[show k=b from e];rfl⟩;simp[execOp,resolve,invoke,builtin,hρ _ _ hx,hρ _ _ hy,hr]
end
def z9v (h:BdM w b l v)(h0:l=[]->v= .slice none 0 0)(hl:l.length<=140737488355328):P9 prog 85 [ptr b 0] w λr w'=>r=S l/\Kp (λk=>v.ownBlock=some k) w w':=by
 obtain⟨⟨p,hp,hB⟩,hS,hn⟩:=h
 obtain⟨a,c,rfl,ha⟩:=hS.rd.shape
 have hg:=Ext.OT w
 have Ba:l=[]\/∃g,a=some ⟨g,0,none⟩:=by
  rcases hS.shape with⟨e,h1⟩|⟨g,cap,e,h1⟩
  ·exact .inl (List.eq_nil_of_length_eq_zero h1)
  ·cases e;exact .inr ⟨g,rfl⟩
 have mv:a≠none->c≠0:=λe=>by
  by_cases sP:l=[]
  ·have:=h0 sP
   injection this with e1 _ _
   exact absurd e1 e
  ·have rK:l.length≠0:=by simpa using sP
   rcases hS.shape with⟨_,h1⟩|⟨g,cap,e2,h1⟩
   ·omega
   ·cases e2;omega
 refine py (e:=[(0,_)]) func85 O ntmps85 O O$ QB O$ An$ OW [10,11] (λw'=>Ext w w') (by kernel_rfl) O$ PF 0 O O (hg)$ P5 1 O (Q8 O) hg$ P5 2 O (Pk ZR O) hg$ qL 3 O (λ_ h=>OB Qk O O (h.On hB) O) hg$ PF 5 O O (hg)$ P5 6 O (Q8 O) hg$ P5 7 O (Pk ZR O) hg$ qL 8 O (λ_ h=>OB Qk O O (h.On hB) O) hg$ P5 9 O (St Qk O) hg$ P5 4 O (ziH O mv) hg ?_
 refine Th [10]$ qO 10$ ZC (i:=10) O O O (ziK ziY (by kernel_rfl) O O (hS.ext hg) ω Ba) ?_
 rintro _ w1 ⟨rfl,aG⟩
 refine⟨trivial,?_⟩
 refine Ow 11 O (Rr O) trivial$ qE$ Oo func85 O ?_
 exact⟨_,rfl,rfl,hg.kp.trans aG⟩
end
def srC (s st len n sum:Nat):List Value:=[ptr s 0,I (st:Int),I (len:Int),I (n:Int),U sum]
section
variable {w w':World}{Q:QY}{txt:Int->Ov}{K:Nat}{X:Nat->Prop}{st len n sum rb:Nat}{T:Ov}
def z5j (hP:Sp Q txt K X w)(hX:∀b,X b->b<w.heap.size)(hK:K<1000000000000)(h1:1<=len)(cq:st+len<=Q.L.length)(hn:n<=len*512-12)(gM:sum<4294967296)(hf:∃z,txt ((st+(len-1):Nat):Int)=z++Xc n sum/\z.length=500):
  P9 prog 70 [ptr Q.s 0,.agg #[I (st:Int),I (len:Int)]] w λv w'=>∃rb,v= .tuple #[ptr rb 0,I 0]/\OE w' rb (srC Q.s st len n sum) 202/\w.heap.size<=rb/\Sp Q txt K (λb=>X b\/b=rb) w'/\Kp (λb=>¬X b) w w':=by
 have en:=hP.n
 obtain⟨z,hz,xd⟩:=hf
 have lJ:=z2U n sum
 refine py (e:=[(0,_),(1,_)]) func70 O ntmps70 O O$ qN O$ Oy O O (R9 O (cs:=[I (st:Int),I (len:Int)]) O) ?_
 rintro _ w1 ⟨bx,rfl,fF,ad,iR⟩
 refine Si O$ QO O$ qV (Pa (news:=[I (st:Int),I (len:Int)]) WY O QT O (iR.cells (n:=2) O) O)$ qV (Sa (cs:=[_,_,_]) Xo O zdB O O)$ qV (Sa (cs:=[_,_,_,_,_]) zh3 O zi4 O O)$ Oy O O (R9 O (cs:=[ptr Q.s 0,I (st:Int),I (len:Int),I 0,U 0]) O) ?_
 rintro _ w2 ⟨rb,rfl,HA,ae,ak⟩
 have aL:=ad.trans ae
 have Fs:=ae.On iR
 have z1:=ad.size
 have z2:=ae.size
 have f9:Sp Q txt K (λb=>X b\/b=rb) w2:=hP.ext aL (λb e=>e.imp id λe=>by omega)
 refine OK O$ Pz O$ Pb O$ OL Yn O$ qV (Pa zcI O Xo O (OE.cells (n:=3) ak (news:=[_,_,_]) O) O)$ OQ zg0 O (ZA f9 h1 cq) ?_
 rintro _ w3 ⟨rfl,aj⟩
 have gI:=f9.ext' aj
 have ao:=aj.On ak
 have zO:=aj.On Fs
 have z3:=aj.size
 have l2:=ak.lt
 have eB:=gI.read (λb hb=>by
  rcases hb with e| e
  ·have:=hX b e;omega
  ·omega) hK (no:=((st+(len-1):Nat):Int)) ω ω
 rw[hz] at eB
 refine QO O$ Ql O$ PX O$ P7 O$ OL QJ O$ qV (OB U3 O O zO O)$ OL QX O$ qV (OB U3 O O zO O)$ PL O$ Ra O ?_
 rw[show(st:Int)+(len:Int)-1=((st+(len-1):Nat):Int) by omega]
 refine OQ zbO O (eB) ?_
 rintro _ w4 ⟨rfl,jx,aq⟩
 have aH:=aq.On ao (λe=>e (.inr O))
 refine OC O$ Sw O$ Qd O$ P8.qb (e:=[(4,_),(5,_),(6,_),(8,_),(9,_)]) ?_
 refine Pz O$ Ql O$ PX O$ Qh O$ qV (VX U9 O) ?_
 rw[show((z++Xc n sum).length:Int)=512 by rw[List.length_append,lJ,xd];rfl]
 refine Ra O ?_
 rw[show(512:Int)-12=((500:Nat):Int) by omega]
 refine qV (z0Q (m:=500) U9 O O (by rw[List.length_append,lJ,xd];omega)) ?_
 rw[show(z++Xc n sum).drop 500=Xc n sum from List.drop_left' xd]
 refine QO O$ qV (z4T (m:=8) U9 O O (by rw[lJ];omega)) ?_
 rw[show(Xc n sum).take 8=UW 8 n from List.take_left' (PW _ _)]
 have si:Pp (OU (UW 8 n))=n:=z2m ω
 have Ft:Pp (OU (UW 4 sum))=sum:=z2m ω
 have iW:=PW 8 n
 have gF:=PW 4 sum
 refine OQ zdf O (z1Y (UW 8 n) ω _) ?_
 rintro _ w5 ⟨rfl,aR⟩
 rw[si]
 have aD:=aR.On aH
 have iO:=jx.ext' aR
 refine OK O$ An$ Qh O$ Pb O$ OL Yn O$ qV (Pa zcI O Xo O (OE.cells (n:=3) aD (news:=[_,_,_]) O) O)$ OQ zdR O (z0X iO ω) ?_
 rintro _ w6 ⟨rfl,aQ⟩
 have aT:=aQ.On aD
 have o5:=iO.ext' aQ
 refine qV ((PO O U3 R7 ω))$ Qr O$ Pu$ Oq$ P8.qb (e:=[(4,_),(5,_),(6,_),(10,_),(11,_),(54,_)]) ?_
 refine T2 O$ Qh O$ OC O$ qV (Ps O R7 U3 ω)$ OC O$ qV (z0Q (m:=8) U9 O O (by rw[lJ];omega)) ?_
 rw[show(Xc n sum).drop 8=UW 4 sum from List.drop_left' (PW _ _)]
 refine OQ zdf O (z1Y (UW 4 sum) ω _) ?_
 rintro _ w7 ⟨rfl,ci⟩
 rw[Ft]
 have bZ:=ci.On aT
 refine qV (z3T O R7 QA)$ Pb O$ OL z05 O$ OJ O (Qw PH O O O bZ ξ) ?_
 rintro w8 ⟨bY,aP⟩
 replace bY:OE w8 rb [ptr Q.s 0,I (st:Int),I (len:Int),I (n:Int),U 0] 202:=bY
 refine Pb O$ OL zbN O ?_
 rw[Nat.mod_eq_of_lt (show sum<2^32 by omega)]
 refine OJ O (Qw OS O O O bY ξ) ?_
 rintro w9 ⟨cR,aK⟩
 refine qM O$ OC O$ Qd O$ Oo func70 O ?_
 have vR:=(((o5.ext' ci).own aP (λb e=> .inr e)).own aK (λb e=> .inr e))
 refine⟨_,rfl,rb,rfl,cR,ω,vR,?_⟩
 have me:Kp (λb=>¬X b) w w4:=((aL.trans aj).kp (S:=λb=>¬X b)).trans (aq.OA λb e e2=>e (.inl e2))
 refine(((me.trans (aR.trans (aQ.trans ci)).kp).It aP λb e=> .inl ω).It aK λb e=> .inl ω)
def z8l (hB:OE w rb (srC Q.s st len n sum) 202):P9 prog 290 [ptr rb 0] w λv w'=>v=I (n:Int)/\w'=w:=by
 replace hB:OE w rb [ptr Q.s 0,I (st:Int),I (len:Int),I (n:Int),U sum] 202:=hB
 refine py (e:=[(0,_)]) func290 O ntmps290 O O$ QB O$ Pz O$ qV (PU zbU O O)$ PX O$ P7 O$ Pb O$ OL z05 O$ qV (OB U3 O O hB O)$ OK O$ Oo func290 O ?_
 exact⟨_,rfl,rfl,rfl⟩
def z9U (hP:Sp Q txt K (λb=>X b\/b=rb) w)(hX:∀b,X b->b<w.heap.size)(ur:¬X rb)(hK:K<1000000000000)(cq:st+len<=Q.L.length)(hL:Laid txt st T)(hB:OE w rb (srC Q.s st len T.length sum) 202)(hT:T.length<=len*512)(off n:Nat)(ho:off+n<=T.length):
  P9 prog 291 [ptr rb 0,I (off:Int),I (n:Int)] w λv w'=>v= .tuple #[S ((T.drop off).take n),I 0]/\Sp Q txt K (λb=>X b\/b=rb) w'/\OE w' rb (srC Q.s st len T.length sum) 202/\Kp (λb=>¬X b) w w':=by
 have en:=hP.n
 have lrb:=hB.lt
 replace hB:OE w rb [ptr Q.s 0,I (st:Int),I (len:Int),I (T.length:Int),U sum] 202:=hB
 refine py (e:=[(0,_),(1,_),(2,_)]) func291 O ntmps291 O O$ qN O$ Qd O$ Qt$ P7 O$ qV (PU zbU O O)$ OK O$ Ox O$ P7 O$ Qv O$ Pu$ OX O$ Qv O$ Pu ?_
 refine PC O$ OX O$ OC O$ Pb O$ OL z05 O$ qV (OB U3 O O hB O)$ Qr O$ Pu$ PC O$ OX O$ OC O$ Pb O$ OL z05 O$ qV (OB U3 O O hB O) ?_
 refine OC O$ Ra O$ Qr O$ Pu$ PC O$ OK O$ P8.qb (e:=[(0,_),(1,_),(2,_),(6,_),(7,_),(15,_)]) ?_
 refine T2 O$ Om$ P7 O$ Pb O$ OL Yn O$ OL UM O$ qV (OB XP O O hB O)$ OQ z4h O (hP.size) ?_
 rintro _ w ⟨rfl,rfl⟩
 refine QL O$ Oy O O (Rq (cs:=[_,_]) zgr O) ?_
 rintro _ w1 ⟨bb,rfl,wu,ad,Bf⟩
 have Fu:=BdM.new Bf
 have z1:=ad.size
 refine Oq$ Qt$ Rw (α:=Nat×Value) ((0,Value.slice none 0 0)) (λy=>[(0,ptr rb 0),(1,I ((off+y.1:Nat):Int)),(2,I ((n-y.1:Nat):Int)),(8,I 512),(9,ptr bb 0)]) (λy w'=>y.1<=n/\BdM w' bb ((T.drop off).take y.1) y.2/\(y.1=0->y.2= .slice none 0 0)/\(∀g,y.2.ownBlock=some g->w.heap.size<=g)/\Sp Q txt K (λb=>(X b\/b=rb)\/b=bb\/y.2.ownBlock=some b) w'/\Kp (λb=>¬(X b\/b=rb)) w w') (λy=>n-y.1) ?hI ?hround
 case hI=>exact⟨Nat.zero_le _,Fu,λ_=>rfl,λg hg=>(by cases hg),hP.ext ad (λb e=>e.imp id λe=>e.elim (λe=>by omega) (λe=>by cases e)),ad.kp⟩
 case hround=>
  rintro⟨m,v⟩ w2 ⟨hm,rI,zP,iI,f9,am⟩ ih;dsimp only at hm rI zP iI f9 ih⊢;have ak:=am.On hB (λe=>e (.inr O));have hg:=Ext.OT w2;have z2:=am.size;have lbb:bb<w2.heap.size:=by obtain⟨⟨p,hp,hb⟩,-,-⟩:=rI;exact hb.lt
  have mN:∀b,((X b\/b=rb)\/b=bb\/v.ownBlock=some b)->b<w2.heap.size:=λb hb=>by
   rcases hb with(e|e)|e| e
   ·have:=hX b e;omega
   ·omega
   ·omega
   ·exact rI.2.1.lt e
  try dsimp only
  refine Pz O$ Qr O$ Oq$ OH O (λh0=>?_)$ λh0=>?_
  ·obtain⟨q,hq⟩:∃q,min (n-m) (512-(off+m)%512)=q:=⟨_,rfl⟩;have eJ:=f9.z0w (x:=((st+(off+m) / 512:Nat):Int)) ω ω;have ll:=hL.piece (off:=off+m) (n:=q) ω ω;have eB:=(f9.ext' hg).read (λb hb=>by have:=mN b hb;have:=hg.size;omega) hK (no:=((st+(off+m) / 512:Nat):Int)) ω ω;obtain⟨t,ht⟩:∃t,txt ((st+(off+m) / 512:Nat):Int)=t:=⟨_,rfl⟩;rw[ht] at eJ ll eB;refine Ot$ Ou$ An$ R8 (λw'=>Kp (λb=>¬((X b\/b=rb)\/b=bb\/v.ownBlock=some b)) w2 w') O$ OR 0 O O (hg.kp)$ Ow 1 O (Q8 O) (hg.kp)$ Ow 2 O (Pk Yn O) (hg.kp)$ Ow 3 O (Pk UM O) (hg.kp)$ qT 4 O (λ_ hS=>OB XP O O (hS.On ak (λe=>e (.inl (.inr O)))) O) (hg.kp)$ OR 5 O O (hg.kp)$ Ow 6 O (Q8 O) (hg.kp)$ Ow 7 O (Pk Yn O) (hg.kp)$ Ow 8 O (Pk TV O) (hg.kp)$ Ow 9 O (Pk QJ O) (hg.kp) ?_;refine qT 10 O (λ_ hS=>OB U3 O O (hS.On ak (λe=>e (.inl (.inr O)))) O) (hg.kp) (OR 11 O O (hg.kp) (OR 12 O O (hg.kp) (Ow 13 O (Wq O O ω) (hg.kp) (Ow 14 O (Uw O O ω) (hg.kp) ?_))));rw[show(st:Int)+((off+m:Nat):Int) / 512=((st+(off+m) / 512:Nat):Int) by omega];refine SH 15 O zbO O (eB) ?_;rintro _ w3 ⟨rfl,gI,ar⟩;refine⟨hg.kp.trans ar,?_⟩;have dK:=hg.kp.trans ar;have Fv:=rI.kp dK (λe=>e (.inr (.inl O))) (λg hg e=>e (.inr (.inr hg)));refine OR 16 O O (hg.kp.trans ar) (Ow 17 O (Rv O O) (hg.kp.trans ar) (Ow 18 O (Rv O O) (hg.kp.trans ar) (Ow 19 O (Rr O) (hg.kp.trans ar) (Ow 20 O (Rr O) (hg.kp.trans ar) (qE (Pz O (Ql O (PX O (Qh O (OC O (qV (yre O O ω) ?_)))))))))));rw[show((off+m:Nat):Int)%512=(((off+m)%512:Nat):Int) by omega];refine qV (z0Q U9 O O ω)$ QL O$ OX O$ OC O$ qV (VX U9 O)$ qV (ymi O O) ?_;rw[show min ((n-m:Nat):Int) ((t.drop ((off+m)%512)).length:Int)=((q:Nat):Int) by rw[List.length_drop];omega];refine qV (z4T (m:=q) U9 O O (by rw[List.length_drop];omega)) ?_;rw[ll];have DB:((T.drop (off+m)).take q).length=q:=by rw[List.length_take,List.length_drop];omega
   have i9:((T.drop off).take m).length<=m:=by rw[List.length_take];omega
   refine QO O (OQ ziP O (zbs Fv ((T.drop (off+m)).take q) ω) ?_);rintro _ w4 ⟨v4,Fw,aq,vz⟩;have z3:=dK.size;refine qM O$ OX O$ qV (VX U9 O) ?_;rw[DB];refine PL O$ OK O$ Oz O$ OX O$ qV (VX U9 O) ?_;rw[DB];refine Ra O$ OK O$ Om ?_;rw[show((off+m:Nat):Int)+(q:Int)=((off+(m+q):Nat):Int) by omega,show((n-m:Nat):Int)-(q:Int)=((n-(m+q):Nat):Int) by omega];refine(ih (m+q,v4) _ ⟨by dsimp only;omega,?_,λe=>by dsimp only at e;omega,λg hg=>(vz g hg).elim (iI g) (λe=>by omega),?_,?_⟩ (by dsimp only;omega)).qb
   ·dsimp only;rw[List.take_add,List.drop_drop];exact Fw
   ·exact gI.step aq (λb e=> .inr e) (λb e=>by
     rcases e with e|e| e
     ·exact .inl (.inl e)
     ·exact .inl (.inr (.inl e))
     ·exact(vz b e).imp (λe=> .inr (.inr e)) id)
   ·refine(am.trans (dK.OA λb e e2=>e (.inl e2))).It aq λb e=> .inl ?_;rcases e with e| e
    ·omega
    ·exact iI b e
  ·have Ma:m=n:=by omega
   subst Ma;refine OD O (qN O (OQ ziD O (z9v rI (λe=>zP (by have:=congrArg List.length e;rw[List.length_take,List.length_drop,List.length_nil] at this;omega)) (by rw[List.length_take,List.length_drop];omega)) ?_));rintro _ w3 ⟨rfl,ar⟩;refine Qd O$ Oo func291 O ?_;have bU:Kp (λb=>¬(X b\/b=rb)) w w3:=am.It ar (λb e=> .inl (iI b e));exact⟨_,rfl,rfl,f9.step ar (λb e=> .inr (.inr e)) (λb e=> .inl (.inl e)),bU.On hB (λe=>e (.inr O)),bU.OA λb e e2=>e (.inl e2)⟩
end
section
variable {t:TypeId}{u:Value}{p:Qc}{g:List (List Nat)}{E:List (Nat×Nat)}{R:Src t u (Xl p g E)}{k x:Nat}{X Y:Nat->Prop}{w w':World}
def z0C (k v:Nat)(w:World):P9 prog 116 [ptr k 0,I (v:Int)] w λr w'=>∃bk bi,r= .func (.func 152) #[] #[ptr bk 0,ptr bi 0]/\OE w' bk [ptr k 0] 28/\OE w' bi [I (v:Int)] 3/\w.heap.size<=bk/\w.heap.size<=bi/\Ext w w':=by
 refine py (e:=[(0,_),(1,_)]) func116 O ntmps116 O O$ qN O$ Oy O O (R9 O (cs:=[ptr k 0]) O) ?_
 rintro _ w1 ⟨bk,rfl,fK,ad,pT⟩
 refine Oy O O (R9 O (cs:=[I (v:Int)]) O) ?_
 rintro _ w2 ⟨bi,rfl,rR,ae,vS⟩
 refine QL O$ qV (ymf (first:=[]) (caps:=[.tmp 2,.tmp 3]) O O)$ OK O$ Oo func116 O ?_
 have:=ad.size
 exact⟨_,rfl,bk,bi,rfl,ae.On pT,vS,ω,ω,ad.trans ae⟩
def z5x {l bk bi v:Nat}(jb:g.length<50)(hv:v<g.length)(h:Ut R k x X w)(fK:OE w bk [ptr k 0] 28)(rR:OE w bi [I (v:Int)] 3)(Z:Nat->Prop)(hZ:∀j,Z j->X j)(J:(Nat->Prop)->Nat->World->Prop)(F:World->Prop)
  (h0:∀(Y:Nat->Prop) (w':World),(∀j,X j->Y j)->(∀j,Y j->X j\/w.heap.size<=j)->Ut R k x Y w'->Kp (λj=>¬X j) w w'->J Y 0 w')
  (hround:∀(Y:Nat->Prop) (i s:Nat) (w':World),(∀j,X j->Y j)->(∀j,Y j->X j\/w.heap.size<=j)->(OG g v)[i]? =some s->J Y i w'->z0W prog l [Pn s,I 0] w' λr w''=>(r= .bool true/\J Y (i+1) w''/\Kp (λj=>¬Y j\/Z j) w' w'')\/(r= .bool false/\F w'')):
  P9 prog 152 [.func (.yield l) #[] #[],ptr bk 0,ptr bi 0] w λr w'=>r= .tuple #[]/\((∃Y,(∀j,X j->Y j)/\(∀j,Y j->X j\/w.heap.size<=j)/\J Y (OG g v).length w')\/F w'):=by
 have aN:=h.lt
 have gG:(OG g v).length<=g.length:=by
  unfold OG;rw[List.getElem?_eq_getElem hv];exact h.ok.gr.len (List.getElem_mem hv)
 refine py (e:=[(0,_),(1,_),(2,_)]) func152 O ntmps152 O O$ qN O$ qV ((OB U28 O O fK O))$ qV ((OB U3 O O rR O))$ OQ zfd O (z5V jb hv h) ?_
 rintro _ w1 ⟨vv,rfl,jC,iM,h1,aG⟩
 have eB:=jC.rd
 obtain⟨a,c,rfl,ha⟩:=eB.shape
 refine OC O$ qV (Rv (v:= .slice a (OG g v).length c) O O)$ qV (Rv (v:=I 0) O O)$ Qd O$ Pz O$ Ql O$ PX O$ P7 O$ Ro Ph O$ OC O$ Oq$ Ou ?_
 obtain⟨Y,hY⟩:∃Y:Nat->Prop,(λj=>X j\/(Value.slice a (OG g v).length c).ownBlock=some j)=Y:=⟨_,rfl⟩
 rw[hY] at h1
 have aM:∀j,X j->Y j:=λj hj=>by rw[<-hY];exact .inl hj
 have kr:∀j,Y j->X j\/w.heap.size<=j:=λj hj=>by
  rw[<-hY] at hj;exact hj.imp id (iM j)
 have Ir:∀j,(Value.slice a (OG g v).length c).ownBlock=some j->Y j/\¬Z j:=λj hj=>⟨by rw[<-hY];exact .inr hj,λe=>by have h2:=iM j hj;have h3:=aN j (hZ j e);omega⟩
 refine Rw (α:=Nat) (0) (λi=>[(0,.func (.yield l) #[] #[]),(19,.slice a (OG g v).length c),(20,I ((OG g v).length:Int)),(21,I (i:Int))]) (λi w'=>i<=(OG g v).length/\J Y i w'/\Rd w' (.slice a (OG g v).length c) 1 (OG g v).length ((OG g v).map Pn)) (λi=>(OG g v).length-i) ?hI ?hround
 case hI=>exact⟨Nat.zero_le _,h0 Y w1 aM kr h1 aG,eB⟩
 case hround=>
  rintro i w2 ⟨hi,hJ,zQ⟩ ih
  try dsimp only
  refine qN O$ Qv O$ Oq$ An$ OH O (λhq=>?_)$ λhq=>?_
  ·obtain⟨s,hs⟩:∃s,(OG g v)[i]? =some s:=⟨_,List.getElem?_eq_getElem ω⟩;rcases zQ.2 with⟨⟨ca,cc⟩,gX,vM⟩|⟨b,off,cap,gX,hc⟩
   ·omega
   cases gX;have aY:w2.cell? ⟨b,off+i*1,none⟩=some (Pn s):=hc (i*1) _ (by rw[Nat.mul_one,List.getElem?_map,hs];rfl);refine Ot (Qt (qN O (qV (PK Ph OS O O ω) (qV (Pc QA O O aY) (QL O (OX O (z5v O O (yy O O) (hround Y i s w2 aM kr hs hJ) ?_)))))));rintro r w3 fN;rcases fN with⟨rfl,Mb,ar⟩|⟨rfl,hF⟩
   ·refine qV ((S1 O))$ PX O$ Om$ Oz O$ PL O$ OC O$ Oq ?_;exact(ih (i+1) _ ⟨ω,Mb,zQ.kp ar (λj hj e=>e.elim (λe=>e (Ir j hj).1) (Ir j hj).2)⟩ ω).qb
   ·refine qV ((S1 O))$ Oq$ OI O$ Oo func152 O ?_;exact⟨_,rfl,rfl,.inr hF⟩
  ·have dq:i=(OG g v).length:=by omega
   subst dq;refine OD O$ PQ func152 O ?_;exact⟨_,rfl,rfl,.inl ⟨Y,aM,kr,hJ⟩⟩
end
structure StO (Q:QY)(txt:Int->Ov)(K st len:Nat)(T:Ov):Prop where
 k:K<1000000000000
 fit:st+len<=Q.L.length
 laid:Laid txt st T
 len:T.length<=len*512
def z5X {Q:QY}{txt:Int->Ov}{K st len:Nat}{T:Ov}(o:StO Q txt K st len T)(rb sum:Nat):Src 146 (ptr rb 0) T where
 inv X w:=Sp Q txt K (λb=>X b\/b=rb) w/\OE w rb (srC Q.s st len T.length sum) 202/\¬X rb
 fl:=290
 fr:=291
 cl:=zfR
 cr:=zgB
 ml:=by kernel_rfl
 mr:=by kernel_rfl
 ext:=λh hx hY=>⟨h.1.ext hx λb e=>e.elim (λe=>(hY b e).elim (λe=> .inl (.inl e)) .inr) (λe=> .inl (.inr e)),hx.On h.2.1,λe=>(hY _ e).elim h.2.2 (λe=>by have:=h.2.1.lt;omega)⟩
 step:=λh hk hS hY=>⟨h.1.step hk (λb e=> .inl (hS b e)) λb e=>e.elim (λe=>(hY b e).elim (λe=> .inl (.inl e)) .inr) (λe=> .inl (.inr e)),hk.On h.2.1 (λe=>h.2.2 (hS _ e)),λe=>(hY _ e).elim h.2.2 (λe=>by have:=h.2.1.lt;omega)⟩
 len:=λh=>(z8l (Q:=Q) h.2.1).mono λv w' ⟨hv,hw⟩=>⟨hv,by rw[hw];exact Ext.refl _⟩
 rd:=λoff n h hX vK=>(z9U h.1 hX h.2.2 o.k o.fit o.laid h.2.1 o.len off n vK).mono λv w' ⟨hv,h1,h2,h3⟩=>⟨hv,⟨h1,h2,h.2.2⟩,h3⟩
section
variable {t:TypeId}{u:Value}{p:Qc}{g:List (List Nat)}{E:List (Nat×Nat)}{k x:Nat}{X S:Nat->Prop}{w w':World}
def Ut.re {R R':Src t u (Xl p g E)}(h:Ut R k x X w)(hk:Kp S w w')(hS:∀j,S j->j≠k/\j≠x/\j≠1/\j≠2)(hI:R'.inv X w'):Ut R' k x X w':=
 ⟨h.ok,hk.On h.On (λe=>(hS _ e).1 O),hk.On h.ix (λe=>(hS _ e).2.1 O),h.xk,h.xx,hI,λj hj=>by have:=h.lt j hj;have:=hk.size;omega,h.x1,h.x2,hk.On h.gam (λe=>(hS _ e).2.2.1 O),hk.On h.una (λe=>(hS _ e).2.2.2 O)⟩
def z5n {Q:QY}{txt:Int->Ov}{K st len rb sum:Nat}(hp:SO p g E)(o:StO Q txt K st len (Xl p g E))(hI:(z5X o rb sum).inv X w)(hX:∀j,X j->j<w.heap.size)(x1:X 1)(x2:X 2)(hG:OE w 1 (S6 .gamma) 314)(hU:OE w 2 (S6 .unary) 314):
  P9 prog 71 [ptr rb 0] w λv w'=>∃k x,v= .tuple #[ptr k 0,I 0]/\w.heap.size<=k/\w.heap.size<=x/\Ut (z5X o rb sum) k x (λj=>X j\/j=x\/j=k) w'/\Kp (λj=>¬X j) w w':=by
 refine py (e:=[(0,_)]) func71 O ntmps71 O O$ qN O$ Qd O$ Pz O$ qV (PU zbU O O)$ PX O$ P7 O$ qV (zhr zbU (λ_ h=>by cases h) rfl) ?_
 refine OQ zgJ O (z6f hp (z5X o rb sum) hI hX) ?_
 rintro _ w1 ⟨k,x,rfl,ah,ak,hx,hk,br,kh,aG⟩
 refine Sw O$ Qd O$ Oo func71 O ?_
 have z1:=aG.size
 have l1:=ah.lt
 have l2:=ak.lt
 refine⟨_,rfl,k,x,rfl,hk,hx,⟨hp,ah,ak,.inr (.inr O),.inr (.inl O),kh,λj hj=>?_,.inl x1,.inl x2,aG.On hG (λe=>e x1),aG.On hU (λe=>e x2)⟩,aG⟩
 rcases hj with e|e| e
 ·have:=hX j e;omega
 ·omega
 ·omega
end
theorem zcf {n each:Nat}(he:1<=each):max (1:Int) (((n:Int)+(each:Int)-1) / (each:Int))=((Wf n each:Nat):Int):=by
 unfold Wf
 rw[show(n:Int)+(each:Int)-1=((n+each-1:Nat):Int) by omega]
 have h:((n+each-1:Nat):Int) / (each:Int)=(((n+each-1) / each:Nat):Int):=rfl
 rw[h]
 generalize (n+each-1) / each=q
 omega
section
variable {w w':World}{Q:QY}{txt:Int->Ov}{vb width st each n:Nat}{xs:List Nat}
abbrev shV (n width each:Nat):Value:= .agg #[I (n:Int),I (width:Int),I (each:Int)]
def Yb (n width each:Nat)(he:1<=each/\each<=512)(hn:n<=4194304)(w:World):P9 prog 72 [shV n width each] w λv w'=>v=I (Wf n each:Int)/\Ext w w':=by
 refine py (e:=[(0,_)]) func72 O ntmps72 O O$ qN O$ Oy O O (R9 O (cs:=[I (n:Int),I (width:Int),I (each:Int)]) O) ?_
 rintro _ w1 ⟨b1,rfl,bK,ad,ah⟩
 refine QL O$ OL z2s O$ qV (OB U3 O O ah O)$ OL XZ O$ qV (OB U3 O O ah O)$ PL O$ Ra O$ OL XZ O$ qV (OB U3 O O ah O)$ qV (Wq O O ω)$ qV (yma O O)$ OK O ?_
 rw[zcf he.1]
 refine Oo func72 O ?_
 exact⟨_,rfl,rfl,ad⟩
def z18 (n width each x:Nat)(hw:width=1\/width=2\/width=4\/width=8)(hx:x<2^(8*width))(w:World):P9 prog 75 [shV n width each,ON x] w λv w'=>v= .bool true/\Ext w w':=by
 refine py (e:=[(0,_),(1,_)]) func75 O ntmps75 O O$ qN O$ Oy O O (R9 O (cs:=[I (n:Int),I (width:Int),I (each:Int)]) O) ?_
 rintro _ w1 ⟨b1,rfl,bK,ad,ah⟩
 refine QL O$ OL Vy O$ qV (OB U3 O O ah O) ?_
 by_cases h8:width=8
 ·refine QS O$ Rf$ OC O$ QI$ QI$ QI$ QQ O$ OK O$ Oo func75 O ?_;exact⟨_,rfl,rfl,ad⟩
 ·have Mc:8*width<=32:=by omega
  have hp:1*2^(8*width)%18446744073709551616=2^(8*width):=by
   have:=Nat.pow_le_pow_right (show 0<2 by decide) Mc;rw[Nat.one_mul,Nat.mod_eq_of_lt ω]
  refine QS O (Pu (OX O (OL Vy O (qV (OB U3 O O ah O) (qV (X5 O O ω) ?_)))));rw[show(8:Int)*(width:Int)=((8*width:Nat):Int) by omega];refine qV (R6 (8*width) (2^(8*width)) O O ω O) ?_;rw[hp]
  generalize 2^(8*width)=P at hx⊢
  refine Qv O$ Rf$ PC O$ OK O$ Oo func75 O ?_;exact⟨_,rfl,rfl,ad⟩
def XD (n width each x:Nat)(hw:width<=8)(hx:x<18446744073709551616)(w:World):P9 prog 77 [shV n width each,ON x] w λv w'=>v=S (UW width x)/\Ext w w':=by
 have fg:maxLen=9223372036854775807:=rfl
 refine py (e:=[(0,_),(1,_)]) func77 O ntmps77 O O$ qN O$ Oy O O (R9 O (cs:=[I (n:Int),I (width:Int),I (each:Int)]) O) ?_
 rintro _ w0 ⟨b0,rfl,yP,jB,js⟩
 refine QL O$ OL Vy O$ qV (OB U3 O O js O)$ Oy O O (pmk (c:=width) (n:=width) Qk XN O O O ω ω ω) ?_
 rintro _ w1 ⟨b1,rfl,⟨bK,ad,ah⟩,-⟩
 refine OK O$ Pz O$ Ro Qk O$ OC O$ Oq$ Ou ?_
 rw[<-z26 x width] at ah
 have l0:=js.lt
 refine Rw (α:=Nat) (0) (λk=>[(1,ON x),(2,ptr b0 0),(5,.slice (some ⟨b1,0,none⟩) width width),(11,I (width:Int)),(12,I (k:Int))]) (λk w'=>k<=width/\OE w' b1 (z0B x width k) 5/\OE w' b0 [I (n:Int),I (width:Int),I (each:Int)] 162/\Ext w0 w') (λk=>width-k) ?hI ?hround
 case hI=>exact⟨ω,ah,ad.On js,ad⟩
 case hround=>
  rintro k w2 ⟨hk,ak,zR,ae⟩ ih
  try dsimp only
  refine qN O$ Qv O$ Oq$ An$ OH O (λaN=>?_)$ λaN=>?_
  ·have Ff:k<width:=by omega
   refine Ot (Qt (P7 O (OK O (Oz O (OX O (OC O (OL Vy O (qV (OB U3 O O zR O) (Ra O (OC O (Ra O (qV (X5 O O ω) ?_))))))))))));rw[show(8:Int)*(((width:Int)-1)-(k:Int))=((8*(width-1-k):Nat):Int) from by omega];refine qV (Uk (8*(width-1-k)) (2^(8*(width-1-k))) O O (by simp only[IntKind.bits];omega) O) ?_;refine qV (zcG O R7 U5) (qV (PK Qk XN O O ω) (OJ O (Qw XN O O O ak (by simp;omega)) ?_));rintro w3 ⟨ao,ar⟩;rw[z4S x width k Ff] at ao;refine Oq$ Om$ Oz O$ PL O$ OC O$ Oq ?_;exact(ih (k+1) w3 ⟨ω,ao,ar.On zR ω,ae.It ar (λi hi=>by rw[hi,bK];exact Nat.le_refl _)⟩ ω).qb
  ·have:k=width:=by omega
   subst this;rw[z4X] at ak;refine OD O (P7 O (qV (z8m (l:=UW k x) Qk U5 U9 O ak (by rw[List.drop_zero];exact List.take_of_length_le (by rw[List.length_map,PW];omega)) (by simp[UW])) ?_));refine OK O$ Oo func77 O ?_;exact⟨_,rfl,rfl,jB.trans ae⟩
def UE (h:Vn Q txt vb width st xs w):P9 prog 74 [ptr vb 0] w λv w'=>v=I 0/\w'=w:=by
 have hB:=h.cells
 refine py (e:=[(0,_)]) func74 O ntmps74 O O$ QB O$ Qt$ P7 O$ qV (PU z4M O O)$ OK O$ Ox O$ P7 O$ Pb O$ OL z7q O$ qV (OB U4 O O hB O)$ OK O$ T2 O$ Om ?_
 refine QB O$ Oo func74 O ?_
 exact⟨_,rfl,rfl,rfl⟩
theorem z4q (h:Vn Q txt vb width st xs w){i:Nat}(hi:i<xs.length)(hn:Q.L.length<=4096):P9 prog 87 [ptr vb 0,I (i:Int)] w λv w'=>v= .tuple #[I ((st+i / (512 / width):Nat):Int),I ((i%(512 / width)*width:Nat):Int)]/\Ext w w':=by
 have hB:=h.cells
 have hg:=Ext.OT w
 obtain⟨e1,e2,e3,e4,e5⟩:=h.e
 obtain⟨a1,a2,a3⟩:=h.at_ hi
 have ku:=h.n
 have hd:((i:Nat):Int) / ((512 / width:Nat):Int)=((i / (512 / width):Nat):Int):=rfl
 have hm:((i:Nat):Int)%((512 / width:Nat):Int)=((i%(512 / width):Nat):Int):=rfl
 have EG:((i%(512 / width):Nat):Int)*(width:Int)=((i%(512 / width)*width:Nat):Int):=by rw[Int.natCast_mul]
 have kg:(st:Int)+((i / (512 / width):Nat):Int)=((st+i / (512 / width):Nat):Int):=by rw[Int.natCast_add]
 generalize i / (512 / width)=q at*
 generalize i%(512 / width)=r at*
 generalize 512 / width=each at*
 refine py (e:=[(0,_),(1,_)]) func87 O ntmps87 O O$ qN O$ Qd O$ An$ R8 (λw'=>Ext w w') O$ OR 0 O O (hg)$ Ow 1 O (Q8 O) hg$ Ow 2 O (Pk z07 O) hg$ Ow 3 O (Pk QJ O) hg$ qT 4 O (λ_ h=>OB U3 O O (h.On hB) O) hg$ OR 5 O O (hg)$ OR 6 O O (hg)$ Ow 7 O (Q8 O) hg$ Ow 8 O (Pk RW O) hg ?_
 refine Ow 9 O (Pk XZ O) hg$ qT 10 O (λ_ h=>OB U3 O O (h.On hB) O) hg$ OR 13 O O (hg)$ OR 14 O O (hg)$ Ow 15 O (Q8 O) hg$ Ow 16 O (Pk RW O) hg$ Ow 17 O (Pk XZ O) hg$ qT 18 O (λ_ h=>OB U3 O O (h.On hB) O) hg$ OR 20 O O (hg)$ Ow 21 O (Q8 O) hg$ Ow 22 O (Pk RW O) hg$ Ow 23 O (Pk Vy O) hg$ qT 24 O (λ_ h=>OB U3 O O (h.On hB) O) hg$ Ow 11 O (Wq O O ω) hg ?_
 rw[hd]
 refine Ow 12 O (Uw O O ω) hg$ Ow 26 O (Rr O) hg ?_
 rw[kg]
 refine Ow 19 O (yre O O ω) hg ?_
 rw[hm]
 refine Ow 25 O (X5 O O (by rw[EG];omega)) hg ?_
 rw[EG]
 refine Ow 27 O (Rr O) hg$ qE$ P8.qb (e:=[(4,_),(5,_)]) ?_
 refine Oo func87 O ?_
 exact⟨_,rfl,rfl,hg⟩
end
section
variable {w w':World}{Q:QY}{txt:Int->Ov}{K:Nat}{X:Nat->Prop}{vb width st n:Nat}{xs:List Nat}
def Vn.zez (h:Vn Q txt vb width st xs w){i x:Nat}(hi:xs[i]? =some x):x<2^(8*width)/\x<18446744073709551616:=by
 have h1:=(h.t i x hi).2
 have:=Nat.pow_le_pow_right (show 0<2 by decide) (show 8*width<=64 by have:=h.e;omega)
 exact⟨h1,ω⟩
theorem z1U (hP:Sp Q txt K X w)(hX:∀b,X b->b<w.heap.size)(hK:K<1000000000000)(hv:Vn Q txt vb width st xs w)(fG:X vb){i x:Nat}(hi:xs[i]? =some x):
  P9 prog 55 [ptr vb 0,I (i:Int)] w λv w'=>v= .tuple #[ON x,I 0]/\Sp Q txt K X w'/\Kp (λb=>¬X b) w w':=by
 have en:=hP.n
 have aO:i<xs.length:=by
  rcases Nat.lt_or_ge i xs.length with h| h
  ·exact h
  ·rw[List.getElem?_eq_none h] at hi;cases hi
 have Bj:=z4q hv aO en
 obtain⟨a1,a2,a3⟩:=hv.at_ aO
 have Bk:=(hv.t i x hi).1
 have mf:=(hv.zez hi).1
 have eJ:=hP.z0w (x:=((st+i / (512 / width):Nat):Int)) (Int.natCast_nonneg _) (Int.ofNat_lt.2 a1)
 have ku:=hv.n
 have O4:=hv.e.2.2.2.2
 have o7:∀w1,Ext w w1->P9 prog 83 [ptr Q.s 0,I ((st+i / (512 / width):Nat):Int)] w1 λv w'=>v= .tuple #[S (txt ((st+i / (512 / width):Nat):Int)),I 0]/\Sp Q txt K X w'/\Kp (λb=>¬X b) w1 w':=λw1 ad=>(hP.ext' ad).read (λb hb=>by have:=hX b hb;have:=ad.size;omega) hK (Int.natCast_nonneg _) (Int.ofNat_lt.2 a1)
 generalize i / (512 / width)=q at*
 generalize i%(512 / width)=r at*
 generalize ho:r*width=o at*
 obtain⟨t,ht⟩:∃t,txt ((st+q:Nat):Int)=t:=⟨_,rfl⟩
 rw[ht] at Bk eJ o7
 have hB:=hv.cells
 refine py (e:=[(0,_),(1,_)]) func55 O ntmps55 O O$ qN O$ Qd O$ Pz O$ OQ zbZ O (UE hv) ?_
 rintro _ w ⟨rfl,rfl⟩
 refine QO O$ Ql O$ PX O$ Pz O$ Qv O$ Pu$ OX O$ OC O$ Pb O$ OL RW O$ OL z2s O$ qV (OB U3 O O hB O)$ TE O$ Pu ?_
 refine PC O$ PX O$ Qh O$ OQ zf9 O (Bj) ?_
 rintro _ w1 ⟨rfl,ad⟩
 have ah:=ad.On hB
 refine OC O$ Sw O$ Qd O$ P8.qb (e:=[(0,_),(4,_),(5,_),(7,_),(8,_)]) ?_
 refine P7 O$ Pb O$ OL WO O$ qV (OB XP O O ah O)$ OC O$ OQ zbO O (o7 w1 ad) ?_
 rintro _ w2 ⟨rfl,f9,am⟩
 have ak:=am.On ah (λe=>e fG)
 refine OC O$ Sw O$ Qd O$ Pz O$ Ql O$ PX O$ QB O$ An$ Qh O$ OX O$ Pb O$ OL RW O$ OL Vy O$ qV (OB U3 O O ak O) ?_
 refine PL O ?_
 rw[show(o:Int)+(width:Int)=((o+width:Nat):Int) by omega]
 refine qV (zjf (m:=o) (n:=o+width) U9 O O O ω) ?_
 rw[show o+width-o=width by omega,Bk]
 have ft:=PW width x
 obtain⟨s,hs⟩:∃s,UW width x=s:=⟨_,rfl⟩
 have nl:Pp (OU s)=x:=by rw[<-hs];exact z2m mf
 rw[hs] at ft⊢
 refine Oy O O (zbw U9 Qk U5 O) ?_
 rintro _ w3 ⟨b7,c7,rest,rfl,⟨kF,aj,ao⟩,Do⟩
 refine Ro Qk O$ OC O$ Oq$ P8.qb (e:=[(4,_),(5,_),(11,_),(58,_),(59,_),(60,_)]) ?_
 refine Ou$ Rw (α:=Nat) (0) (λi=>[(11,ON (Pp (OU (s.take i)))),(58,.slice (some ⟨b7,0,none⟩) s.length c7),(59,I (s.length:Int)),(60,I (i:Int))]) (λi w'=>w'=w3/\i<=s.length) (λi=>s.length-i) ?hI ?hround
 case hI=>exact⟨rfl,Nat.zero_le _⟩
 case hround=>
  rintro i w4 ⟨rfl,hi⟩ ih
  try dsimp only
  refine qN O$ Qv O$ Oq$ An$ OH O (λh0=>?_)$ λh0=>?_
  ·obtain⟨c,hc⟩:∃c,s[i]? =some c:=⟨_,List.getElem?_eq_getElem ω⟩;have eR:=c.toNat_lt;have kg:=z0d hc
   have aN:Pp (OU (s.take i))<72057594037927936:=by
    have h1:=QU (OU (s.take i));rw[bitsT_length,List.length_take] at h1;have h2:2^(8*min i s.length)<=2^56:=Nat.pow_le_pow_right ψ ω;omega
   have aY:w4.cell? ⟨b7,0+i*1,none⟩=some (Tg c):=by
    rw[ao.cell,Nat.zero_add,Nat.mul_one,List.getElem?_append_left (by rw[List.length_map];omega),List.getElem?_map,hc];rfl
   refine Ot$ Qt$ qN O$ qV (PK Qk XN O O ω)$ qV (Pc U5 O O aY) ?_
   generalize Pp (OU (s.take i))=q at kg aN
   refine OK O$ R0 O$ qV (R6 8 256 O O ψ O)$ OC O$ qV ((zam O U5 R7 ψ))$ qV (z0j O O ω ω) ?_
   have oC:(q*256%18446744073709551616 |||c.toNat)=Pp (OU (s.take (i+1))):=by
    rw[kg,Nat.mod_eq_of_lt ω,Nat.mul_comm q];exact(Nat.two_pow_add_eq_or_of_lt (i:=8) eR q).symm
   rw[oC];refine OK O$ Om$ Oz O$ PL O$ OC O$ Oq ?_;exact(ih (i+1) _ ⟨rfl,ω⟩ ω).qb
  ·have dq:i=s.length:=by omega
   subst dq;rw[List.take_length,nl];refine OD O$ P7 O$ Qd O$ Oo func55 O ?_;exact⟨_,rfl,rfl,f9.ext' aj,(ad.kp.trans am).trans aj.kp⟩
theorem z9d (hP:Sp Q txt K X w)(hX:∀b,X b->b<w.heap.size)(hK:K<1000000000000)(hv:Vn Q txt vb width st xs w)(fG:X vb){i x:Nat}(hi:i<xs.length)(hx:x<2^(8*width)):
  P9 prog 114 [ptr vb 0,I (i:Int),ON x] w λv w'=>v=I 0/\VcW Q txt (K+1) X vb width st (xs.set i x) w w':=by
 have en:=hP.n
 have Bj:∀w1,Ext w w1->P9 prog 87 [ptr vb 0,I (i:Int)] w1 λv w'=>v= .tuple #[I ((st+i / (512 / width):Nat):Int),I ((i%(512 / width)*width:Nat):Int)]/\Ext w1 w':=λw1 ad=>z4q (hv.ext ad) hi en
 obtain⟨a1,a2,a3⟩:=hv.at_ hi
 obtain⟨e1,e2,e3,e4,e5⟩:=hv.e
 have mf:x<18446744073709551616:=by
  have:=Nat.pow_le_pow_right (show 0<2 by decide) (show 8*width<=64 by omega);omega
 have eJ:=hP.z0w (x:=((st+i / (512 / width):Nat):Int)) (Int.natCast_nonneg _) (Int.ofNat_lt.2 a1)
 have ku:=hv.n
 obtain⟨t,ht⟩:∃t,txt ((st+i / (512 / width):Nat):Int)=t:=⟨_,rfl⟩
 have iT:=hv.t.set ω hx hi ht (by rw[ht] at eJ;omega)
 have o7:∀w1,Ext w w1->P9 prog 83 [ptr Q.s 0,I ((st+i / (512 / width):Nat):Int)] w1 λv w'=>v= .tuple #[S (txt ((st+i / (512 / width):Nat):Int)),I 0]/\Sp Q txt K X w'/\Kp (λb=>¬X b) w1 w':=λw1 ad=>(hP.ext' ad).read (λb hb=>by have:=hX b hb;have:=ad.size;omega) hK (Int.natCast_nonneg _) (Int.ofNat_lt.2 a1)
 have kJ:(xs.set i x).length=xs.length:=by simp
 have hB:=hv.cells
 have oS:=hv.wd
 have cq:=hv.fit
 rw[ht] at eJ o7
 have Fx:∀w',OE w' vb [I (xs.length:Int),I (width:Int),I ((512 / width:Nat):Int),I (st:Int),I (Wf xs.length (512 / width):Int),ptr Q.s 0,.bool false] 164->Vn Q (YO txt ((st+i / (512 / width):Nat):Int) (some (t.take (i%(512 / width)*width)++UW width x++t.drop (i%(512 / width)*width+width)))) vb width st (xs.set i x) w':=λw' hb=>⟨by rw[kJ];exact hb,oS,iT,by rw[kJ];exact ku,by rw[kJ];exact cq⟩
 clear iT
 have mD:st+i / (512 / width)<Q.L.length:=a1
 generalize i / (512 / width)=q at*
 generalize i%(512 / width)=r at*
 generalize ho:r*width=o at*
 have ft:=PW width x
 have pY:(t.take o++UW width x++t.drop (o+width)).length=512:=by rw[List.length_append,List.length_append,List.length_take,List.length_drop,ft];omega
 refine py (e:=[(0,_),(1,_),(2,_)]) func114 O ntmps114 O O$ QB O$ Pz O$ OQ zbZ O (UE hv) ?_
 rintro _ w ⟨rfl,rfl⟩
 refine QO O$ Ql O$ PX O$ Pz O$ Qv O$ Pu$ OX O$ OC O$ Pb O$ OL RW O$ OL z2s O$ qV (OB U3 O O hB O)$ TE O$ Pu ?_
 refine PC O$ OX O$ Pb O$ OL RW O$ qV (Pa z7S O Yt O (OE.cells (n:=3) hB (news:=[_,_,_]) O) O)$ OC O$ OQ zi8 O (z18 xs.length width (512 / width) x oS hx w) ?_
 rintro _ w1 ⟨rfl,ad⟩
 have ah:=ad.On hB
 refine qV ((S1 O))$ PC O$ Oq$ P8.qb (e:=[(0,_),(1,_),(2,_),(6,_),(36,_)]) ?_
 refine T2 O$ Qh O$ OQ zf9 O (Bj w1 ad) ?_
 rintro _ w2 ⟨rfl,ae⟩
 have ak:=ae.On ah
 refine OC O$ Sw O$ Si O$ QO O$ Pb O$ OL WO O$ qV (OB XP O O ak O)$ OC O$ OQ zbO O (o7 w2 (ad.trans ae)) ?_
 rintro _ w3 ⟨rfl,gI,ar⟩
 have ao:=ar.On ak (λe=>e fG)
 have ag:=Ext.OT w3
 have bU:Kp (λb=>¬X b) w w3:=(ad.trans ae).kp.trans ar
 have aN:(t.take o).length=o:=by rw[List.length_take];omega
 have Md:(t.drop (o+width)).length=512-(o+width):=by rw[List.length_drop];omega
 refine OC O$ Sw O$ Qd O$ Pz O$ Ql O$ Oq$ P8.qb (e:=[(0,_),(2,_),(6,_),(8,_),(9,_),(10,_),(11,_),(53,_)]) ?_
 refine T2 O$ An$ R8 (λw'=>Kp (λb=>¬X b) w3 w') O$ OR 0 O O (ag.kp)$ Ow 1 O (Q8 O) (ag.kp)$ Ow 2 O (Pk WO O) (ag.kp)$ qT 3 O (λ_ h=>OB XP O O (h.On ao (λe=>e fG)) O) (ag.kp)$ OR 4 O O (ag.kp)$ OR 5 O O (ag.kp)$ OR 6 O O (ag.kp)$ Ow 7 O (z4T U9 O O ω) (ag.kp)$ OR 8 O O (ag.kp)$ Ow 9 O (Q8 O) (ag.kp)$ Ow 10 O (Pk RW O) (ag.kp) ?_
 refine qT 11 O (λ_ hS=>Pa z7S O Yt O (OE.cells (n:=3) (hS.On ao (λe=>e fG)) (news:=[_,_,_]) O) O) (ag.kp)$ OR 12 O O (ag.kp)$ OR 15 O O (ag.kp)$ OR 16 O O (ag.kp)$ OR 17 O O (ag.kp)$ Ow 18 O (Q8 O) (ag.kp)$ Ow 19 O (Pk RW O) (ag.kp)$ Ow 20 O (Pk Vy O) (ag.kp)$ qT 21 O (λ_ h=>OB U3 O O (h.On ao (λe=>e fG)) O) (ag.kp)$ Ow 22 O (Uw O O ω) (ag.kp) ?_
 rw[show(o:Int)+(width:Int)=((o+width:Nat):Int) by omega]
 refine Ow 23 O (z0Q U9 O O ω) (ag.kp)$ SH 13 O ze8 O (XD _ _ _ x e5 mf _) ?_
 rintro _ w4 ⟨rfl,aC⟩
 refine⟨ag.kp.trans aC.kp,?_⟩
 have dp:=ag.trans aC
 refine Ow 14 O (Yl O O (by first|omega|(simp;done)|(simp;omega))) (ag.kp.trans aC.kp) ?_
 refine Ow 24 O (Yl O O (by rw[List.length_append,aN,ft,Md];omega)) (ag.kp.trans aC.kp) ?_
 refine SH 25 O zbq O ((gI.ext' dp).write (λb hb=>by have:=hX b hb;have:=bU.size;have:=dp.size;omega) hK (no:=((st+q:Nat):Int)) ω ω _ pY) ?_
 rintro _ w5 ⟨rfl,iO,ai⟩
 refine⟨dp.kp.trans ai,?_⟩
 have jm:Kp (λb=>¬X b) w3 w5:=dp.kp.trans ai
 refine Ow 26 O (Rr O) (dp.kp.trans ai)$ qE$ P8.qb (e:=[(6,_)]) ?_
 refine Oo func114 O ?_
 exact⟨_,rfl,rfl,_,iO,Fx w5 (jm.On ao (λe=>e fG)),λy hy=>Rk _ _ (by rw[kJ] at hy;omega),bU.trans jm⟩
end
section
variable {w w':World}{Q:QY}{txt:Int->Ov}{K:Nat}{X:Nat->Prop}{vb width st each n:Nat}{xs:List Nat}
theorem z3N (hP:Sp Q txt K X w)(hX:∀b,X b->b<w.heap.size)(hK:K<=900000000000)(hv:Vn Q txt vb width st xs w)(fG:X vb){f:Nat}(p8:CF prog f)(caps:List Value)(On:Nat->Ov)(aB:∀b,(On b).length<=512)
  (hf:∀(b:Nat) (w1:World),b<Wf xs.length (512 / width)->Kp (λb=>¬X b) w w1->P9 prog f ([I (b:Int)]++caps) w1 λv w2=>v=S (On b)/\Ext w1 w2):
  P9 prog 78 [ptr vb 0,.func (.func f) #[] caps.toArray] w λv w'=>v=I 0/\∃txt',Sp Q txt' (K+Wf xs.length (512 / width)) X w'/\Kp (λb=>¬X b) w w'/\(∀b,b<Wf xs.length (512 / width)->txt' ((st+b:Nat):Int)=On b++zeros (512-(On b).length))/\(∀y:Int,y<(st:Int)\/(st:Int)+(Wf xs.length (512 / width):Int)<=y->txt' y=txt y):=by
 have fg:maxLen=9223372036854775807:=rfl
 have en:=hP.n
 have hB:=hv.cells
 have cq:=hv.fit
 have ku:=hv.n
 obtain⟨e1,e2,e3,e4,e5⟩:=hv.e
 have xR:=Yb xs.length width (512 / width) ⟨ω,e2⟩ ku w
 obtain⟨N,hN⟩:∃N,Wf xs.length (512 / width)=N:=⟨_,rfl⟩
 rw[hN] at hB cq xR hf⊢
 refine py (e:=[(0,_),(1,_)]) func78 O ntmps78 O O$ QB O$ Pz O$ Pb O$ OL RW O$ qV (Pa z7S O Yt O (OE.cells (n:=3) hB (news:=[_,_,_]) O) O)$ OQ zhF O (xR) ?_
 rintro _ w1 ⟨rfl,ad⟩
 refine OC O$ Oq$ Ou$ Rw (α:=Nat) (0) (λk=>[(0,ptr vb 0),(1,.func (.func f) #[] caps.toArray),(12,I (N:Int)),(13,I (k:Int))]) (λk w'=>k<=N/\Kp (λb=>¬X b) w w'/\∃txt',Sp Q txt' (K+k) X w'/\(∀b,b<k->txt' ((st+b:Nat):Int)=On b++zeros (512-(On b).length))/\(∀y:Int,y<(st:Int)\/(st:Int)+(k:Int)<=y->txt' y=txt y)) (λk=>N-k) ?hI ?hround
 case hI=>exact⟨Nat.zero_le _,ad.kp,txt,hP.ext' ad,λb hb=>by omega,λy _=>rfl⟩
 case hround=>
  rintro k w2 ⟨hk,am,txt2,f9,Is,gt⟩ ih;have ak:=am.On hB (λe=>e fG)
  try dsimp only
  refine qN O$ Qv O$ Oq$ An$ OH O (λh0=>?_)$ λh0=>?_
  ·have Fy:k<N:=by omega
   refine Ot$ Qt$ P7 O$ QL O$ OX O$ Qy O O (RY p8 O O) (hf k w2 Fy am) ?_;rintro _ w3 ⟨rfl,aj⟩;have ao:=aj.On ak;have gI:=f9.ext' aj;have ag:=Ext.OT w3;have hl:=aB k;have bU:=am.trans aj.kp;obtain⟨t,ht⟩:∃t,On k=t:=⟨_,rfl⟩;rw[ht] at hl⊢;have hz:(zeros (512-t.length)).length=512-t.length:=by simp[zeros]
   have cH:=gI.size;have zm:∀w4,Ext w3 w4->P9 prog 65 [ptr Q.s 0] w4 λv w'=>v=I 512/\w'=w4:=λw4 hx=>(gI.ext' hx).size;refine OK O (An (R8 (λw'=>Kp (λb=>¬X b) w3 w') O (OR 0 O O (ag.kp) (Ow 1 O (Q8 O) (ag.kp) (Ow 2 O (Pk WO O) (ag.kp) (qT 3 O (λ_ h=>OB XP O O (h.On ao (λe=>e fG)) O) (ag.kp) (OR 4 O O (ag.kp) (Ow 5 O (Q8 O) (ag.kp) (Ow 6 O (Pk z07 O) (ag.kp) (Ow 7 O (Pk QJ O) (ag.kp) (qT 8 O (λ_ h=>OB U3 O O (h.On ao (λe=>e fG)) O) (ag.kp) (OR 9 O O (ag.kp) (Ow 10 O (Uw O O ω) (ag.kp) ?_)))))))))))));refine OR 11 O O (ag.kp)$ OR 12 O O (ag.kp)$ Ow 13 O (Q8 O) (ag.kp)$ Ow 14 O (Pk WO O) (ag.kp)$ qT 15 O (λ_ h=>OB XP O O (h.On ao (λe=>e fG)) O) (ag.kp)$ OR 17 O O (ag.kp)$ Ow 18 O (VX U9 O) (ag.kp)$ SH 16 O z4h O (zm _ ag) ?_;rintro _ w4 ⟨rfl,rfl⟩;refine⟨ag.kp,?_⟩;refine Ow 19 O (X8 O O ω) (ag.kp) ?_;rw[show(512:Int)-(t.length:Int)=((512-t.length:Nat):Int) by omega];refine qO 20 (ZC (i:=20) O O O (pmk (c:=512-t.length) (n:=512-t.length) Qk XN O O O ω ω ω) ?_);rintro _ w4 ⟨b4,rfl,⟨gF,aC,aH⟩,-⟩;refine⟨ag.kp.trans aC.kp,?_⟩;have dp:=ag.trans aC;refine qO 21 (zgy (i:=21) O O O (z8m (l:=zeros (512-t.length)) Qk U5 U9 O aH (Zi _) hz) (dp.kp) (Ow 22 O (Yl O O (by rw[hz];omega)) (dp.kp) ?_));have pY:(t++zeros (512-t.length)).length=512:=by rw[List.length_append,hz];omega
   rw[show(st:Int)+(k:Int)=((st+k:Nat):Int) by omega];refine SH 23 O zbq O ((gI.ext' dp).write (λb hb=>by have:=hX b hb;have:=bU.size;have:=dp.size;omega) ω (no:=((st+k:Nat):Int)) ω ω _ pY) ?_;rintro _ w5 ⟨rfl,iO,ai⟩;refine⟨dp.kp.trans ai,?_⟩;have jm:Kp (λb=>¬X b) w3 w5:=dp.kp.trans ai;refine Ow 24 O (Rr O) (dp.kp.trans ai)$ qE$ P7 O$ Ql O$ PX O$ Om$ Oz O$ PL O$ OC O$ Oq ((ih (k+1) w5 ⟨ω,bU.trans jm,_,iO,λb hb=>?_,λy hy=>?_⟩ ω).qb)
   ·by_cases e:b=k
    ·subst e;rw[RQ,ht];rfl
    ·rw[Rk _ _ ω];exact Is b ω
   ·rw[Rk _ _ ω];exact gt y ω
  ·have Fy:k=N:=by omega
   subst Fy;refine OD O$ QB O$ Oo func78 O ?_;exact⟨_,rfl,rfl,txt2,f9,am,Is,gt⟩
theorem z4C (l:Ov):∀n,((List.replicate n l).flatten).length=n*l.length
 |0=>by simp
 |n+1=>by rw[List.replicate_succ,List.flatten_cons,List.length_append,z4C l n,Nat.add_mul];omega
def z3w {bf:Nat}{s:Ov}(b:Nat)(hB:OE w bf [S s] 9):P9 prog 79 ([I (b:Int)]++[ptr bf 0]) w λv w2=>v=S s/\Ext w w2:=by
 show P9 _ _ [I (b:Int),ptr bf 0] _ _
 refine py (e:=[(0,_),(1,_)]) func79 O ntmps79 O O$ qN O$ QL O$ qV (OB U9 O O hB O)$ OK O$ Oo func79 O ?_
 exact⟨_,rfl,rfl,Ext.refl _⟩
theorem Xp (hP:Sp Q txt K X w)(hX:∀b,X b->b<w.heap.size)(hK:K<=900000000000)(hv:Vn Q txt vb width st xs w)(fG:X vb){x:Nat}(hx:x<2^(8*width)):
  P9 prog 43 [ptr vb 0,ON x] w λv w'=>v=I 0/\VcW Q txt (K+Wf xs.length (512 / width)) X vb width st (List.replicate xs.length x) w w':=by
 have hB:=hv.cells
 have ku:=hv.n
 obtain⟨e1,e2,e3,e4,e5⟩:=hv.e
 have mf:x<18446744073709551616:=by
  have:=Nat.pow_le_pow_right (show 0<2 by decide) (show 8*width<=64 by omega);omega
 have ft:=PW width x
 have lJ:(List.replicate (512 / width) (UW width x)).flatten.length=512:=by
  rw[z4C,ft];exact e3
 refine py (e:=[(0,_),(1,_)]) func43 O ntmps43 O O$ QB O$ Pz O$ OQ zbZ O (UE hv) ?_
 rintro _ w ⟨rfl,rfl⟩
 refine QO O$ Ql O$ PX O$ Pz O$ Pb O$ OL RW O$ qV (Pa z7S O Yt O (OE.cells (n:=3) hB (news:=[_,_,_]) O) O)$ OC O$ OQ zi8 O (z18 xs.length width (512 / width) x hv.wd hx w) ?_
 rintro _ w1 ⟨rfl,ad⟩
 have ah:=ad.On hB
 have bc:=Ext.OT w1
 refine qV ((S1 O))$ PX O$ An$ Pw (λe' w'=>∃bf,e'=[(0,ptr vb 0),(6,ptr bf 0)]/\OE w' bf [S (List.replicate (512 / width) (UW width x)).flatten] 9/\Ext w1 w'/\w1.heap.size<=bf) ?bD$ λbD=>?de
 case bD=>
  rintro e' w2 ⟨bf,rfl,db,ae,Fz⟩;have aL:=ad.trans ae;have mG:=ad.size;have f9:Sp Q txt K (λb=>X b\/b=bf) w2:=hP.ext aL (λb e=>e.imp id λe=>by omega);have lbf:=db.lt;have hw:=z3N f9 (λb hb=>by rcases hb with e|e;(have:=hX b e;have:=aL.size;omega);omega) hK (hv.ext aL) (.inl fG) zjx [ptr bf 0] (λ_=>(List.replicate (512 / width) (UW width x)).flatten) (λ_=>by rw[lJ];omega) (λb w3 _ ar=>z3w b (ar.On db (λe=>e (.inr O))));refine P7 O$ qV (ymf (first:=[]) (caps:=[.tmp 6]) O O)$ OQ ziN O (hw) ?_;rintro _ w3 ⟨rfl,txt3,gI,ar,pM,qp⟩;refine OK O$ Oo func43 O ?_;have di:Kp (λb=>¬X b) w1 w3:=ae.kp.trans (ar.OA λb e e2=>e (.inl e2));have kJ:(List.replicate xs.length x).length=xs.length:=List.length_replicate;refine⟨_,rfl,rfl,txt3,gI.less (λb e=> .inl e),⟨?_,hv.wd,VcT.fill hx ω (λi hi=>?_),by rw[kJ];exact ku,by rw[kJ];exact hv.fit⟩,λy hy=>qp y (by rw[kJ] at hy;exact hy),ad.kp.trans di⟩
  ·rw[kJ];exact(ad.kp.trans di).On hB (λe=>e fG)
  ·have uf:=z2K (each:=512 / width) ω hi;exact⟨_,pM _ uf⟩
 case de=>
  have av:=bc;have bO:=av.size;refine OW [13] (λw'=>Ext w1 w') (by kernel_rfl) O$ PF 0 O O (av)$ P5 1 O (Q8 O) av$ P5 2 O (Pk RW O) av$ qL 3 O (λ_ h=>Pa z7S O Yt O (OE.cells (n:=3) (h.On ah) (news:=[_,_,_]) O) O) av$ PF 4 O O (av)$ PF 6 O O (av)$ P5 7 O (Q8 O) av$ P5 8 O (Pk RW O) av$ P5 9 O (Pk XZ O) av$ qL 10 O (λ_ h=>OB U3 O O (h.On ah) O) av$ Xd (i:=5) (j:=12) (by kernel_rfl) ?_ ?_
  ·refine RM (i:=5) O O O (yc ze8 O) (XD _ _ _ x e5 mf _) ?_;rintro _ w5 ⟨rfl,aR⟩;refine⟨av.trans aR,?_⟩;have av:=av.trans aR
   try have bh:=aR.On bh
   have bO:=Nat.le_trans bO aR.size;refine Xd (i:=11) (j:=12) (by kernel_rfl) ?_ ?_
   ·refine RM (i:=11) O O O (yc zeN O) (YI (UW width x) (512 / width) ω ω _) ?_;rintro _ w11 ⟨rfl,aV⟩;refine⟨av.trans aV,?_⟩;have av:=av.trans aV
    try have bh:=aV.On bh
    have bO:=Nat.le_trans bO aV.size;refine R4 (i:=12) (by kernel_rfl)$ Qg (i:=12) O O O (Rq (cs:=[_]) ti9 O) ?_;rintro _ w12 ⟨bf,rfl,Fz,aF,bh⟩;refine⟨av.trans aF,?_⟩;have av:=av.trans aF;have o8:w1.heap.size<=bf:=by omega
    have bO:=Nat.le_trans bO aF.size;refine Th [13] (qO 13 (Pt (i:=13) O O (Qw ti9 O O O bh ξ) ?_));rintro w13 ⟨cT,di⟩;refine⟨trivial,?_⟩;refine qE$ P8.qb (e:=[(0,_),(4,_),(6,_)]) ?_;exact(bD _ _ ⟨bf,rfl,cT,av.It di (λj e=>by omega),o8⟩).qb
   ·refine Qg (i:=12) O O O (Rq (cs:=[_]) ti9 O) ?_;rintro _ w12 ⟨bf,rfl,Fz,aF,bh⟩;refine⟨av.trans aF,?_⟩;have av:=av.trans aF;have o8:w1.heap.size<=bf:=by omega
    have bO:=Nat.le_trans bO aF.size;refine R4 (i:=11) (by kernel_rfl) (RM (i:=11) O O O (yc zeN O) (YI (UW width x) (512 / width) ω ω _) ?_);rintro _ w11 ⟨rfl,aV⟩;refine⟨av.trans aV,?_⟩;have av:=av.trans aV
    try have bh:=aV.On bh
    have bO:=Nat.le_trans bO aV.size;refine Th [13] (qO 13 (Pt (i:=13) O O (Qw ti9 O O O bh ξ) ?_));rintro w13 ⟨cT,di⟩;refine⟨trivial,?_⟩;refine qE$ P8.qb (e:=[(0,_),(4,_),(6,_)]) ?_;exact(bD _ _ ⟨bf,rfl,cT,av.It di (λj e=>by omega),o8⟩).qb
  ·refine Qg (i:=12) O O O (Rq (cs:=[_]) ti9 O) ?_;rintro _ w12 ⟨bf,rfl,Fz,aF,bh⟩;refine⟨av.trans aF,?_⟩;have av:=av.trans aF;have o8:w1.heap.size<=bf:=by omega
   have bO:=Nat.le_trans bO aF.size;refine R4 (i:=5) (by kernel_rfl)$ RM (i:=5) O O O (yc ze8 O) (XD _ _ _ x e5 mf _) ?_;rintro _ w5 ⟨rfl,aR⟩;refine⟨av.trans aR,?_⟩;have av:=av.trans aR
   try have bh:=aR.On bh
   have bO:=Nat.le_trans bO aR.size;refine R4 (i:=11) (by kernel_rfl) (RM (i:=11) O O O (yc zeN O) (YI (UW width x) (512 / width) ω ω _) ?_);rintro _ w11 ⟨rfl,aV⟩;refine⟨av.trans aV,?_⟩;have av:=av.trans aV
   try have bh:=aV.On bh
   have bO:=Nat.le_trans bO aV.size;refine Th [13] (qO 13 (Pt (i:=13) O O (Qw ti9 O O O bh ξ) ?_));rintro w13 ⟨cT,di⟩;refine⟨trivial,?_⟩;refine qE$ P8.qb (e:=[(0,_),(4,_),(6,_)]) ?_;exact(bD _ _ ⟨bf,rfl,cT,av.It di (λj e=>by omega),o8⟩).qb
end
section
end
section
variable {w w':World}{Q:QY}{txt:Int->Ov}{K:Nat}{X:Nat->Prop}{vb width st each n:Nat}{xs:List Nat}
theorem z3u (hP:Sp Q txt K X w)(hX:∀b,X b->b<w.heap.size)(hv:Vn Q txt vb width st xs w)(fG:X vb)(dg:2<=st)(hc:∀i,st<=i->i<st+Wf xs.length (512 / width)->Q.L[i]? =some true):
  P9 prog 51 [ptr vb 0] w λv w'=>v=I 0/\∃txt',Sp (Q.PI (PJ Q.L st (Wf xs.length (512 / width)) false)) txt' K X w'/\(∀y:Int,y<(st:Int)\/(st:Int)+(Wf xs.length (512 / width):Int)<=y->txt' y=txt y)/\Kp (λb=>¬X b\/b=vb) w w':=by
 have hB:=hv.cells
 have cq:=hv.fit
 have iS:1<=Wf xs.length (512 / width):=Nat.le_max_left _ _
 have hg:=Ext.OT w
 have Me:=(hP.ext' hg).ziI (λb hb=>by have:=hX b hb;have:=hg.size;omega) iS dg cq hc
 generalize Wf xs.length (512 / width)=N at*
 refine py (e:=[(0,_)]) func51 O ntmps51 O O$ QB O$ Pz O$ OQ zbZ O (UE hv) ?_
 rintro _ w ⟨rfl,rfl⟩
 refine QO O$ Ql O$ PX O$ An$ An$ R8 (λw'=>Kp (λb=>¬X b) w w') O$ OR 0 O O (hg.kp)$ Ow 1 O (Q8 O) (hg.kp)$ Ow 2 O (Pk WO O) (hg.kp)$ qT 3 O (λ_ h=>OB XP O O (h.On hB (λe=>e fG)) O) (hg.kp)$ OR 4 O O (hg.kp)$ Ow 5 O (Q8 O) (hg.kp)$ Ow 6 O (Pk z07 O) (hg.kp)$ qT 7 O (λ_ hS=>Pa WY O QT O (OE.cells (n:=2) (hS.On hB (λe=>e fG)) (news:=[_,_]) O) O) (hg.kp) ?_
 refine SH 8 O zjl O (Me) ?_
 rintro _ w1 ⟨rfl,txt1,md,mU,aG⟩
 refine⟨hg.kp.trans aG,?_⟩
 have iy:=hg.kp.trans aG
 have ah:=iy.On hB (λe=>e fG)
 refine Ow 9 O (Rr O) (hg.kp.trans aG)$ qE$ P7 O$ Ql O$ PX O$ P7 O$ Pb O$ OL z7q O$ OJ O (Qw US O O O ah ξ) ?_
 rintro w2 ⟨ak,am⟩
 refine qM O$ OK O$ Oo func51 O ?_
 exact⟨_,rfl,rfl,txt1,md.own am (λb e=>by rw[e];exact fG),mU,(iy.OA λb e=> .inl e).trans (am.OA λb e=> .inr e)⟩
def VcT.any {txt:Int->Ov}{st width each n:Nat}(he:1<=each)(hw:each*width<=512)(h:∀i,i<n->(txt ((st+i / each:Nat):Int)).length=512):∃xs:List Nat,xs.length=n/\VcT txt st width each xs:=by
 refine⟨(List.range n).map λi=>Pp (OU (((txt ((st+i / each:Nat):Int)).drop (i%each*width)).take width)),ξ,λi x hx=>?_⟩
 rw[List.getElem?_map] at hx
 by_cases hi:i<n
 ·rw[List.getElem?_range hi] at hx;cases hx;have hl:=h i hi;have hm:(i%each+1)*width<=each*width:=Nat.mul_le_mul_right _ (Nat.mod_lt _ he);rw[Nat.add_mul,Nat.one_mul] at hm
  have aB:(((txt ((st+i / each:Nat):Int)).drop (i%each*width)).take width).length=width:=by
   rw[List.length_take,List.length_drop,hl];omega
  refine⟨?_,?_⟩
  ·have hb:=zbY (((txt ((st+i / each:Nat):Int)).drop (i%each*width)).take width);rw[aB] at hb;exact hb.symm
  ·have h1:=QU (OU (((txt ((st+i / each:Nat):Int)).drop (i%each*width)).take width));rw[bitsT_length,aB] at h1;exact h1
 ·rw[List.getElem?_eq_none (by simpa using hi)] at hx;cases hx
theorem z9i (hP:Sp Q txt K X w)(hX:∀b,X b->b<w.heap.size)(hK:K<=800000000000){a:Nat}(hp:Pre Q.L a)(n width:Nat)(hn:n<=4194304)(oS:width=1\/width=2\/width=4\/width=8)(cq:a+Wf n (512 / width)<=Q.L.length):
  P9 prog 41 [ptr Q.s 0,I (n:Int),I (width:Int)] w λv w'=>∃vb txt',v= .tuple #[ptr vb 0,I 0]/\w.heap.size<=vb/\Sp (Q.PI (PJ Q.L a (Wf n (512 / width)) true)) txt' (K+Wf n (512 / width)) (λb=>X b\/b=vb) w'/\Vn (Q.PI (PJ Q.L a (Wf n (512 / width)) true)) txt' vb width a (List.replicate n 0) w'/\(∀y:Int,y<(a:Int)\/(a:Int)+(Wf n (512 / width):Int)<=y->txt' y=txt y)/\Kp (λb=>¬X b) w w':=by
 have iS:1<=Wf n (512 / width):=Nat.le_max_left _ _
 have en:=hP.n
 obtain⟨e1,e2,e3,e4,e5⟩:64<=512 / width/\512 / width<=512/\512 / width*width=512/\1<=width/\width<=8:=by
  rcases oS with e|e|e|e<;>subst e<;>decide
 have fx:(PJ Q.L a (Wf n (512 / width)) true).length=Q.L.length:=PY cq
 refine py (e:=[(0,_),(1,_),(2,_)]) func41 O ntmps41 O O$ qN O$ Qd O$ Qt$ P7 O$ qV (PU XP O O)$ OK O$ Ox O$ An$ Pw (λe' w'=>w'=w/\e'=[(0,ptr Q.s 0),(1,I (n:Int)),(2,I (width:Int)),(15,.bool false)]) ?au$ λau=>?dX
 case au=>
  rintro e' w' ⟨rfl,rfl⟩;refine T2 O$ Om$ Qh O$ OC O$ OQ z4h O (hP.size) ?_;rintro _ w' ⟨rfl,rfl⟩;refine OC O (qV (Wq O O ω) ?_);rw[show(512:Int) / (width:Int)=((512 / width:Nat):Int) from rfl];refine qV (Sa (cs:=[_,_,_]) Yt O zhv O O)$ OC O$ qV (Sa (cs:=[_,_,_,_,_,_,_]) zfU O zfN O O)$ Oy O O (R9 O (cs:=[I (n:Int),I (width:Int),I ((512 / width:Nat):Int),I 0,I 0,ptr Q.s 0,.bool false]) O) ?_;rintro _ w1 ⟨vb,rfl,fG,ad,ah⟩;refine QL O (OX O (Pb O (OL RW O (qV (Pa z7S O Yt O (OE.cells (n:=3) ah (news:=[_,_,_]) O) O) (OQ zhF O (Yb n width (512 / width) ⟨ω,e2⟩ hn _) ?_)))));rintro _ w2 ⟨rfl,ae⟩;have aL:=ad.trans ae;have ak:=ae.On ah;have z1:=ad.size;have z2:=ae.size;have l1:=ah.lt;have f9:Sp Q txt K (λb=>X b\/b=vb) w2:=hP.ext aL (λb e=>e.imp id λe=>by omega)
  have fB:∀b,(X b\/b=vb)->b<w2.heap.size:=λb hb=>by
   rcases hb with e| e
   ·have:=hX b e;have:=aL.size;omega
   ·omega
  obtain⟨N,hN⟩:∃N,Wf n (512 / width)=N:=⟨_,rfl⟩;rw[hN] at iS cq fx⊢;refine OQ zgX O (f9.take fB hp iS cq) ?_;rintro _ w3 ⟨rfl,gI,ar⟩;have ao:=ar.On ak (λe=>e (.inr O));have z3:=ar.size;refine OC O$ Sw O$ Oy O O (Rq (cs:=[_,_]) QT O) ?_;rintro _ w4 ⟨b9,rfl,mS,aC,aH⟩;refine OJ O (Py (news:=[I (a:Int),I (N:Int)]) QT O O O O aH ξ) ?_;rintro w5 ⟨aD,ai⟩;replace aD:OE w5 b9 [I (a:Int),I (N:Int)] 124:=aD;have bF:Ext w3 w5:=aC.It ai (λj e=>by omega);have cK:=bF.On ao;have iO:=gI.ext' bF;refine OK O$ P8.qb (e:=[(0,_),(8,_),(9,_),(10,_)]) ?_;refine Pz O (Ql O (PX O (P7 O (qV (Pa WY O QT O (OE.cells (n:=2) aD (news:=[_,_]) O) O) (Pb O (OL z07 O (OJ O (Py (news:=[I (a:Int),I (N:Int)]) QT O O O O cK ξ) ?_)))))));rintro w6 ⟨aT,aJ⟩;replace aT:OE w6 vb [I (n:Int),I (width:Int),I ((512 / width:Nat):Int),I (a:Int),I (N:Int),ptr Q.s 0,.bool false] 164:=aT;have o5:=iO.own aJ (λb e=> .inr e);have aB:(Q.PI (PJ Q.L a N true)).L.length=Q.L.length:=fx
  obtain⟨xs,dT,Bk⟩:=VcT.any (txt:=txt) (st:=a) (width:=width) (each:=512 / width) (n:=n) ω ω (λi hi=>by
   have uf:=z2K (each:=512 / width) ω hi;rw[hN] at uf
   generalize i / (512 / width)=q at uf⊢
   exact o5.z0w ω (by rw[aB];omega))
  have Mf:Vn (Q.PI (PJ Q.L a N true)) txt vb width a xs w6:=⟨by rw[dT,hN];exact aT,oS,Bk,ω,by rw[dT,hN,aB];exact cq⟩
  have qo:∀b,(X b\/b=vb)->b<w6.heap.size:=λb hb=>by
   have:=fB b hb;have:=bF.size;have:=aJ.size;omega
  have rS:=Xp o5 qo ω Mf (.inr O) (x:=0) (Nat.two_pow_pos _);rw[dT,hN] at rS;refine Oq$ Pz O$ OQ zeO O (rS) ?_;rintro _ w7 ⟨rfl,hW⟩;obtain⟨txt7,zN,B4,FA,ax⟩:=hW;refine QO O$ Ql O$ PX O$ P7 O$ Qd O$ Oo func41 O ?_;have kJ:(List.replicate n 0).length=n:=List.length_replicate;refine⟨_,rfl,vb,txt7,rfl,ω,zN,B4,λy hy=>FA y (by rw[kJ,hN];exact hy),?_⟩;have bU:Kp (λb=>¬X b) w' w3:=aL.kp.trans (ar.OA λb e e2=>e (.inl e2));exact((bU.trans bF.kp).It aJ (λb e=> .inl ω)).trans (ax.OA λb e e2=>e (.inl e2))
 case dX=>
  rcases oS with rfl|rfl|rfl|rfl
  ·refine R0 O$ Qv O$ Pu$ OX O$ Qr O$ Pu$ PC O$ OX O$ Ql O$ Pu$ OC O$ QI$ PC O$ OC O ?_;refine QI$ PC O$ OC O$ QI$ PC O$ PC O$ OK O$ P8.qb (e:=[(0,_),(1,_),(2,_),(6,_),(7,_),(15,_)]) ?_;exact(au _ _ ⟨rfl,rfl⟩).qb
  ·refine R0 O$ Qv O$ Pu$ OX O$ Qr O$ Pu$ PC O$ OX O$ Ql O$ Rf$ OX O$ Ql O$ Pu$ QQ O ?_;refine OC O$ QI$ PC O$ OC O$ QI$ PC O$ PC O$ OK O$ P8.qb (e:=[(0,_),(1,_),(2,_),(6,_),(7,_),(15,_)]) ?_;exact(au _ _ ⟨rfl,rfl⟩).qb
  ·refine R0 O$ Qv O$ Pu$ OX O$ Qr O$ Pu$ PC O$ OX O$ Ql O$ Rf$ OX O$ Ql O$ Rf$ QQ O ?_;refine OX O$ Ql O$ Pu$ QQ O$ OC O$ QI$ PC O$ PC O$ OK O$ P8.qb (e:=[(0,_),(1,_),(2,_),(6,_),(7,_),(15,_)]) ?_;exact(au _ _ ⟨rfl,rfl⟩).qb
  ·refine R0 O$ Qv O$ Pu$ OX O$ Qr O$ Pu$ PC O$ OX O$ Ql O$ Rf$ OX O$ Ql O$ Rf$ QQ O ?_;refine OX O$ Ql O$ Rf$ QQ O$ OX O$ Ql O$ Pu$ QQ O$ PC O$ OK O$ P8.qb (e:=[(0,_),(1,_),(2,_),(6,_),(7,_),(15,_)]) ?_;exact(au _ _ ⟨rfl,rfl⟩).qb
end
structure Gr where
 n:Nat
 succ:Nat->List Nat
 lt:∀v u,u∈succ v->u<n
def T5 {g:List (List Nat)}(h:QH g)(v u:Nat)(hu:u∈OG g v):u<g.length:=by
 unfold OG at hu
 cases e:g[v]? with
 |none=>rw[e] at hu;cases hu
 |some l=>rw[e] at hu;exact h.lt l (List.mem_of_getElem? e) u hu
abbrev Ds:=List (Option Nat)
section
end
section
end
/-! ### The same with a flag: whether there were some -/
/-! ### A run -/
structure BfS where
 t:Nat
 done:Bool
 d:Ds
section
variable {g:List (List Nat)}
end
def z7m {v:Nat}(h:v<=200000):Nat.log2 (v+1)<=17:=by
 have h1:=Nat.log2_self_le (n:=v+1) ω
 have h3:2^Nat.log2 (v+1)<2^18:=by
  have:(2:Nat)^18=262144:=by decide
  omega
 have:=(Nat.pow_lt_pow_iff_right (by decide:1<2)).1 h3
 omega
def Xa.zbC {k:Nat}{q:Cd×Nat}(h:Xa k q)(hk:1<=k/\k<=3):(q.1.enc q.2).length<=40:=by
 rw[Wn]
 rcases h with⟨e,h⟩|⟨e,h⟩|⟨e,h⟩
 ·rw[e];show q.2+1+0<=_;omega
 ·have:=z7m h;rw[e];show Nat.log2 (q.2+1)+1+Nat.log2 (q.2+1)<=_;omega
 ·have h3:=z7m h;have h4:Nat.log2 (q.2+1) / k<=Nat.log2 (q.2+1):=Nat.div_le_self _ _;have hm:Nat.log2 (q.2+1) / k*k<=Nat.log2 (q.2+1):=Nat.div_mul_le_self _ _
  have h5:(Rp (q.2+1-2^(Nat.log2 (q.2+1) / k*k)) (2^(Nat.log2 (q.2+1) / k*k)*2^k-2^(Nat.log2 (q.2+1) / k*k))).2<=20:=by
   have h6:PD (2^(Nat.log2 (q.2+1) / k*k)*2^k-2^(Nat.log2 (q.2+1) / k*k)-1)<=20:=by
    refine QW ?_;have h7:=Nat.pow_le_pow_right (show 0<2 by decide) (show Nat.log2 (q.2+1) / k*k+k<=20 by omega);rw[Nat.pow_add] at h7;have:=Nat.two_pow_pos (Nat.log2 (q.2+1) / k*k);omega
   unfold Rp;dsimp only;split
   ·show PD _-1<=20;omega
   ·exact h6
  rw[e];show Nat.log2 (q.2+1) / k+1+(Rp _ _).2<=_;omega
def z50 {p:RN}(hp:p.Qj)(hz:p.zeta<=3){x:Nat}(hx:x<65536){succ ref:List Nat}(hs:Pq succ)(hr:Pq ref){r:Nat}(j7:r<=p.OY)(KE:succ.length<=40)(AL:ref.length<=40):(OV (Rm p x succ ref r)).length<=6600:=by
 have aw:Pq (P3 succ ref):=hs.sub List.filter_sublist
 have fx:(P3 succ ref).length<=succ.length:=List.length_filter_le _ _
 have h1:=(SY succ ref).z14
 rw[List.length_map] at h1
 have h2:=z1N p.interval aw
 have h3:=(Um p.interval (P3 succ ref)).length_le
 have aB:(Rm p x succ ref r).length<=165:=by
  unfold Rm;rw[List.length_cons];split
  ·simp
  rw[List.length_append,List.length_append];have e1:(if 0<p.OY then [(Cd.unary,r)] else []).length<=1:=by split<;>simp
  have e2:(if 0<r then(Cd.gamma,(QZ succ ref).length-1)::Q7 0 (QZ succ ref).dropLast else []).length<=42:=by
   split
   ·rw[List.length_cons,SV,List.length_dropLast];omega
   ·simp
  have e3:(if P3 succ ref=[] then [] else(if 0<p.interval then(Cd.gamma,(PE p.interval (P3 succ ref)).1.length)::Pv x p.interval none (PE p.interval (P3 succ ref)).1 else [])++Px x p.zeta none (PE p.interval (P3 succ ref)).2).length<=121:=by
   split
   ·simp
   ·rw[List.length_append,T4];split
    ·rw[List.length_cons,Sb];omega
    ·simp;omega
  omega
 have:=z2g (n:=40) (L:=Rm p x succ ref r) (λq hq=>(ZX hp hx hs hr j7 q hq).zbC ⟨hp.2.2.1,hz⟩)
 omega
section
variable {p:Qc}{g:List (List Nat)}{E:List (Nat×Nat)}
def zeC (h:SO p g E)(rT:g.length<=40)(hz:p.zeta<=3){i:Nat}(hi:i<g.length):(Xq p g E i).length<=6600:=by
 unfold Xq
 have tI:g[i]? =some g[i]:=List.getElem?_eq_getElem hi
 have ru:i<E.length:=by have:=h.pk.el;omega
 have Iu:E[i]? =some E[i]:=List.getElem?_eq_getElem ru
 have gQ:=h.pk.ok.ent i _ Iu
 rw[tI,Iu]
 rw[tI] at gQ
 show(OV (Rm p.list i g[i] (Qp g i E[i].1) E[i].1)).length<=6600
 have h2:Pq (Qp g i E[i].1)/\(Qp g i E[i].1).length<=40:=by
  rcases Wr g i E[i].1 with e| e
  ·rw[e];exact⟨⟨List.Pairwise.nil,λy h=>(by cases h)⟩,Nat.zero_le _⟩
  ·exact⟨h.gr.ok _ e,by have:=h.gr.len e;omega⟩
 have j7:E[i].1<=p.list.OY:=by
  rcases gQ with e|⟨-,h3,-⟩
  ·rw[e];exact Nat.zero_le _
  ·exact h3
 have hm:g[i]∈g:=List.getElem_mem hi
 exact z50 h.Qj.1 hz ω (h.gr.ok _ hm) h2.1 j7 (by have:=h.gr.len hm;omega) h2.2
def zb2 (h:SO p g E)(rT:g.length<=40)(hz:p.zeta<=3):∀n,n<=g.length->(Qm p g E n).length<=n*6600
 |0,_=>by simp[Qm]
 | n + 1, hn => by
   have:=zb2 h rT hz n ω;have:=zeC h rT hz (i:=n) ω;rw[T0,List.length_append,Nat.add_mul];omega
def zcH {n u:Nat}(hn:1<=n):(Tz n u).bits<=3*n:=by
 show(u-1) / 2^XO n u+n<=_
 have h:u<2*n*2^XO n u:=by
  unfold XO;split
  ·rename_i e
   have:=(Nat.div_eq_zero_iff).1 e;omega
  ·rename_i e
   have h1:=WA (v:=u / n);have h2:=(Nat.div_lt_iff_lt_mul ω).1 h1;have h3:1<=PD (u / n):=by unfold PD;rw[if_neg e];omega
   rw[show PD (u / n)=PD (u / n)-1+1 by omega,Nat.pow_succ,Nat.mul_comm _ n,Nat.mul_comm _ 2,<-Nat.mul_assoc,Nat.mul_comm n 2] at h2;exact h2
 have h4:(u-1) / 2^XO n u<2*n:=(Nat.div_lt_iff_lt_mul (Nat.two_pow_pos _)).2 ω
 omega
def zab (h:SO p g E)(rT:g.length<=40)(hz:p.zeta<=3):(Xl p g E).length<=36000:=by
 have h1:=zb2 h rT hz g.length (Nat.le_refl _)
 have h2:g.length*6600<=40*6600:=Nat.mul_le_mul_right _ rT
 have h3:(pfm p g E).size<=2900:=by
  have hw:XO (g.length+1) ((Qm p g E g.length).length+1)<=30:=YP ω;have hb:=zcH (n:=g.length+1) (u:=(Qm p g E g.length).length+1) ω;have hm:(g.length+1)*XO (g.length+1) ((Qm p g E g.length).length+1)<=41*30:=Nat.mul_le_mul ω hw;show 12+((g.length+1)*XO (g.length+1) ((Qm p g E g.length).length+1)+7) / 8+((Tz (g.length+1) ((Qm p g E g.length).length+1)).bits+7) / 8+4*((g.length+1+63) / 64)<=2900;omega
 rw[h.len]
 unfold VY
 omega
end
structure Xv where
 p:Qc
 g:List (List Nat)
 E:List (Nat×Nat)
 st:Nat
 len:Nat
 rb:Nat
 sum:Nat
 k:Nat
 x:Nat
def Sz (G:Xv)(Q:QY)(txt:Int->Ov)(K:Nat)(X:Nat->Prop)(w:World):Prop:=∃o:StO Q txt K G.st G.len (Xl G.p G.g G.E),Ut (z5X o G.rb G.sum) G.k G.x X w
section
variable {G:Xv}{w w':World}{Q Q':QY}{txt txt':Int->Ov}{K K':Nat}{X Y S':Nat->Prop}
def Sz.sp (h:Sz G Q txt K X w):Sp Q txt K (λb=>X b\/b=G.rb) w:=by obtain⟨o,h⟩:=h;exact h.inv.1
def Sz.rbB (h:Sz G Q txt K X w):OE w G.rb (srC Q.s G.st G.len (Xl G.p G.g G.E).length G.sum) 202:=by obtain⟨o,h⟩:=h;exact h.inv.2.1
def Sz.rbX (h:Sz G Q txt K X w):¬X G.rb:=by obtain⟨o,h⟩:=h;exact h.inv.2.2
def Sz.lt (h:Sz G Q txt K X w):∀b,X b->b<w.heap.size:=by obtain⟨o,h⟩:=h;exact h.lt
def Sz.lt1 (h:Sz G Q txt K X w):∀b,(X b\/b=G.rb)->b<w.heap.size:=λb hb=>hb.elim (h.lt b) (λe=>by rw[e];exact h.rbB.lt)
def Sz.z8u (h:Sz G Q txt K X w):K<1000000000000:=by obtain⟨o,h⟩:=h;exact o.k
def Sz.xk (h:Sz G Q txt K X w):X G.k/\X G.x/\X 1/\X 2:=by obtain⟨o,h⟩:=h;exact⟨h.xk,h.xx,h.x1,h.x2⟩
theorem Sz.ok (h:Sz G Q txt K X w):SO G.p G.g G.E:=by obtain⟨o,h⟩:=h;exact h.ok
theorem Sz.Zb (h:Sz G Q txt K X w)(hk:Kp S' w w')(hS:∀b,S' b->¬(X b\/b=G.rb)\/(X b/\b≠G.k/\b≠G.x/\b≠1/\b≠2))(hP:Sp Q' txt' K' (λb=>X b\/b=G.rb) w')(hs:Q'.s=Q.s)(hl:Q'.L.length=Q.L.length)(hK:K'<1000000000000)(ht:∀y:Int,(G.st:Int)<=y->y<(G.st:Int)+(G.len:Int)->txt' y=txt y):Sz G Q' txt' K' X w':=by
 have ur:=h.rbX
 have Bl:=h.rbB
 obtain⟨o,h⟩:=h
 have aB:=o.len
 refine⟨⟨hK,by rw[hl];exact o.fit,o.laid.VT λk hk=>ht _ ω ω,o.len⟩,h.re hk (λj hj=>?_) ⟨hP,?_,ur⟩⟩
 ·rcases hS j hj with e| e
  ·exact⟨λe2=>e (.inl (e2▸h.xk)),λe2=>e (.inl (e2▸h.xx)),λe2=>e (.inl (e2▸h.x1)),λe2=>e (.inl (e2▸h.x2))⟩
  ·exact e.2
 ·rw[hs];exact hk.On Bl (λe=>(hS _ e).elim (λe=>e (.inr O)) (λe=>ur e.1))
def Sz.ziE (h:Sz G Q txt K X w)(hk:Kp S' w w')(hS:∀b,S' b->¬(X b\/b=G.rb))(aM:∀j,X j->Y j)(hY:∀j,Y j->X j\/(w.heap.size<=j/\j<w'.heap.size))(hP:Sp Q' txt' K' (λb=>Y b\/b=G.rb) w')(hs:Q'.s=Q.s)(hl:Q'.L.length=Q.L.length)(hK:K'<1000000000000)(ht:∀y:Int,(G.st:Int)<=y->y<(G.st:Int)+(G.len:Int)->txt' y=txt y):Sz G Q' txt' K' Y w':=by
 have ur:=h.rbX
 have Bl:=h.rbB
 obtain⟨o,h⟩:=h
 have aB:=o.len
 have hI:(z5X (⟨hK,by rw[hl];exact o.fit,o.laid.VT λk hk=>ht _ ω ω,o.len⟩:StO Q' txt' K' G.st G.len (Xl G.p G.g G.E)) G.rb G.sum).inv Y w':=⟨hP,by rw[hs];exact hk.On Bl (λe=>hS _ e (.inr O)),λe=>(hY _ e).elim ur (λe=>by have:=Bl.lt;omega)⟩
 refine⟨_,⟨h.ok,hk.On h.On (λe=>hS _ e (.inl h.xk)),hk.On h.ix (λe=>hS _ e (.inl h.xx)),aM _ h.xk,aM _ h.xx,hI,λj hj=>?_,aM _ h.x1,aM _ h.x2,hk.On h.gam (λe=>hS _ e (.inl h.x1)),hk.On h.una (λe=>hS _ e (.inl h.x2))⟩⟩
 rcases hY j hj with e| e
 ·have:=h.lt j e;have:=hk.size;omega
 ·exact e.2
def Sz.grow (h:Sz G Q txt K X w)(hx:Ext w w')(hY:∀j,Y j->X j\/(w.heap.size<=j/\j<w'.heap.size))(aM:∀j,X j->Y j):Sz G Q txt K Y w':=by
 obtain⟨o,h⟩:=h
 exact⟨o,h.grow hx hY aM⟩
def Sz.ext (h:Sz G Q txt K X w)(hx:Ext w w'):Sz G Q txt K X w':=h.grow hx (λj hj=> .inl hj) λj hj=>hj
def Sz.own (h:Sz G Q txt K X w)(hk:Kp S' w w')(hS:∀j,S' j->X j/\j≠G.k/\j≠G.x/\j≠1/\j≠2):Sz G Q txt K X w':=by
 obtain⟨o,h⟩:=h
 exact⟨o,h.own hk hS⟩
theorem Sz.step (h:Sz G Q txt K X w)(hk:Kp S' w w')(hS:∀j,S' j->X j/\j≠G.k/\j≠G.x/\j≠1/\j≠2)(hY:∀j,Y j->X j\/(w.heap.size<=j/\j<w'.heap.size))(aM:∀j,X j->Y j):Sz G Q txt K Y w':=by
 obtain⟨o,h⟩:=h
 exact⟨o,h.step hk hS hY aM⟩
def Sz.less (h:Sz G Q txt K Y w)(aM:∀j,X j->Y j)(hx:X G.k/\X G.x/\X 1/\X 2):Sz G Q txt K X w:=by
 obtain⟨o,h⟩:=h
 exact⟨o,h.less aM hx.1 hx.2.1 hx.2.2.1 hx.2.2.2⟩
theorem Sz.more (h:Sz G Q txt K X w)(hK:K<=K')(Mg:K'<1000000000000):Sz G Q txt K' X w:=h.Zb (S':=λ_=>False) (Kp.refl _ w) (λ_ e=>e.elim) (h.sp.more hK) O O Mg λ_ _ _=>rfl
def Wm (h:Sz G Q txt K X w):P9 prog 37 [ptr G.k 0] w λv w'=>v=I (G.g.length:Int)/\w'=w:=by
 obtain⟨o,h⟩:=h
 exact zbK h
def z5y {l bk bi v:Nat}(jb:G.g.length<50)(hv:v<G.g.length)(h:Sz G Q txt K X w)(fK:OE w bk [ptr G.k 0] 28)(rR:OE w bi [I (v:Int)] 3)(Z:Nat->Prop)(hZ:∀j,Z j->X j)(J:(Nat->Prop)->Nat->World->Prop)(F:World->Prop)
  (h0:∀(Y:Nat->Prop) (w':World),(∀j,X j->Y j)->(∀j,Y j->X j\/w.heap.size<=j)->Sz G Q txt K Y w'->Kp (λj=>¬X j) w w'->J Y 0 w')
  (hround:∀(Y:Nat->Prop) (i s:Nat) (w':World),(∀j,X j->Y j)->(∀j,Y j->X j\/w.heap.size<=j)->(OG G.g v)[i]? =some s->J Y i w'->z0W prog l [Pn s,I 0] w' λr w''=>(r= .bool true/\J Y (i+1) w''/\Kp (λj=>¬Y j\/Z j) w' w'')\/(r= .bool false/\F w'')):
  P9 prog 152 [.func (.yield l) #[] #[],ptr bk 0,ptr bi 0] w λr w'=>r= .tuple #[]/\((∃Y,(∀j,X j->Y j)/\(∀j,Y j->X j\/w.heap.size<=j)/\J Y (OG G.g v).length w')\/F w'):=by
 obtain⟨o,h⟩:=h
 exact z5x jb hv h fK rR Z hZ J F (λY w' h1 h2 h3 h4=>h0 Y w' h1 h2 ⟨o,h3⟩ h4) hround
end
def z8K {P:Program}{f:FuncId}{R:Value->World->Prop}{n:Nat}{rd:Option Nat}{ms:List Dfr}{dk:Bool}{k:List Item}{e:Env}{w:World}{α:Type}{c:Code}(x0:α)(M:α->List Dfr)(hM:M x0=ms)(E:α->Env)(I:α->World->Prop)(μ:α->Nat)(hE:Sub (E x0) e)(hI:I x0 w)
  (round:∀x w,I x w->(∀y w',I y w'->μ y<μ x->P8 ⟨P,f,R,n,rd,M y,dk⟩ (.inLoop c::k) (E y) w')->P8 ⟨P,f,R,n,rd,M x,dk⟩ (.code c:: .inLoop c::k) (E x) w):P8 ⟨P,f,R,n,rd,ms,dk⟩ (.code (.loop c)::k) e w:=by
 have key:∀m x w,μ x=m->I x w->P8 ⟨P,f,R,n,rd,M x,dk⟩ (.code c:: .inLoop c::k) (E x) w:=by
  intro m
  induction m using Nat.strongRecOn with
  | _ m ih =>
    intro x w hm hx;exact round x w hx λy w' hy aN=>z0h (ih (μ y) (hm▸aN) y w' O hy)
 subst hM
 exact λa ha=>VW.step (λ_ _=>stepR_loop) (key _ x0 w O hI a (ha.sub hE))
def RG.kp {ms:List Dfr}{w w':World}{S:Nat->Prop}(h:RG ms w)(hk:Kp S w w')(hS:∀D,.mk D∈ms->¬S D):RG ms w':=λd hd=>by
 obtain⟨D,rfl,hD⟩:=h d hd
 exact⟨D,rfl,hk.heap hD (hS D hd)⟩
theorem RG.nil (w:World):RG [] w:=λd hd=>by cases hd
theorem RG.cons {ms:List Dfr}{w:World}{D:Nat}(h:RG ms w)(hD:w.heap[D]? =some (.deferred (some []))):RG (.mk D::ms) w:=λd hd=>by
 rcases List.mem_cons.1 hd with rfl| e
 ·exact⟨D,rfl,hD⟩
 ·exact h d e
def z0D:∀(ms:List Dfr) (w:World),Kp (λk=> .mk k∈ms) w (So ms w)
 |[],w=>Kp.refl _ w
 | .mk D::ms,w=>((Qi w D (.deferred none)).OA λk e=>by rw[e];exact List.mem_cons_self).trans ((z0D ms _).OA λk e=>List.mem_cons_of_mem _ e)
 | .call f c a::ms,w=>(z0D ms w).OA λk e=>List.mem_cons_of_mem _ e
structure MkN (B:Nat)(ms:List Dfr)(w:World):Prop where
 nd:ms.Nodup
 m:RG ms w
 lo:∀D,.mk D∈ms->B<=D
 hi:∀D,.mk D∈ms->D<w.heap.size
theorem MkN.nil (B:Nat)(w:World):MkN B [] w:=⟨List.nodup_nil,.nil w,λ_ h=>(by cases h),λ_ h=>(by cases h)⟩
def MkN.kp {B:Nat}{ms:List Dfr}{w w':World}{S:Nat->Prop}(h:MkN B ms w)(hk:Kp S w w')(hS:∀D,.mk D∈ms->¬S D):MkN B ms w':=⟨h.nd,h.m.kp hk hS,h.lo,λD hD=>by have:=h.hi D hD;have:=hk.size;omega⟩
theorem MkN.cons {B:Nat}{ms:List Dfr}{w w':World}(h:MkN B ms w)(hB:B<=w.heap.size)(h':MkN B ms w')(hD:w'.heap[w.heap.size]? =some (.deferred (some [])))(hz:w.heap.size<w'.heap.size):MkN B (.mk w.heap.size::ms) w':=
 ⟨List.nodup_cons.2 ⟨λe=>by have:=h.hi _ e;omega,h.nd⟩,h'.m.cons hD,λD e=>by
  rcases List.mem_cons.1 e with e| e
  ·cases e;exact hB
  ·exact h.lo D e,λD e=>by
  rcases List.mem_cons.1 e with e| e
  ·cases e;exact hz
  ·exact h'.hi D e⟩
def GrR (w:World)(gb go:Nat)(g:List (List Nat)):Prop:=∀(v:Nat) (l:List Nat),g[v]? =some l->∃(a:Option Addr) (c:Nat),w.cell? ⟨gb,go+v*1,none⟩=some (.slice a l.length c)/\∀(i x:Nat),l[i]? =some x->∃lb lo,a=some ⟨lb,lo,none⟩/\w.cell? ⟨lb,lo+i*1,none⟩=some (Pn x)
def QD {w w':World}{a:Addr}{u:Value}(hx:Ext w w')(h:w.cell? a=some u):w'.cell? a=some u:=by
 unfold World.cell? at h⊢
 cases hh:w.heap[a.block]? with
 |none=>rw[hh] at h;simp at h
 |some o=>rw[hx.heap hh id];rw[hh] at h;exact h
def GrR.ext {w w':World}{gb go:Nat}{g:List (List Nat)}(h:GrR w gb go g)(hx:Ext w w'):GrR w' gb go g:=λv l hl=>by
 obtain⟨a,c,h1,h2⟩:=h v l hl
 refine⟨a,c,QD hx h1,λi x hi=>?_⟩
 obtain⟨lb,lo,e,h3⟩:=h2 i x hi
 exact⟨lb,lo,e,QD hx h3⟩
theorem GrM.r {w:World}{v:Value}{g:List (List Nat)}(h:GrM w v g)(h1:1<=g.length):∃gb go gc,v= .slice (some ⟨gb,go,none⟩) g.length gc/\GrR w gb go g:=by
 obtain⟨vs,hr,hv⟩:=h.ex
 rcases hr.2 with⟨c,-,h0⟩|⟨gb,go,gc,e,hc⟩
 ·omega
 ·refine⟨gb,go,gc,e,λv l hl=>?_⟩;obtain⟨a,c,g1,g2,g3⟩:=hv v l hl;refine⟨a,c,by rw[Nat.mul_one];exact hc v _ g1,λi x hi=>?_⟩;rcases g3.2 with⟨c',-,h0⟩|⟨lb,lo,lc,e2,fJ⟩
  ·have:l=[]:=List.eq_nil_of_length_eq_zero h0;rw[this] at hi;cases hi
  ·cases e2;exact⟨lb,lo,rfl,by rw[Nat.mul_one];exact fJ i _ (by rw[List.getElem?_map,hi];rfl)⟩
/-! ### Distances -/
structure RwM (w:World)(bg B:Nat)(L:List (List Nat)):Prop where
 ex:∃vs:List Value,OE w bg vs 40/\vs.length=L.length/\∀(i:Nat) (l:List Nat),L[i]? =some l->∃(a:Option Addr) (c:Nat),vs[i]? =some (.slice a l.length c)/\l.length<=c/\Rd w (.slice a l.length c) 1 l.length (l.map Pn)/\∀b,(Value.slice a l.length c).ownBlock=some b->B<=b/\b≠bg
section
variable {w w':World}{bg B:Nat}{L:List (List Nat)}
def RwM.ext (h:RwM w bg B L)(hx:Ext w w'):RwM w' bg B L:=by
 obtain⟨vs,h1,h2,h3⟩:=h.ex
 refine⟨vs,hx.On h1,h2,λi l hl=>?_⟩
 obtain⟨a,c,g1,g2,g3,g4⟩:=h3 i l hl
 exact⟨a,c,g1,g2,g3.ext hx,g4⟩
def RwM.new {n:Nat}(h:OE w bg (List.replicate n (.slice none 0 0)) 40):RwM w bg B (List.replicate n []):=
 ⟨_,h,ξ,λi l hl=>by
  rw[List.getElem?_replicate] at hl;split at hl
  ·rename_i hi
   cases hl;exact⟨none,0,by rw[List.getElem?_replicate,if_pos hi];rfl,Nat.le_refl _,⟨rfl,.inl ⟨(none,0),rfl,rfl⟩⟩,λb hb=>by cases hb⟩
  ·cases hl⟩
theorem RwM.set (h:RwM w bg B L){f:Nat}{l:List Nat}{a:Option Addr}{c:Nat}(hk:Kp (λb=>b=bg) w w')(hB:∀vs,OE w bg vs 40->OE w' bg (vs.set (0+f*1) (.slice a l.length c)) 40)(hf:f<L.length)(oO:l.length<=c)(hr:Rd w (.slice a l.length c) 1 l.length (l.map Pn))(ho:∀b,(Value.slice a l.length c).ownBlock=some b->B<=b/\b≠bg):RwM w' bg B (L.set f l):=by
 obtain⟨vs,h1,h2,h3⟩:=h.ex
 refine⟨_,hB vs h1,by simp[h2],λi l' hl=>?_⟩
 rw[Nat.zero_add,Nat.mul_one]
 by_cases e:f=i
 ·subst e;rw[List.getElem?_set_self hf] at hl;cases hl;exact⟨a,c,List.getElem?_set_self (by rw[h2];exact hf),oO,hr.kp hk (λb hb e=>(ho b hb).2 e),ho⟩
 ·rw[List.getElem?_set_ne e] at hl;obtain⟨a',c',g1,g2,g3,g4⟩:=h3 i l' hl;exact⟨a',c',by rw[List.getElem?_set_ne e];exact g1,g2,g3.kp hk (λb hb e=>(g4 b hb).2 e),g4⟩
def RwM.gr (h:RwM w bg B L):GrM w (.slice (some ⟨bg,0,none⟩) L.length L.length) L:=by
 obtain⟨vs,h1,h2,h3⟩:=h.ex
 refine⟨vs,⟨by rw[h2,Nat.mul_one],.inr ⟨bg,0,L.length,rfl,λj u hj=>by rw[h1.cell,Nat.zero_add];exact hj⟩⟩,λi l hl=>?_⟩
 obtain⟨a,c,g1,g2,g3,g4⟩:=h3 i l hl
 exact⟨a,c,g1,g2,g3⟩
def RwM.lt (h:RwM w bg B L):bg<w.heap.size:=by obtain⟨vs,h1,-⟩:=h.ex;exact h1.lt
theorem RwM.cell (h:RwM w bg B L){f:Nat}{l:List Nat}(hf:L[f]? =some l):∃(a:Option Addr) (c:Nat),w.cell? ⟨bg,0+f*1,none⟩=some (.slice a l.length c)/\l.length<=c/\Rd w (.slice a l.length c) 1 l.length (l.map Pn)/\∀b,(Value.slice a l.length c).ownBlock=some b->B<=b/\b≠bg:=by
 obtain⟨vs,h1,h2,h3⟩:=h.ex
 obtain⟨a,c,g1,g2,g3,g4⟩:=h3 f l hf
 exact⟨a,c,by rw[h1.cell,Nat.zero_add,Nat.mul_one];exact g1,g2,g3,g4⟩
def EdR (w:World)(ea:Option Addr)(es:List (Nat×Nat)):Prop:=∀(i:Nat) (e:Nat×Nat),es[i]? =some e->e.1<4294967296/\e.2<4294967296/\∃eb eo,ea=some ⟨eb,eo,none⟩/\w.cell? ⟨eb,eo+i*2+0,none⟩=some (Pn e.1)/\w.cell? ⟨eb,eo+i*2+1,none⟩=some (Pn e.2)
def EdR.ext {ea:Option Addr}{es:List (Nat×Nat)}(h:EdR w ea es)(hx:Ext w w'):EdR w' ea es:=λi e he=>by
 obtain⟨h1,h2,eb,eo,h3,h4,h5⟩:=h i e he
 exact⟨h1,h2,eb,eo,h3,QD hx h4,QD hx h5⟩
end
def QH.insert {g:List (List Nat)}(h:QH g){f x k:Nat}{s:List Nat}(hs:g[f]? =some s)(hx:x<g.length)(hk:k<=s.length)(h1:∀y∈s.take k,y<x)(h2:∀y∈s.drop k,x<y):QH (g.set f (s.take k++[x]++s.drop k)):=by
 have hm:=List.mem_of_getElem? hs
 have ut:=h.ok s hm
 have aN:=h.lt s hm
 have hn:=h.n
 refine⟨λl hl=>?_,λl hl y hy=>?_,by rw[List.length_set];exact h.n⟩
 ·rcases List.mem_or_eq_of_mem_set hl with e| e
  ·exact h.ok l e
  ·subst e;refine⟨?_,λy hy=>?_⟩
   ·have hr:List.Pairwise (·<·) s:=ut.ris;show List.Pairwise (·<·) _;rw[List.append_assoc,List.pairwise_append];refine⟨hr.sublist (List.take_sublist _ _),?_,λa ha b hb=>?_⟩
    ·rw[List.singleton_append,List.pairwise_cons];exact⟨h2,hr.sublist (List.drop_sublist _ _)⟩
    ·rw[List.singleton_append] at hb;rcases List.mem_cons.1 hb with e| e
     ·rw[e];exact h1 a ha
     ·exact Nat.lt_trans (h1 a ha) (h2 b e)
   ·rcases List.mem_append.1 hy with e| e
    ·rcases List.mem_append.1 e with e| e
     ·exact ut.lt y (List.mem_of_mem_take e)
     ·rw[List.mem_singleton.1 e];omega
    ·exact ut.lt y (List.mem_of_mem_drop e)
 ·rw[List.length_set];rcases List.mem_or_eq_of_mem_set hl with e| e
  ·exact h.lt l e y hy
  ·subst e;rcases List.mem_append.1 hy with e| e
   ·rcases List.mem_append.1 e with e| e
    ·exact aN y (List.mem_of_mem_take e)
    ·rw[List.mem_singleton.1 e];exact hx
   ·exact aN y (List.mem_of_mem_drop e)
def QH.empty {n:Nat}(hn:n<=60):QH (List.replicate n []):=
 ⟨λl hl=>by rw[List.eq_of_mem_replicate hl];exact⟨List.Pairwise.nil,λy h=>(by cases h)⟩,λl hl y hy=>(by rw[List.eq_of_mem_replicate hl] at hy;cases hy),by simpa using hn⟩
theorem OE.uniq {w:World}{b:Nat}{cs cs':List Value}{T T':TypeId}(h:OE w b cs T)(h':OE w b cs' T'):cs=cs':=by
 obtain⟨fz,h1,-⟩:=h
 obtain⟨fz',h2,-⟩:=h'
 rw[h1] at h2
 have:=Rh h2
 injection this with e1 e2 e3
 have:=congrArg Array.toList e1
 simpa using this
def z9j {n:Nat}(ce:1<=n)(hn:n<=40){w:World}{ea:Option Addr}{ec:Nat}{es:List (Nat×Nat)}(tH:es.length<=9000000000000000000)(hE:EdR w ea es):P9 prog 8 [I (n:Int),.slice ea es.length ec] w λv w'=>∃g bg,v= .slice (some ⟨bg,0,none⟩) g.length g.length/\g.length=n/\QH g/\RwM w' bg w.heap.size g/\Ext w w':=by
 have fg:maxLen=9223372036854775807:=rfl
 refine py (e:=[(0,_),(1,_)]) func8 O ntmps8 O O$ qN O$ QO O$ Oy O O (pmk (c:=n) (n:=n) WS TD O O O ω ω ω) ?_
 rintro _ w1 ⟨bg,rfl,⟨LW,ad,ah⟩,-⟩
 have i7:RwM w1 bg w.heap.size (List.replicate n []):=RwM.new ah
 refine OK O$ An$ QB O$ Ou$ Rw (α:=Nat×List (List Nat)) ((0,List.replicate n [])) (λy=>[(0,I (n:Int)),(1,.slice ea es.length ec),(5,.slice (some ⟨bg,0,none⟩) n n),(6,I (y.1:Int))]) (λy w'=>y.1<=es.length/\y.2.length=n/\QH y.2/\RwM w' bg w.heap.size y.2/\Ext w w') (λy=>es.length-y.1) ?hI ?hround
 case hI=>exact⟨Nat.zero_le _,ξ,QH.empty ω,i7,ad⟩
 case hround =>
  rintro⟨i,g⟩ w2 ⟨hi,eZ,aw,cJ,ae⟩ ih;dsimp only at hi eZ aw cJ ae ih⊢
  try dsimp only
  refine An$ Qh O$ Ro U22 O$ Qv O$ Oq$ OH O (λhq=>?_)$ λhq=>?_
  ·have dq : i < es.length := by omega
   obtain⟨e,he⟩:∃e,es[i]? =some e:=⟨_,List.getElem?_eq_getElem dq⟩;obtain⟨e1,e2,eb,eo,rfl,fU,fJ⟩:=(hE.ext ae) i e he;refine Ot (Qt (An (Qh O (qV (PK U22 z4i O O ω) (OL z6b O (qV (Pc QA O O fU) (qV (Ps O QA U3 ω) (OC O ?_))))))));by_cases hf:e.1<n
   ·by_cases ht:e.2<n
    ·refine TE O (Pu (OX O (OC O (qV (PK U22 z4i O O ω) (OL z0I O (qV (Pc QA O O fJ) (qV (Ps O QA U3 ω) (OC O (TE O (Pu ?_))))))))));obtain⟨s,hs⟩:∃s,g[e.1]? =some s:=⟨_,List.getElem?_eq_getElem ω⟩;obtain⟨a,c,fN,oO,et,O5⟩:=cJ.cell hs;have gG:s.length<=n:=by rw[<-eZ];exact aw.len (List.mem_of_getElem? hs)
     refine PC O (PX O (Qh O (OC O (qV (PK U22 z4i O O ω) (OL z6b O (qV (Pc QA O O fU) (qV (PK WS TD O O ω) (qV (Pc Ph O O fN) (QL O (OK O (Qt ?_)))))))))));have ue:List.Pairwise (·<·) s:=(aw.ok s (List.mem_of_getElem? hs)).ris
     have Mh:∀(k y:Nat),s[k]? =some y->∀z∈s.drop k,y<=z:=λk y hy z hz=>by
      have kU:k<s.length:=by
       rcases Nat.lt_or_ge k s.length with h| h
       ·exact h
       ·rw[List.getElem?_eq_none h] at hy;cases hy
      have h1:List.Pairwise (·<·) (s.drop k):=ue.sublist (List.drop_sublist _ _);rw[List.drop_eq_getElem_cons kU] at h1 hz;rw[List.getElem?_eq_getElem kU] at hy;cases hy;rcases List.mem_cons.1 hz with e| e
      ·omega
      ·exact Nat.le_of_lt ((List.pairwise_cons.1 h1).1 z e)
     refine RP (λe' w'=>∃k:Nat,e'=[(0,I (n:Int)),(1,.slice (some ⟨eb,eo,none⟩) es.length ec),(5,.slice (some ⟨bg,0,none⟩) n n),(6,I (i:Int)),(7,.slice a s.length c),(8,I (k:Int))]/\k<=s.length/\(∀y∈s.take k,y<e.2)/\(∀y,s[k]? =some y->e.2<=y)/\Ext w2 w') ?eC$ λeC=>?FF
     case eC =>
      rintro e' w3 ⟨k,rfl,hk,kj,dR,aj⟩;have ag:=Ext.OT w3;have uu:=et.ext aj;have uv:=QD aj fJ;refine An$ Pw (λe' w'=>∃q,e'=[(0,I (n:Int)),(1,.slice (some ⟨eb,eo,none⟩) es.length ec),(5,.slice (some ⟨bg,0,none⟩) n n),(6,I (i:Int)),(7,.slice a s.length c),(8,I (k:Int)),(76,.bool q)]/\(q=true->∀y∈s.drop k,e.2<y)/\Ext w2 w') ?dr$ λdr=>?iG
      case dr =>
       rintro e' w4 ⟨q,rfl,ug,aC⟩;have dW:=cJ.ext aC;have mg:=et.ext aC;have FB:=QD aC fU;have FC:=QD aC fJ;have bQ:=ae.trans aC;refine Q0 O (λBm=>?_)$ λBm=>?_
       ·have av:=Ext.OT w4;have bO:=av.size;have I4:w.heap.size<=w4.heap.size:=bQ.size;have Mi:=dW.lt
        have o9:((s.take k++[e.2])++s.drop k).length=s.length+1:=by
         rw[List.length_append,List.length_append,List.length_take,List.length_drop,List.length_singleton];omega
        have gC:∀(l:List Nat),∀c∈l.map Pn,c.oneCell'=true:=λl c hc=>by obtain⟨z,-,rfl⟩:=List.mem_map.1 hc;rfl
        have mH:(s.take k).length=k:=by rw[List.length_take];omega
        have Hm:(s.drop k).length=s.length-k:=List.length_drop ..;obtain⟨vs,qq,rB,-⟩:=id dW.ex;refine OW [23] (λw'=>Ext w4 w') (by kernel_rfl) O (PF 0 O O (av) (PF 1 O O (av) (PF 2 O O (av) (P5 3 O (PK U22 z4i O O ω) av (P5 4 O (Pk z6b O) av (PF 7 O O (av) (PF 8 O O (av) (PF 11 O O (av) (PF 12 O O (av) (P5 13 O (PK U22 z4i O O ω) av (P5 14 O (Pk z0I O) av (PF 18 O O (av) (PF 19 O O (av) ?_)))))))))))));refine qL 5 O (λ_ h=>Pc QA O O (QD h FB)) av$ P5 9 O (zca Ph OS O O ω) av$ qL 15 O (λ_ h=>Pc QA O O (QD h FC)) av$ P5 20 O (Ya Ph OS O O hk oO) av$ Xd (i:=6) (j:=16) (by kernel_rfl) ?_ ?_
        ·refine Qg (i:=6) O O O (XM (cs:=[]) (zs:=[]) Ph OS O (by kernel_rfl) O O O ψ) ?_;rintro v6 w6 ⟨b6,rfl,⟨oD,aQ,aT⟩,fL⟩;refine⟨av.trans aQ,?_⟩;have FD:w4.heap.size<=b6:=by omega
         have lb6:=aT.lt;have av:=av.trans aQ
         try have co:=co.ext aQ
         have bO:=Nat.le_trans bO aQ.size;refine Xd (i:=10) (j:=16) (by kernel_rfl) ?_ ?_
         ·refine Qg (i:=10) O O O (pap Ph OS O ψ O O fL ((UA (i:=k) mg hk).ext av) (λc hc=>gC s c (List.mem_of_mem_take hc)) ω ω) ?_;rintro v10 w10 ⟨cj,aA,ck,-⟩;refine⟨av.It aA (λj e=>by have e:b6=j:=Rh e;omega),?_⟩;have av:=av.It aA (λj e=>by have e:b6=j:=Rh e;omega)
          try have co:=co.kp aA (λj hj e=>by have e:b6=j:=Rh e;have hj:b16=j:=Rh hj;omega)
          have ck:∀j,v10.ownBlock=some j->w4.heap.size<=j:=λj hj=>by rcases ck j hj with e|e;(have e:b6=j:=Rh e;omega);omega
          have bO:=Nat.le_trans bO aA.size;have zS:=λ(j:Nat) (hj:v10.ownBlock=some j)=>cj.lt hj;refine R4 (i:=16) (by kernel_rfl) (Qg (i:=16) O O O (XM (cs:=[_]) (zs:=[Value.int .u32 0]) Ph OS O (by kernel_rfl) O O O ψ) ?_);rintro v16 w16 ⟨b16,rfl,⟨uw,aZ,iJ⟩,co⟩;refine⟨av.trans aZ,?_⟩;have zT:w4.heap.size<=b16:=by omega
          have av:=av.trans aZ
          try have fL:=fL.ext aZ
          try have cj:=cj.ext aZ
          have lb16:=iJ.lt;have bO:=Nat.le_trans bO aZ.size;refine R4 (i:=17) (by kernel_rfl) (Qg (i:=17) O O O (pap Ph OS O ψ O O cj co.rd (λc hc=>gC [e.2] c hc) ω ω) ?_);rintro v17 w17 ⟨ij,dD,dL,-⟩;refine⟨av.It dD (λj e=>ck j e),?_⟩;have av:=av.It dD (λj e=>ck j e);have dL:∀j,v17.ownBlock=some j->w4.heap.size<=j:=λj hj=>by rcases dL j hj with e|e;exact ck j e;omega
          have bO:=Nat.le_trans bO dD.size;refine R4 (i:=21) (by kernel_rfl) (Qg (i:=21) O O O (pap Ph OS O ψ O O ij ((Tw (i:=k) mg hk oO).ext av) (λc hc=>gC s c (List.mem_of_mem_drop hc)) ω ω) ?_);rintro v21 w21 ⟨dM,jn,gD,-⟩;refine⟨av.It jn (λj e=>dL j e),?_⟩;have av:=av.It jn (λj e=>dL j e);have gD:∀j,v21.ownBlock=some j->w4.heap.size<=j:=λj hj=>by rcases gD j hj with e|e;exact dL j e;omega
          refine P5 22 O (PK WS TD O O ω) av ?_;have jo:=av.On qq;refine Th [23] (qO 23 (Pt (i:=23) O O (Qw TD O O (Ws dM) jo (by rw[rB];omega)) ?_));rintro w23 ⟨cI,dK⟩;refine⟨trivial,?_⟩;refine qE$ Om$ R0 O$ PL O$ OK O ?_;rw[show 0+k+1+(s.length-k)=(s.take k++[e.2]++s.drop k).length by rw[o9];omega,show([]++List.take k (s.map Pn)++[Pn e.2]++List.drop k (s.map Pn))=(s.take k++[e.2]++s.drop k).map Pn by simp[List.map_take,List.map_drop]] at dM;obtain⟨ra,rc,rfl,-⟩:=dM.rd.shape
          have zU:(s.take k++[e.2]++s.drop k).length<=rc:=by
           rcases dM.shape with⟨e1,e2⟩|⟨gg,cc,e1,e2⟩
           ·omega
           ·cases e1;exact e2
          have oa:=(dW.ext av).set dK (f:=e.1) (l:=s.take k++[e.2]++s.drop k) (a:=ra) (c:=rc) (λvs' h'=>by rw[OE.uniq h' jo];exact cI) ω zU dM.rd (λj hj=>by have:=gD j hj;omega);have ob:=aw.insert hs (x:=e.2) (k:=k) ω hk kj (ug Bm);exact(ih (i+1,g.set e.1 (s.take k++[e.2]++s.drop k)) _ ⟨ω,by rw[List.length_set];exact eZ,ob,oa,(bQ.trans av).It dK (λj e=>by omega)⟩ ω).qb
         ·refine Qg (i:=16) O O O (XM (cs:=[_]) (zs:=[Value.int .u32 0]) Ph OS O (by kernel_rfl) O O O ψ) ?_;rintro v16 w16 ⟨b16,rfl,⟨uw,aZ,iJ⟩,co⟩;refine⟨av.trans aZ,?_⟩;have zT:w4.heap.size<=b16:=by omega
          have av:=av.trans aZ
          try have fL:=fL.ext aZ
          try have cj:=cj.ext aZ
          have lb16:=iJ.lt;have bO:=Nat.le_trans bO aZ.size;refine R4 (i:=10) (by kernel_rfl) (Qg (i:=10) O O O (pap Ph OS O ψ O O fL ((UA (i:=k) mg hk).ext av) (λc hc=>gC s c (List.mem_of_mem_take hc)) ω ω) ?_);rintro v10 w10 ⟨cj,aA,ck,-⟩;refine⟨av.It aA (λj e=>by have e:b6=j:=Rh e;omega),?_⟩;have av:=av.It aA (λj e=>by have e:b6=j:=Rh e;omega)
          try have co:=co.kp aA (λj hj e=>by have e:b6=j:=Rh e;have hj:b16=j:=Rh hj;omega)
          have ck:∀j,v10.ownBlock=some j->w4.heap.size<=j:=λj hj=>by rcases ck j hj with e|e;(have e:b6=j:=Rh e;omega);omega
          have bO:=Nat.le_trans bO aA.size;have zS:=λ(j:Nat) (hj:v10.ownBlock=some j)=>cj.lt hj;refine R4 (i:=17) (by kernel_rfl) (Qg (i:=17) O O O (pap Ph OS O ψ O O cj co.rd (λc hc=>gC [e.2] c hc) ω ω) ?_);rintro v17 w17 ⟨ij,dD,dL,-⟩;refine⟨av.It dD (λj e=>ck j e),?_⟩;have av:=av.It dD (λj e=>ck j e);have dL:∀j,v17.ownBlock=some j->w4.heap.size<=j:=λj hj=>by rcases dL j hj with e|e;exact ck j e;omega
          have bO:=Nat.le_trans bO dD.size;refine R4 (i:=21) (by kernel_rfl) (Qg (i:=21) O O O (pap Ph OS O ψ O O ij ((Tw (i:=k) mg hk oO).ext av) (λc hc=>gC s c (List.mem_of_mem_drop hc)) ω ω) ?_);rintro v21 w21 ⟨dM,jn,gD,-⟩;refine⟨av.It jn (λj e=>dL j e),?_⟩;have av:=av.It jn (λj e=>dL j e);have gD:∀j,v21.ownBlock=some j->w4.heap.size<=j:=λj hj=>by rcases gD j hj with e|e;exact dL j e;omega
          refine P5 22 O (PK WS TD O O ω) av ?_;have jo:=av.On qq;refine Th [23] (qO 23 (Pt (i:=23) O O (Qw TD O O (Ws dM) jo (by rw[rB];omega)) ?_));rintro w23 ⟨cI,dK⟩;refine⟨trivial,?_⟩;refine qE$ Om$ R0 O$ PL O$ OK O ?_;rw[show 0+k+1+(s.length-k)=(s.take k++[e.2]++s.drop k).length by rw[o9];omega,show([]++List.take k (s.map Pn)++[Pn e.2]++List.drop k (s.map Pn))=(s.take k++[e.2]++s.drop k).map Pn by simp[List.map_take,List.map_drop]] at dM;obtain⟨ra,rc,rfl,-⟩:=dM.rd.shape
          have zU:(s.take k++[e.2]++s.drop k).length<=rc:=by
           rcases dM.shape with⟨e1,e2⟩|⟨gg,cc,e1,e2⟩
           ·omega
           ·cases e1;exact e2
          have oa:=(dW.ext av).set dK (f:=e.1) (l:=s.take k++[e.2]++s.drop k) (a:=ra) (c:=rc) (λvs' h'=>by rw[OE.uniq h' jo];exact cI) ω zU dM.rd (λj hj=>by have:=gD j hj;omega);have ob:=aw.insert hs (x:=e.2) (k:=k) ω hk kj (ug Bm);exact(ih (i+1,g.set e.1 (s.take k++[e.2]++s.drop k)) _ ⟨ω,by rw[List.length_set];exact eZ,ob,oa,(bQ.trans av).It dK (λj e=>by omega)⟩ ω).qb
        ·refine Qg (i:=16) O O O (XM (cs:=[_]) (zs:=[Value.int .u32 0]) Ph OS O (by kernel_rfl) O O O ψ) ?_;rintro v16 w16 ⟨b16,rfl,⟨uw,aZ,iJ⟩,co⟩;refine⟨av.trans aZ,?_⟩;have zT:w4.heap.size<=b16:=by omega
         have av:=av.trans aZ
         try have fL:=fL.ext aZ
         try have cj:=cj.ext aZ
         have lb16:=iJ.lt;have bO:=Nat.le_trans bO aZ.size;refine R4 (i:=6) (by kernel_rfl) (Qg (i:=6) O O O (XM (cs:=[]) (zs:=[]) Ph OS O (by kernel_rfl) O O O ψ) ?_);rintro v6 w6 ⟨b6,rfl,⟨oD,aQ,aT⟩,fL⟩;refine⟨av.trans aQ,?_⟩;have FD:w4.heap.size<=b6:=by omega
         have lb6:=aT.lt;have av:=av.trans aQ
         try have co:=co.ext aQ
         have bO:=Nat.le_trans bO aQ.size;refine R4 (i:=10) (by kernel_rfl) (Qg (i:=10) O O O (pap Ph OS O ψ O O fL ((UA (i:=k) mg hk).ext av) (λc hc=>gC s c (List.mem_of_mem_take hc)) ω ω) ?_);rintro v10 w10 ⟨cj,aA,ck,-⟩;refine⟨av.It aA (λj e=>by have e:b6=j:=Rh e;omega),?_⟩;have av:=av.It aA (λj e=>by have e:b6=j:=Rh e;omega)
         try have co:=co.kp aA (λj hj e=>by have e:b6=j:=Rh e;have hj:b16=j:=Rh hj;omega)
         have ck:∀j,v10.ownBlock=some j->w4.heap.size<=j:=λj hj=>by rcases ck j hj with e|e;(have e:b6=j:=Rh e;omega);omega
         have bO:=Nat.le_trans bO aA.size;have zS:=λ(j:Nat) (hj:v10.ownBlock=some j)=>cj.lt hj;refine R4 (i:=17) (by kernel_rfl) (Qg (i:=17) O O O (pap Ph OS O ψ O O cj co.rd (λc hc=>gC [e.2] c hc) ω ω) ?_);rintro v17 w17 ⟨ij,dD,dL,-⟩;refine⟨av.It dD (λj e=>ck j e),?_⟩;have av:=av.It dD (λj e=>ck j e);have dL:∀j,v17.ownBlock=some j->w4.heap.size<=j:=λj hj=>by rcases dL j hj with e|e;exact ck j e;omega
         have bO:=Nat.le_trans bO dD.size;refine R4 (i:=21) (by kernel_rfl) (Qg (i:=21) O O O (pap Ph OS O ψ O O ij ((Tw (i:=k) mg hk oO).ext av) (λc hc=>gC s c (List.mem_of_mem_drop hc)) ω ω) ?_);rintro v21 w21 ⟨dM,jn,gD,-⟩;refine⟨av.It jn (λj e=>dL j e),?_⟩;have av:=av.It jn (λj e=>dL j e);have gD:∀j,v21.ownBlock=some j->w4.heap.size<=j:=λj hj=>by rcases gD j hj with e|e;exact dL j e;omega
         refine P5 22 O (PK WS TD O O ω) av ?_;have jo:=av.On qq;refine Th [23] (qO 23 (Pt (i:=23) O O (Qw TD O O (Ws dM) jo (by rw[rB];omega)) ?_));rintro w23 ⟨cI,dK⟩;refine⟨trivial,?_⟩;refine qE$ Om$ R0 O$ PL O$ OK O ?_;rw[show 0+k+1+(s.length-k)=(s.take k++[e.2]++s.drop k).length by rw[o9];omega,show([]++List.take k (s.map Pn)++[Pn e.2]++List.drop k (s.map Pn))=(s.take k++[e.2]++s.drop k).map Pn by simp[List.map_take,List.map_drop]] at dM;obtain⟨ra,rc,rfl,-⟩:=dM.rd.shape
         have zU:(s.take k++[e.2]++s.drop k).length<=rc:=by
          rcases dM.shape with⟨e1,e2⟩|⟨gg,cc,e1,e2⟩
          ·omega
          ·cases e1;exact e2
         have oa:=(dW.ext av).set dK (f:=e.1) (l:=s.take k++[e.2]++s.drop k) (a:=ra) (c:=rc) (λvs' h'=>by rw[OE.uniq h' jo];exact cI) ω zU dM.rd (λj hj=>by have:=gD j hj;omega);have ob:=aw.insert hs (x:=e.2) (k:=k) ω hk kj (ug Bm);exact(ih (i+1,g.set e.1 (s.take k++[e.2]++s.drop k)) _ ⟨ω,by rw[List.length_set];exact eZ,ob,oa,(bQ.trans av).It dK (λj e=>by omega)⟩ ω).qb
       ·refine Ot$ Om$ R0 O$ PL O$ OK O ?_;exact(ih (i+1,g) _ ⟨ω,eZ,aw,dW,bQ⟩ ω).qb
      case iG=>
       refine R8 (λw'=>Ext w3 w') O$ OR 0 O O (ag)$ OR 1 O O (ag)$ Ow 2 O (St Ph O) ag ?_;by_cases jy:k=s.length
       ·refine Ow 3 O (yeq O O) ag$ TH$ OR 4 O O (ag)$ qJ 5 O (ag)$ qJ 6 O (ag)$ qJ 7 O (ag)$ qJ 8 O (ag)$ qJ 9 O (ag)$ qJ 10 O (ag)$ qJ 11 O (ag)$ qJ 12 O (ag)$ qJ 13 O (ag)$ qJ 14 O (ag)$ Ow 15 O (UT O O) ag ?_;refine qE ?_;exact(dr _ _ ⟨true,rfl,λ_ y hy=>(by rw[jy,List.drop_length] at hy;cases hy),aj.trans ag⟩).qb
       ·obtain⟨y,hy⟩:∃y,s[k]? =some y:=⟨_,List.getElem?_eq_getElem ω⟩;rcases uu.2 with⟨⟨ca,cc⟩,gX,vM⟩|⟨lb,lo,cap,gX,eR⟩
        ·omega
        cases gX;have FE:w3.cell? ⟨lb,lo+k*1,none⟩=some (Pn y):=eR (k*1) _ (by rw[Nat.mul_one,List.getElem?_map,hy];rfl);refine Ow 3 O (yeq O O) ag (TK (OR 4 O O (ag) (OR 5 O O (ag) (OR 6 O O (ag) (Ow 7 O (PK Ph OS O O ω) ag (OR 9 O O (ag) (OR 10 O O (ag) (Ow 11 O (PK U22 z4i O O ω) ag (Ow 12 O (Pk z0I O) ag (qT 8 O (λ_ h=>Pc QA O O (QD h FE)) ag (qT 13 O (λ_ h=>Pc QA O O (QD h uv)) ag ?_)))))))))));have zV:=dR y hy;by_cases Hd:y=e.2
        ·refine Ow 14 O (yne O O) ag$ TK$ Ow 15 O (U0 O O) ag$ qE ?_;exact(dr _ _ ⟨false,rfl,λe=>(by cases e),aj.trans ag⟩).qb
        ·refine Ow 14 O (yne O O) ag$ TH$ Ow 15 O (U0 O O) ag$ qE ?_;exact(dr _ _ ⟨true,rfl,λ_ z hz=>(by have:=Mh k y hy z hz;omega),aj.trans ag⟩).qb
     case FF=>
      refine Rw (α:=Nat) (0) (λk=>[(0,I (n:Int)),(1,.slice (some ⟨eb,eo,none⟩) es.length ec),(5,.slice (some ⟨bg,0,none⟩) n n),(6,I (i:Int)),(7,.slice a s.length c),(8,I (k:Int))]) (λk w'=>k<=s.length/\(∀y∈s.take k,y<e.2)/\Ext w2 w') (λk=>s.length-k) ?hI ?hround
      case hI=>exact⟨Nat.zero_le _,λy hy=>(by simp at hy),Ext.refl _⟩
      case hround=>
       rintro k w3 ⟨hk,kj,aj⟩ ih2;have ag:=Ext.OT w3;have uu:=et.ext aj;have uv:=QD aj fJ
       try dsimp only
       refine An$ An$ R8 (λw'=>Ext w3 w') O$ OR 0 O O (ag)$ OR 1 O O (ag)$ Ow 2 O (St Ph O) ag ?_;by_cases kU:k<s.length
       ·obtain⟨y,hy⟩:∃y,s[k]? =some y:=⟨_,List.getElem?_eq_getElem kU⟩;rcases uu.2 with⟨⟨ca,cc⟩,gX,vM⟩|⟨lb,lo,cap,gX,eR⟩
        ·omega
        cases gX;have FE:w3.cell? ⟨lb,lo+k*1,none⟩=some (Pn y):=eR (k*1) _ (by rw[Nat.mul_one,List.getElem?_map,hy];rfl);refine Ow 3 O (ylt O O) ag (TH (OR 4 O O (ag) (OR 5 O O (ag) (OR 6 O O (ag) (Ow 7 O (PK Ph OS O O ω) ag (OR 9 O O (ag) (OR 10 O O (ag) (Ow 11 O (PK U22 z4i O O ω) ag (Ow 12 O (Pk z0I O) ag (qT 8 O (λ_ h=>Pc QA O O (QD h FE)) ag (qT 13 O (λ_ h=>Pc QA O O (QD h uv)) ag ?_)))))))))));by_cases zV:y<e.2
        ·refine Ow 14 O (ylt O O) ag (TH (Ow 15 O (UT O O) ag (qE (OI O (Ot (Ou (R0 O (PL O (OK O (Om ((ih2 (k+1) _ ⟨ω,λz hz=>?_,aj.trans ag⟩ ω).qb)))))))))));rw[PA hy] at hz;rcases List.mem_append.1 hz with e'|e'
         ·exact kj z e'
         ·rw[List.mem_singleton.1 e'];exact zV
        ·refine Ow 14 O (ylt O O) ag$ TK$ Ow 15 O (UT O O) ag$ qE$ Ox O$ OD O ?_;exact(eC _ _ ⟨k,rfl,hk,kj,λz hz=>(by rw[hy] at hz;cases hz;omega),aj.trans ag⟩).qb
       ·refine Ow 3 O (ylt O O) ag$ TK$ OR 4 O O (ag)$ qJ 5 O (ag)$ qJ 6 O (ag)$ qJ 7 O (ag)$ qJ 8 O (ag)$ qJ 9 O (ag)$ qJ 10 O (ag)$ qJ 11 O (ag)$ qJ 12 O (ag)$ qJ 13 O (ag)$ qJ 14 O (ag)$ Ow 15 O (U0 O O) ag ?_;refine qE$ Ox O$ OD O ?_;exact(eC _ _ ⟨k,rfl,hk,kj,λz hz=>(by rw[List.getElem?_eq_none ω] at hz;cases hz),aj.trans ag⟩).qb
    ·refine TE O (Pu (OX O (OC O (qV (PK U22 z4i O O ω) (OL z0I O (qV (Pc QA O O fJ) (qV (Ps O QA U3 ω) (OC O (TE O (Rf (PC O (Oq (OI O ?_)))))))))))));refine OD O$ R0 O$ PL O$ OK O ?_;exact(ih (i+1,g) _ ⟨ω,eZ,aw,cJ,ae⟩ ω).qb
   ·refine TE O$ Rf$ OC O$ QI$ QI$ QI$ QI$ QQ O$ Oq$ OI O$ OD O$ R0 O$ PL O$ OK O ?_;exact(ih (i+1,g) _ ⟨ω,eZ,aw,cJ,ae⟩ ω).qb
  ·refine OD O$ P7 O$ OK O$ Oo func8 O ?_;exact⟨_,rfl,g,bg,by rw[eZ];rfl,eZ,aw,cJ,ae⟩
def UZ (g:List (List Nat))(v i u:Nat):List Nat:=(List.range v).filter (λx=>decide (u∈OG g x))++(if u∈(OG g v).take i then [v] else [])
def Un (g:List (List Nat))(v i:Nat):List (List Nat):=(List.range g.length).map (UZ g v i)
def Qb (g:List (List Nat)):List (List Nat):=Un g g.length 0
def z5O (g:List (List Nat))(v u:Nat):UZ g v (OG g v).length u=UZ g (v+1) 0 u:=by
 unfold UZ
 rw[List.take_length,List.range_succ,List.filter_append]
 by_cases h:u∈OG g v<;>simp[h]
theorem Tc (g:List (List Nat))(v i:Nat):(Un g v i).length=g.length:=by simp[Un]
theorem Vb (g:List (List Nat))(v i:Nat){u:Nat}(hu:u<g.length):(Un g v i)[u]? =some (UZ g v i u):=by
 unfold Un
 rw[List.getElem?_map,List.getElem?_range hu];rfl
def z8y (g:List (List Nat))(v i u:Nat):(UZ g v i u).length<=v+1:=by
 unfold UZ
 have h1:=List.length_filter_le (λx=>decide (u∈OG g x)) (List.range v)
 rw[List.length_range] at h1
 rw[List.length_append]
 split<;>simp<;>omega
theorem z8S {g:List (List Nat)}(aw:QH g){v i u:Nat}(hu:(OG g v)[i]? =some u):(Un g v i).set u (UZ g v i u++[v])=Un g v (i+1):=by
 have oc:=T5 aw v u (List.mem_of_getElem? hu)
 have ek:u∉(OG g v).take i:=λh=>by
  have iI:v<g.length:=by
   rcases Nat.lt_or_ge v g.length with h| h
   ·exact h
   ·unfold OG at hu;rw[List.getElem?_eq_none h] at hu;cases hu
  have hr:List.Pairwise (·<·) (OG g v):=by
   unfold OG;rw[List.getElem?_eq_getElem iI];exact(aw.ok _ (List.getElem_mem iI)).ris
  have h2:=PA hu;have h3:List.Pairwise (·<·) ((OG g v).take (i+1)):=hr.sublist (List.take_sublist _ _);rw[h2,List.pairwise_append] at h3;have:=h3.2.2 u h u List.mem_cons_self;omega
 apply List.ext_getElem?
 intro x
 by_cases hx:u=x
 ·subst hx;rw[List.getElem?_set_self (by rw[Tc];exact oc),Vb _ _ _ oc]
  congr 1
  unfold UZ;rw[if_neg ek,List.append_nil,PA hu,if_pos ξ]
 ·rw[List.getElem?_set_ne hx];by_cases ku:x<g.length
  ·rw[Vb _ _ _ ku,Vb _ _ _ ku]
   congr 1
   unfold UZ
   congr 1
   rw[PA hu]
   have:x∈(OG g v).take i++[u]↔x∈(OG g v).take i:=by
    rw[List.mem_append,List.mem_singleton];exact⟨λe=>e.resolve_right λe=>hx e.symm,.inl⟩
   simp only[this]
  ·rw[List.getElem?_eq_none (by rw[Tc];omega),List.getElem?_eq_none (by rw[Tc];omega)]
theorem Z6 (g:List (List Nat)){u:Nat}(hu:u<g.length):(Qb g)[u]? =some ((List.range g.length).filter λx=>decide (u∈OG g x)):=by
 unfold Qb
 rw[Vb _ _ _ hu]
 unfold UZ
 rw[List.take_zero,if_neg ξ,List.append_nil]
theorem RF (g:List (List Nat)):(Qb g).length=g.length:=Tc _ _ _
def zaW {g:List (List Nat)}(h:QH g):QH (Qb g):=by
 have hl:=RF g
 have gz:∀l∈Qb g,∃u,l=(List.range g.length).filter λx=>decide (u∈OG g x):=λl hm=>by
  obtain⟨u,hu⟩:=List.getElem?_of_mem hm
  have oc:u<g.length:=by
   rcases Nat.lt_or_ge u g.length with h| h
   ·exact h
   ·rw[List.getElem?_eq_none ω] at hu;cases hu
  rw[Z6 g oc] at hu;exact⟨u,(Rh hu).symm⟩
 have hn:=h.n
 refine⟨λl hm=>?_,λl hm y hy=>?_,ω⟩
 ·obtain⟨u,rfl⟩:=gz l hm;exact⟨(List.pairwise_lt_range).sublist List.filter_sublist,λy hy=>by have:=List.mem_range.1 (List.mem_filter.1 hy).1;omega⟩
 ·obtain⟨u,rfl⟩:=gz l hm;have:=List.mem_range.1 (List.mem_filter.1 hy).1;omega
structure RwA (w:World)(bg B:Nat)(L:List (List Nat)):Prop where
 ex:∃vs:List Value,OE w bg vs 40/\vs.length=L.length/\(∀(i:Nat) (l:List Nat),L[i]? =some l->∃v:Value,vs[i]? =some v/\Sl w v 42 1 l.length (l.map Pn)/\∀b,v.ownBlock=some b->B<=b/\b≠bg)/\∀(i j:Nat) (vi vj:Value) (b:Nat),i≠j->vs[i]? =some vi->vs[j]? =some vj->vi.ownBlock=some b->vj.ownBlock≠some b
section
variable {w w':World}{bg B:Nat}{L:List (List Nat)}
def RwA.new {n:Nat}(h:OE w bg (List.replicate n (.slice none 0 0)) 40):RwA w bg B (List.replicate n []):=by
 refine⟨_,h,ξ,λi l hl=>?_,λi j vi vj b _ hi _ hb=>?_⟩
 ·rw[List.getElem?_replicate] at hl;split at hl
  ·rename_i hi
   cases hl;exact⟨.slice none 0 0,by rw[List.getElem?_replicate,if_pos hi],Sl.nil w _ 1,λb hb=>by cases hb⟩
  ·cases hl
 ·have:=List.mem_of_getElem? hi;rw[List.eq_of_mem_replicate this] at hb;cases hb
theorem RwA.rw (h:RwA w bg B L):RwM w bg B L:=by
 obtain⟨vs,h1,h2,h3,h4⟩:=h.ex
 refine⟨vs,h1,h2,λi l hl=>?_⟩
 obtain⟨v,g1,g2,g3⟩:=h3 i l hl
 obtain⟨a,c,rfl,-⟩:=g2.rd.shape
 refine⟨a,c,g1,?_,g2.rd,g3⟩
 rcases g2.shape with⟨e1,e2⟩|⟨gg,cc,e1,e2⟩
 ·omega
 ·cases e1;exact e2
theorem RwA.put {w2:World}(h:RwA w bg B L){u:Nat}{l l':List Nat}{v v':Value}{vs:List Value}(qq:OE w bg vs 40)(hu:L[u]? =some l)(hv:vs[u]? =some v)(hk:Kp (λb=>v.ownBlock=some b) w w')(hS:Sl w' v' 42 1 l'.length (l'.map Pn))(ho:∀b,v'.ownBlock=some b->v.ownBlock=some b\/w.heap.size<=b)(am:Kp (λb=>b=bg) w' w2)(hB:OE w2 bg (vs.set (0+u*1) v') 40)(vx:B<=w.heap.size):RwA w2 bg B (L.set u l'):=by
 obtain⟨vs0,h1,h2,h3,h4⟩:=h.ex
 have e0:=h1.uniq qq
 subst e0
 rw[Nat.zero_add,Nat.mul_one] at hB
 obtain⟨v0,g1,g2,g3⟩:=h3 u l hu
 rw[hv] at g1
 cases g1
 have ft:=h1.lt
 have su:u<L.length:=by
  rcases Nat.lt_or_ge u L.length with h| h
  ·exact h
  ·rw[List.getElem?_eq_none h] at hu;cases hu
 have AJ:∀b,v'.ownBlock=some b->B<=b/\b≠bg:=λb hb=>by
  rcases ho b hb with e| e
  ·exact g3 b e
  ·omega
 have aN:∀(j:Nat) (vj:Value) (b:Nat),vs0[j]? =some vj->vj.ownBlock=some b->b<w.heap.size:=λj vj b hj hb=>by
  obtain⟨lj,Mj⟩:∃lj,L[j]? =some lj:=⟨_,List.getElem?_eq_getElem (by
   rw[<-h2];rcases Nat.lt_or_ge j vs0.length with h| h
   ·exact h
   ·rw[List.getElem?_eq_none h] at hj;cases hj)⟩
  obtain⟨vj',k1,k2,-⟩:=h3 j lj Mj;rw[hj] at k1;cases k1;exact k2.lt hb
 refine⟨_,hB,by simp[h2],λi li hl=>?_,λi j vi vj b gJ hi hj hb=>?_⟩
 ·by_cases e:u=i
  ·subst e;rw[List.getElem?_set_self su] at hl;cases hl;exact⟨v',List.getElem?_set_self (by rw[h2];exact su),hS.kp am (λb hb e=>(AJ b hb).2 e),AJ⟩
  ·rw[List.getElem?_set_ne e] at hl;obtain⟨vi,k1,k2,k3⟩:=h3 i li hl;exact⟨vi,by rw[List.getElem?_set_ne e];exact k1,(k2.kp hk (λb hb e2=>h4 u i v vi b e hv k1 e2 hb)).kp am (λb hb e=>(k3 b hb).2 e),k3⟩
 ·by_cases ei:u=i
  ·subst ei;rw[List.getElem?_set_self (by rw[h2];exact su)] at hi;cases hi;rw[List.getElem?_set_ne gJ] at hj;intro bP;rcases ho b hb with e| e
   ·exact h4 u j v vj b gJ hv hj e bP
   ·have:=aN j vj b hj bP;omega
  ·rw[List.getElem?_set_ne ei] at hi;by_cases ej:u=j
   ·subst ej;rw[List.getElem?_set_self (by rw[h2];exact su)] at hj;cases hj;intro bP;rcases ho b bP with e| e
    ·exact h4 i u vi v b gJ hi hv hb e
    ·have:=aN i vi b hi hb;omega
   ·rw[List.getElem?_set_ne ej] at hj;exact h4 i j vi vj b gJ hi hj hb
end
def z5w {g:List (List Nat)}(aw:QH g){w:World}{gb go gc:Nat}(hg:GrR w gb go g):P9 prog 22 [.slice (some ⟨gb,go,none⟩) g.length gc] w λv w'=>∃bt,v= .slice (some ⟨bt,0,none⟩) g.length g.length/\RwM w' bt w.heap.size (Qb g)/\Ext w w':=by
 have fg:maxLen=9223372036854775807:=rfl
 have hn:=aw.n
 refine py (e:=[(0,_)]) func22 O ntmps22 O O$ qN O$ QO O$ Ro WS O$ Oy O O (pmk (c:=g.length) (n:=g.length) WS TD O O O ω ω ω) ?_
 rintro _ w1 ⟨bt,rfl,⟨pY,ad,ah⟩,-⟩
 have i7:RwA w1 bt w.heap.size (Un g 0 0):=by
  have e:Un g 0 0=List.replicate g.length []:=by
   apply List.ext_getElem<;>simp[Un,UZ]
  rw[e];exact RwA.new ah
 refine OK O$ An$ QB O$ Ou$ Rw (α:=Nat) (0) (λv=>[(0,.slice (some ⟨gb,go,none⟩) g.length gc),(3,.slice (some ⟨bt,0,none⟩) g.length g.length),(4,I (v:Int))]) (λv w'=>v<=g.length/\RwA w' bt w.heap.size (Un g v 0)/\Ext w w') (λv=>g.length-v) ?hI ?hround
 case hI=>exact⟨Nat.zero_le _,i7,ad⟩
 case hround =>
  rintro v w2 ⟨hv,cJ,ae⟩ ih
  try dsimp only
  refine An$ Qh O$ Ro WS O$ Qv O$ Oq$ OH O (λhq=>?_)$ λhq=>?_
  ·have iI:v<g.length:=by omega
   have eZ:g[v]? =some (OG g v):=by unfold OG;rw[List.getElem?_eq_getElem iI];rfl
   have gG:(OG g v).length<=g.length:=aw.len (List.mem_of_getElem? eZ);refine Ot$ Qt$ QB O$ Ou$ Rw (α:=Nat) (0) (λi=>[(0,.slice (some ⟨gb,go,none⟩) g.length gc),(3,.slice (some ⟨bt,0,none⟩) g.length g.length),(4,I (v:Int)),(5,I (i:Int))]) (λi w'=>i<=(OG g v).length/\RwA w' bt w.heap.size (Un g v i)/\Ext w w') (λi=>(OG g v).length-i) ?hI ?hround
   case hI=>exact⟨Nat.zero_le _,cJ,ae⟩
   case hround=>
    rintro i w3 ⟨hi,iz,aj⟩ ih2;obtain⟨a,c,fU,fJ⟩:=hg v _ eZ;have ag:=Ext.OT w3
    try dsimp only
    refine An$ Qh O$ OC O$ qV (PK WS TD O O ω)$ qV (Pc Ph O O (QD aj fU))$ Ro Ph O$ Qv O$ Oq$ OH O (λgN=>?_)$ λgN=>?_
    ·obtain⟨u,hu⟩:∃u,(OG g v)[i]? =some u:=⟨_,List.getElem?_eq_getElem ω⟩;obtain⟨lb,lo,rfl,Bn⟩:=fJ i u hu;have oc:u<g.length:=T5 aw v u (List.mem_of_getElem? hu);have Iv:=Vb g v i oc;have kI:=z8y g v i u;obtain⟨vs,qq,rB,jF,FG⟩:=id iz.ex;obtain⟨vu,Iw,Mk,Bo⟩:=jF u _ Iv
     have Ml:∀{w':World},Kp (λb=>vu.ownBlock=some b) w3 w'->w'.cell? ⟨bt,0+u*1,none⟩=some vu:=λhk=>by
      rw[(hk.On qq (λe=>(Bo _ e).2 O)).cell,Nat.zero_add,Nat.mul_one];exact Iw
     have z3:=aj.size;refine Ot$ Qt ?_;have Bp:∀{w':World},Kp (λb=>vu.ownBlock=some b) w3 w'->Ext w w':=λhk=>aj.It hk (λb e=>(Bo b e).1);refine OW [23] (λw'=>Kp (λb=>vu.ownBlock=some b) w3 w') (by kernel_rfl) O (PF 0 O O (ag.kp) (PF 1 O O (ag.kp) (PF 2 O O (ag.kp) (P5 3 O (PK WS TD O O ω) (ag.kp) (PF 5 O O (ag.kp) (PF 8 O O (ag.kp) (PF 9 O O (ag.kp) (PF 10 O O (ag.kp) (P5 11 O (PK WS TD O O ω) (ag.kp) (PF 13 O O (ag.kp) (PF 18 O O (ag.kp) (P5 19 O (z3T O U3 QA) (ag.kp) (qL 4 O (λ_ h=>Pc Ph O O (QD (Bp h) fU)) (ag.kp) ?_)))))))))))));refine qL 12 O (λ_ h=>Pc Ph O O (QD (Bp h) fU)) (ag.kp) (P5 6 O (PK Ph OS O O ω) (ag.kp) (P5 14 O (PK Ph OS O O ω) (ag.kp) (qL 7 O (λ_ h=>Pc QA O O (QD (Bp h) Bn)) (ag.kp) (qL 15 O (λ_ h=>Pc QA O O (QD (Bp h) Bn)) (ag.kp) (P5 16 O (PK WS TD O O ω) (ag.kp) (qL 17 O (λ_ h=>Pc Ph O O (Ml h)) (ag.kp) ?_))))));rw[Nat.mod_eq_of_lt (show v<4294967296 by omega)];refine R4 (i:=20) (by kernel_rfl) (Qg (i:=20) O O O (XM (cs:=[_]) (zs:=[Value.int .u32 0]) Ph OS O (by kernel_rfl) O O O ψ) ?_);rintro v4 w4 ⟨b4,rfl,⟨gF,aC,aH⟩,ep⟩;refine⟨ag.kp.trans aC.kp,?_⟩;have dp:=ag.trans aC;refine R4 (i:=21) (by kernel_rfl) (Qg (i:=21) O O O (pap Ph OS O ψ O O (Mk.ext dp) ep.rd (λc hc=>by obtain⟨z,-,rfl⟩:=List.mem_map.1 (show c∈[v].map Pn from hc);rfl) ω ω) ?_);rintro v5 w5 ⟨fP,ai,sV,-⟩;refine⟨dp.kp.trans ai,?_⟩;have jm:Kp (λb=>vu.ownBlock=some b) w3 w5:=dp.kp.trans ai;have z34:=dp.size;have FH:=jm.On qq (λe=>(Bo _ e).2 O);refine P5 22 O (PK WS TD O O ω) (dp.kp.trans ai) (Th [23] (qO 23 (Pt (i:=23) O O (Qw TD O O (Ws fP) FH (by rw[rB,Tc];omega)) ?_)));rintro w6 ⟨aT,aJ⟩;refine⟨trivial,?_⟩;have fC:=iz.put (l':=UZ g v i u++[v]) qq Iv Iw jm (by rw[List.length_append,List.map_append];exact fP) (λb hb=>(sV b hb).imp id λe=>by omega) aJ aT z3;rw[z8S aw hu] at fC;refine qE$ Om$ R0 O$ PL O$ OK O ?_;exact(ih2 (i+1) _ ⟨ω,fC,(aj.It jm (λb e=>(Bo b e).1)).It aJ (λb e=>by omega)⟩ ω).qb
    ·have dq:i=(OG g v).length:=by omega
     subst dq;refine OD O$ Om$ R0 O$ PL O$ OK O ?_
     have e:Un g v (OG g v).length=Un g (v+1) 0:=by
      unfold Un;exact List.map_congr_left λu _=>z5O g v u
     exact(ih (v+1) _ ⟨ω,by rw[<-e];exact iz,aj⟩ ω).qb
  ·have iI:v=g.length:=by omega
   subst iI;refine OD O$ P7 O$ OK O$ Oo func22 O ?_;exact⟨_,rfl,bt,rfl,cJ.rw,ae⟩
end Go.Proofs.YtbihggbffaigjaaGreatDoor
