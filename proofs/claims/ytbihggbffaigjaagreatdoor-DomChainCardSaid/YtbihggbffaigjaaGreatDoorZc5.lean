/- Merged by program. -/
import Derived.Test.YtbihggbffaigjaaGreatDoorZc4
import Derived.WideLaws
set_option linter.all false
set_option maxRecDepth 1000000
set_option maxHeartbeats 16000000
namespace Go.Proofs.YtbihggbffaigjaaGreatDoor
open Go Go.RowKit Go.Proofs.Tryz
def WC (p:Qc)(g:List (List Nat))(E:List (Nat×Nat)):∀(d i:Nat),(Qm p g E i).length<=(Qm p g E (i+d)).length
 |0,i=>Nat.le_refl _
 | d + 1, i => by
   have h:=WC p g E d i;rw[<-Nat.add_assoc,T0,List.length_append];omega
def z6O (p:Qc)(g:List (List Nat))(E:List (Nat×Nat))(n:Nat):Nof (VZ p g E n):=by
 unfold VZ Nof
 rw[List.pairwise_map]
 refine List.pairwise_lt_range.imp fun {i j} gJ=>?_
 have:=WC p g E (j-i) i
 rwa [show i+(j-i)=j by omega] at this
def z06 (p:Qc)(g:List (List Nat))(E:List (Nat×Nat)){n i:Nat}(h:i<=n):(VZ p g E n)[i]? =some (Qm p g E i).length:=by
 unfold VZ
 rw[List.getElem?_map,List.getElem?_range ω];rfl
def zed (p:Qc)(g:List (List Nat))(E:List (Nat×Nat))(n:Nat):∀v∈VZ p g E n,v<=(Qm p g E n).length:=λv hv=>by
 unfold VZ at hv
 obtain⟨j,hj,rfl⟩:=List.mem_map.1 hv
 have h1:=List.mem_range.1 hj
 have:=WC p g E (n-j) j
 rwa [show j+(n-j)=n by omega] at this
def z4l {l:List Nat}(ce:1<=l.length)(hn:l.length<=64)(lX:Nof l){z:Nat}(hz:l[l.length-1]? =some z):(Y0 l (Tz l.length (z+1))).length=(Tz l.length (z+1)).size:=by
 have h1:=z0Y (Tz l.length (z+1)).width lX hz
 have h2:=U8 (Tz l.length (z+1)).width l
 have h3:(RV (Tz l.length (z+1)).width l).length=32:=by
  cases l with
  |nil=>simp at ce
  |cons v l=>simp[RV]
 have h4:(Tz l.length (z+1)).bits=z / 2^(Tz l.length (z+1)).width+l.length:=by
  show(z+1-1) / _+_=_;rw[Nat.add_sub_cancel]
  rfl
 unfold Y0 Fm.size Fm.Uv Fm.high
 rw[List.length_append,List.length_append,List.length_append,Po,Po,Po,Po,List.length_append,bitsN_length,bitsN_length,h1,h2,h3,h4]
 show _=12+(l.length*_+7) / 8+_+4*((l.length+63) / 64)
 have h5:(l.length+63) / 64=1:=by omega
 rw[h5]
def Xl (p:Qc)(g:List (List Nat))(E:List (Nat×Nat)):Ov:=
 hdT ⟨g.length,PG g,p,(Qm p g E g.length).length⟩++P4 (Qm p g E g.length)++Y0 (VZ p g E g.length) (Tz (g.length+1) ((Qm p g E g.length).length+1))
structure zaN (p:Qc)(g:List (List Nat))(E:List (Nat×Nat)):Prop where
 el:E.length=g.length
 ok:zd7 p g E
 bits:(Qm p g E g.length).length<=2688000
def z6r {w:World}{p:Qc}(hp:p.Qj){g:List (List Nat)}(hg:QH g)(bc:1<=g.length){ga:Option Addr}{gc:Nat}(jA:GrM w (.slice ga g.length gc) g)(hG:OE w 1 (S6 .gamma) 314)(hU:OE w 2 (S6 .unary) 314):
  P9 prog 63 [.slice ga g.length gc,bpV p] w λu w'=>∃E,zaN p g E/\u= .tuple #[S (Xl p g E),I 0]/\Ext w w':=by
 have hn:=hg.n
 have tL:=TG hg g.length
 rw[List.take_length] at tL
 refine py (e:=[(0,_),(1,_)]) func63 O ntmps63 O O$ qN O$ Oy O O (R9 O (cs:=UX p) O) ?_
 rintro _ w1 ⟨b3,rfl,dY,ad,ao⟩
 refine Si O$ QO O$ qV (Pa (news:=UX p) U93 O Ru O (ao.cells (n:=5) O) O)$ OQ zji O (z83 hp hg (jA.ext ad) (ad.On hG) (ad.On hU)) ?_
 rintro _ w2 ⟨E,v,rfl,ru,KO,ti,cU,sh,ae⟩
 have aL:=ad.trans ae
 have aa:=Ext.OT w2
 obtain⟨va,vc,rfl,-⟩:=cU.rd.shape
 have xQ:=z6O p g E g.length
 have i8:=zed p g E g.length
 have aB:=z2G p g E g.length
 have rz:=z06 p g E (Nat.le_refl g.length)
 obtain⟨vb,vc2,e5⟩:∃b c,Value.slice va (g.length+1) vc= .slice (some ⟨b,0,none⟩) (g.length+1) c:=by
  rcases cU.shape with⟨-,h0⟩|⟨b,c,e,hc⟩
  ·omega
  ·exact⟨b,c,e⟩
 cases e5
 refine OC O$ qV (Rv (v:=S (P4 (Qm p g E g.length))) O O)$ qV (Rv (v:= .slice (some ⟨vb,0,none⟩) (g.length+1) vc) O O)$ qV (Rv (v:=I 0) O O)$ Si O$ Qd O$ Pz O$ Ql O$ PX O$ An ?_
 have KP:PHd.Qj ⟨g.length,PG g,p,(Qm p g E g.length).length⟩:=⟨bc,(by show g.length<=_;omega),(by show PG g<=_;omega),(by show(Qm p g E g.length).length<=_;omega),hp⟩
 refine R8 (λw'=>Ext w2 w') O$ OR 0 O O (aa)$ Ow 1 O (St WS O) aa$ OR 2 O O (aa)$ OR 5 O O (aa)$ OR 6 O O (aa)$ Ow 7 O (St WS O) aa$ Ow 8 O (PK Z4 S7 O O ω) aa$ qT 4 O (λ_ hS=>Pa (news:=UX p) U93 O Ru O ((hS.On (ae.On ao)).cells (n:=5) O) O) aa$ qT 9 O (λ_ hS=>Pc R7 O O (PM (cU.ext hS).rd (show((VZ p g E g.length).map ON)[g.length]? =some (ON (Qm p g E g.length).length) by rw[List.getElem?_map,rz];rfl))) aa ?_
 refine Ow 10 O (Ps O R7 U3 ω) aa$ SH 3 O zjw O (z6q ((jA.ext aL).ext aa) hg) ?_
 rintro _ w3 ⟨rfl,rfl⟩
 refine⟨aa,?_⟩
 refine Ow 11 O (Sa (cs:=[_,_,_,_,_,_,_,_]) TC O zcR O O) aa$ SH 12 O ziG O (z8q ⟨g.length,PG g,p,(Qm p g E g.length).length⟩ KP _) ?_
 rintro _ w3 ⟨rfl,aj⟩
 refine⟨aa.trans aj,?_⟩
 have eg:=aa.trans aj
 refine OR 13 O O (aa.trans aj)$ qT 14 O (λ_ hS=>Rv (v:=S (hdT ⟨g.length,PG g,p,(Qm p g E g.length).length⟩)) O O) (aa.trans aj)$ Ow 16 O (Rr O) (aa.trans aj)$ Ow 15 O (Rv (v:=I 0) O O) (aa.trans aj)$ Ow 17 O (Rr O) (aa.trans aj)$ qE$ P8.qb (e:=[(4,_),(5,_),(6,_),(7,_),(8,_),(9,_)]) ?_
 refine Pz O$ Ql O ?_
 have DL:Rd w3 (.slice (some ⟨vb,0,none⟩) (VZ p g E g.length).length vc) 1 (VZ p g E g.length).length ((VZ p g E g.length).map ON):=by rw[aB];exact(cU.ext eg).rd
 have hz:(VZ p g E g.length)[(VZ p g E g.length).length-1]? =some (Qm p g E g.length).length:=by rw[aB];exact rz
 have C6:=z4z ω ω xQ (λv hv=>by have:=i8 v hv;omega) DL hz
 have tH:=z4l ω ω xQ hz
 have KQ:(Tz (VZ p g E g.length).length ((Qm p g E g.length).length+1)).size<=40000000:=by
  have h1:=z2T (n:=(VZ p g E g.length).length) (u:=(Qm p g E g.length).length+1) ω ω ω ω;have h2:=Fm.Wt h1;obtain⟨h3,h4,h5⟩:=h1;unfold Fm.size Fm.Uv;omega
 rw[aB] at C6 tH KQ
 have nH:=Wz ⟨g.length,PG g,p,(Qm p g E g.length).length⟩
 have gE:=Po (Qm p g E g.length)
 refine PX O$ P7 O$ OQ zja O (C6) ?_
 rintro _ w4 ⟨rfl,aC⟩
 refine OC O$ qV (Rv (v:=S (Y0 (VZ p g E g.length) (Tz (g.length+1) ((Qm p g E g.length).length+1)))) O O)$ qV (Rv (v:=I 0) O O)$ Si O$ QL O$ OX O$ qV (Yl O O (by first|omega|(simp;done)|(simp;omega))) ?_
 refine OC O$ qV (Yl O O (by first|omega|(simp;done)|(simp;omega))) ?_
 refine OC O$ Qd O$ Oo func63 O ?_
 exact⟨_,rfl,E,⟨ru,KO,ti⟩,rfl,(aL.trans eg).trans aC⟩
/-! ### Bytes of a word, the least first -/
def PN:List Nat->Nat
 |[]=>0
 |b::r=>b+256*PN r
def Vd {s a b c d:Nat}(hb:b<2^s)(hd:d<2^s):(b+2^s*a)&&&(d+2^s*c)=(b&&&d)+2^s*(a&&&c):=by
 apply Nat.eq_of_testBit_eq
 intro j
 have ti:b&&&d<2^s:=Nat.lt_of_le_of_lt Nat.and_le_left hb
 rw[Nat.testBit_and,Nat.add_comm b,Nat.add_comm d,Nat.add_comm (b&&&d),Nat.testBit_two_pow_mul_add _ hb,Nat.testBit_two_pow_mul_add _ hd,Nat.testBit_two_pow_mul_add _ ti]
 by_cases h:j<s
 ·simp only[if_pos h,Nat.testBit_and]
 ·simp only[if_neg h,Nat.testBit_and]
theorem zc5 {s a b m:Nat}(hb:b<2^s)(hm:m<2^s):(b+2^s*a)&&&m=b&&&m:=by
 have:=Vd (a:=a) (c:=0) hb hm
 simpa using this
def z0g (m:Nat)(hm:m<256):∀L:List Nat,(∀b∈L,b<256)->PN L&&&PN (List.replicate L.length m)=PN (L.map (·&&&m))
 |[],_=>by simp[PN]
 | b :: r, h => by
   have ih:=z0g m hm r (λx hx=>h x (List.mem_cons_of_mem b hx));rw[List.length_cons,List.replicate_succ,PN,PN,List.map_cons,PN,<-ih];exact Vd (s:=8) (h b List.mem_cons_self) hm
def z35 (s m:Nat)(hs:s<=8)(hm:m<2^(8-s)):∀L:List Nat,(∀b∈L,b<256)->PN L / 2^s&&&PN (List.replicate L.length m)=PN (L.map λb=>b / 2^s&&&m)
 |[],_=>by simp[PN]
 | b :: r, h => by
   have ih:=z35 s m hs hm r (λx hx=>h x (List.mem_cons_of_mem b hx));have hb:=h b List.mem_cons_self;have e256:256=2^s*2^(8-s):=by rw[<-Nat.pow_add,show s+(8-s)=8 by omega]
   have hp:0<2^s:=Nat.two_pow_pos s;have xR:b / 2^s<2^(8-s):=by rw[Nat.div_lt_iff_lt_mul hp,Nat.mul_comm,<-e256];exact hb
   have e1:(b+256*PN r) / 2^s=b / 2^s+2^(8-s)*PN r:=by
    rw[e256,Nat.mul_assoc,Nat.add_mul_div_left _ _ hp]
   have e2:b / 2^s+2^(8-s)*PN r=(b / 2^s+2^(8-s)*(PN r%2^s))+2^8*(PN r / 2^s):=by
    have h1:=Nat.div_add_mod (PN r) (2^s);have e3:2^8=2^(8-s)*2^s:=by rw[Nat.mul_comm];exact e256
    rw[e3,Nat.mul_assoc,Nat.add_assoc,<-Nat.mul_add,Nat.add_comm (PN r%2^s),h1]
   have h3:b / 2^s+2^(8-s)*(PN r%2^s)<2^8:=by
    have h4:PN r%2^s+1<=2^s:=Nat.mod_lt _ hp;have h5:=Nat.mul_le_mul_left (2^(8-s)) h4;rw[Nat.mul_add,Nat.mul_one] at h5;have e3:2^8=2^(8-s)*2^s:=by rw[Nat.mul_comm];exact e256
    omega
   have KR:m<2^8:=Nat.lt_of_lt_of_le hm (Nat.pow_le_pow_right ψ ω);rw[List.length_cons,List.replicate_succ,PN,PN,List.map_cons,PN,<-ih,e1,e2];have:=Vd (s:=8) (a:=PN r / 2^s) (c:=PN (List.replicate r.length m)) h3 KR;rw[show m+256*PN (List.replicate r.length m)=m+2^8*PN (List.replicate r.length m) from rfl,this,zc5 xR hm]
theorem z0P (f g:Nat->Nat):∀L:List Nat,PN (L.map f)+PN (L.map g)=PN (L.map λb=>f b+g b)
 |[]=>rfl
 | b :: r => by
   rw[List.map_cons,List.map_cons,List.map_cons,PN,PN,PN,<-z0P f g r,Nat.mul_add];omega
def z3z:∀L:List Nat,(∀c∈L,c / 16<=4/\c%16<=4)->(PN L / 16+PN L)&&&PN (List.replicate L.length 15)=PN (L.map λc=>c / 16+c%16)/\PN L%16<=4
 |[],_=>⟨by simp[PN],by simp[PN]⟩
 | c :: r, h => by
   obtain⟨ih,ih2⟩:=z3z r (λx hx=>h x (List.mem_cons_of_mem c hx));obtain⟨h1,h2⟩:=h c List.mem_cons_self;have e:(c+256*PN r) / 16+(c+256*PN r)=(c / 16+16*(PN r%16)+c)+2^8*(PN r / 16+PN r):=by omega
   have aN:c / 16+16*(PN r%16)+c<2^8:=by omega
   have KS:(c / 16+16*(PN r%16)+c)&&&15=c / 16+c%16:=by
    have:=Nat.and_two_pow_sub_one_eq_mod (c / 16+16*(PN r%16)+c) 4;rw[show(2:Nat)^4-1=15 from rfl,show(2:Nat)^4=16 from rfl] at this;rw[this];omega
   refine⟨?_,by rw[PN];omega⟩;rw[List.length_cons,List.replicate_succ,PN,PN,List.map_cons,PN,<-ih,e];have:=Vd (s:=8) (a:=PN r / 16+PN r) (c:=PN (List.replicate r.length 15)) aN (by decide:15<2^8);rw[show 15+256*PN (List.replicate r.length 15)=15+2^8*PN (List.replicate r.length 15) from rfl,this,KS]
def z44:∀L:List Nat,(∀b∈L,b<256)->(OZ (8*L.length) (PN L)).count true=(L.map λb=>(OZ 8 b).count true).sum
 |[],_=>rfl
 | b :: r, h => by
   have ih:=z44 r (λx hx=>h x (List.mem_cons_of_mem b hx));have hb:=h b List.mem_cons_self;rw[List.length_cons,Nat.mul_add,Nat.mul_one,RJ,List.count_append,PN];have e1:(b+256*PN r) / 2^8=PN r:=by omega
   rw[List.map_cons,List.sum_cons,show(OZ 8 (b+256*PN r))=OZ 8 b from W3 ω,e1,ih];omega
def s1B (b:Nat):Nat:=(b / 2&&&85)+(b&&&85)
def s2B (b:Nat):Nat:=(b / 4&&&51)+(b&&&51)
def z8j:∀b:Fin 256,s1B b<256/\s2B (s1B b)<256/\s2B (s1B b) / 16<=4/\s2B (s1B b)%16<=4/\s2B (s1B b) / 16+s2B (s1B b)%16=(OZ 8 b).count true:=by decide+kernel
def Xz {b:Nat}(h:b<256):s1B b<256/\s2B (s1B b)<256/\s2B (s1B b) / 16<=4/\s2B (s1B b)%16<=4/\s2B (s1B b) / 16+s2B (s1B b)%16=(OZ 8 b).count true:=z8j ⟨b,h⟩
def Ze (x:Nat):List Nat:=[x%256,x / 256%256,x / 65536%256,x / 16777216%256,x / 4294967296%256,x / 1099511627776%256,x / 281474976710656%256,x / 72057594037927936%256]
def z6m {x:Nat}(h:x<18446744073709551616):PN (Ze x)=x:=by
 simp only[Ze,PN]
 omega
def z8P (x:Nat):∀b∈Ze x,b<256:=λb hb=>by
 simp only[Ze,List.mem_cons,List.not_mem_nil,or_false] at hb
 rcases hb with rfl|rfl|rfl|rfl|rfl|rfl|rfl|rfl<;>exact Nat.mod_lt _ ψ
def z6w {x:Nat}(h:x<18446744073709551616):∃D:List Nat,D.length=8/\(∀d∈D,d<=8)/\
  ((((x / 2&&&6148914691236517205)+(x&&&6148914691236517205)) / 4&&&3689348814741910323)+(((x / 2&&&6148914691236517205)+(x&&&6148914691236517205))&&&3689348814741910323)) / 16+((((x / 2&&&6148914691236517205)+(x&&&6148914691236517205)) / 4&&&3689348814741910323)+(((x / 2&&&6148914691236517205)+(x&&&6148914691236517205))&&&3689348814741910323))&&&1085102592571150095=PN D/\D.sum=(OZ 64 x).count true:=by
 have hv:=z6m h
 have hl:=z8P x
 have hL:(Ze x).length=8:=rfl
 generalize Ze x=L at hv hl hL
 have m0:6148914691236517205=PN (List.replicate L.length 85):=by rw[hL];rfl
 have m1:3689348814741910323=PN (List.replicate L.length 51):=by rw[hL];rfl
 have m2:1085102592571150095=PN (List.replicate L.length 15):=by rw[hL];rfl
 have f1:=z35 1 85 ψ ψ L hl
 have f2:=z0g 85 ψ L hl
 rw[show(2:Nat)^1=2 from rfl] at f1
 have vJ:∀b∈L.map s1B,b<256:=λb hb=>by
  obtain⟨y,hy,rfl⟩:=List.mem_map.1 hb;exact(Xz (hl y hy)).1
 have e1:(x / 2&&&6148914691236517205)+(x&&&6148914691236517205)=PN (L.map s1B):=by
  rw[m0,<-hv,f1,f2,z0P];rfl
 have f3:=z35 2 51 ψ ψ (L.map s1B) vJ
 have f4:=z0g 51 ψ (L.map s1B) vJ
 rw[show(2:Nat)^2=4 from rfl] at f3
 rw[List.length_map] at f3 f4
 have e2:(PN (L.map s1B) / 4&&&3689348814741910323)+(PN (L.map s1B)&&&3689348814741910323)=PN ((L.map s1B).map s2B):=by
  rw[m1,f3,f4,z0P];rfl
 rw[e1,e2]
 have iV:∀c∈(L.map s1B).map s2B,c / 16<=4/\c%16<=4:=λc hc=>by
  obtain⟨z,hz,rfl⟩:=List.mem_map.1 hc;obtain⟨y,hy,rfl⟩:=List.mem_map.1 hz;have:=Xz (hl y hy);exact⟨this.2.2.1,this.2.2.2.1⟩
 have f5:=(z3z _ iV).1
 rw[List.length_map,List.length_map] at f5
 refine⟨((L.map s1B).map s2B).map λc=>c / 16+c%16,by rw[List.length_map,List.length_map,List.length_map];exact hL,λd hd=>?_,by rw[m2];exact f5,?_⟩
 ·obtain⟨c,hc,rfl⟩:=List.mem_map.1 hd;have:=iV c hc;omega
 ·have tM:=z44 L hl;rw[hL,hv] at tM;rw[show 8*8=64 from rfl] at tM;rw[tM,List.map_map,List.map_map]
  congr 1
  refine List.map_congr_left λb hb=>?_;exact(Xz (hl b hb)).2.2.2.2
def zaX {D:List Nat}(h8:D.length=8)(hd:∀d∈D,d<=8):let x4:=PN D+PN D / 256;let x5:=x4+x4 / 65536;let x6:=x5+x5 / 4294967296;PN D<1152921504606846976/\x6%128=D.sum/\D.sum<=64:=by
 obtain⟨d0,d1,d2,d3,d4,d5,d6,d7,rfl⟩:∃d0 d1 d2 d3 d4 d5 d6 d7,D=[d0,d1,d2,d3,d4,d5,d6,d7]:=by
  match D,h8 with
  |[a,b,c,d,e,f,g,i],_=>exact⟨a,b,c,d,e,f,g,i,rfl⟩
 have k0:=hd d0 ξ
 have k1:=hd d1 ξ
 have k2:=hd d2 ξ
 have k3:=hd d3 ξ
 have k4:=hd d4 ξ
 have k5:=hd d5 ξ
 have k6:=hd d6 ξ
 have k7:=hd d7 ξ
 have h3:PN [d0,d1,d2,d3,d4,d5,d6,d7] / 256=PN [d1,d2,d3,d4,d5,d6,d7]:=by
  rw[PN,Nat.add_mul_div_left _ _ ψ,Nat.div_eq_of_lt ω,Nat.zero_add]
 have h4:PN [d0,d1,d2,d3,d4,d5,d6,d7]+PN [d1,d2,d3,d4,d5,d6,d7]=(d0+d1+256*(d1+d2))+65536*((d2+d3)+256*(d3+d4)+65536*((d4+d5)+256*(d5+d6)+65536*((d6+d7)+256*d7))):=by
  simp only[PN];omega
 have h5:(PN [d0,d1,d2,d3,d4,d5,d6,d7]+PN [d1,d2,d3,d4,d5,d6,d7]) / 65536=(d2+d3)+256*(d3+d4)+65536*((d4+d5)+256*(d5+d6)+65536*((d6+d7)+256*d7)):=by
  rw[h4,Nat.add_mul_div_left _ _ ψ,Nat.div_eq_of_lt ω,Nat.zero_add]
 dsimp only
 rw[h3,h5,h4]
 have h6:(d0+d1+256*(d1+d2))+65536*((d2+d3)+256*(d3+d4)+65536*((d4+d5)+256*(d5+d6)+65536*((d6+d7)+256*d7)))+((d2+d3)+256*(d3+d4)+65536*((d4+d5)+256*(d5+d6)+65536*((d6+d7)+256*d7)))=
   ((d0+d1+d2+d3)+256*(d1+d2+d3+d4)+65536*((d2+d3+d4+d5)+256*(d3+d4+d5+d6)))+4294967296*((d4+d5+d6+d7)+256*(d5+d6+d7)+65536*(d6+d7+256*d7)):=by omega
 rw[h6,Nat.add_mul_div_left _ _ ψ,Nat.div_eq_of_lt ω,Nat.zero_add]
 refine⟨by simp only[PN];omega,?_,by simp only[List.sum_cons,List.sum_nil];omega⟩
 simp only[List.sum_cons,List.sum_nil]
 have h7:(d0+d1+d2+d3)+256*(d1+d2+d3+d4)+65536*((d2+d3+d4+d5)+256*(d3+d4+d5+d6))+4294967296*((d4+d5+d6+d7)+256*(d5+d6+d7)+65536*(d6+d7+256*d7))+((d4+d5+d6+d7)+256*(d5+d6+d7)+65536*(d6+d7+256*d7))=
   (d0+d1+d2+d3+d4+d5+d6+d7)+128*(2*(d1+d2+d3+d4)+512*((d2+d3+d4+d5)+256*(d3+d4+d5+d6))+33554432*((d4+d5+d6+d7)+256*(d5+d6+d7)+65536*(d6+d7+256*d7))+(2*(d5+d6+d7)+512*(d6+d7+256*d7))):=by omega
 rw[h7,Nat.add_mul_mod_self_left,Nat.mod_eq_of_lt ω]
 omega
def z9S (x:Nat)(hx:x<18446744073709551616)(w:World):P9 prog 248 [ON x] w λv w'=>v=I ((OZ 64 x).count true:Int)/\w'=w:=by
 obtain⟨D,h1,h2,h3,h4⟩:=z6w hx
 obtain⟨f1,f2,f3⟩:=zaX h1 h2
 have a1:x / 2&&&6148914691236517205<=6148914691236517205:=Nat.and_le_right
 have a2:x&&&6148914691236517205<=6148914691236517205:=Nat.and_le_right
 rw[<-h4]
 refine py (e:=[(0,_)]) func248 O ntmps248 O O$ qN O$ QO O$ qV (Uk 1 2 O O ψ O)$ qV (Ul O O ω ω)$ OC O$ qV (Ul O O ω ω)$ qV (UL O O)$ QL O ?_
 rw[Nat.mod_eq_of_lt (show(x / 2&&&6148914691236517205)+(x&&&6148914691236517205)<18446744073709551616 by omega)]
 generalize hy:(x / 2&&&6148914691236517205)+(x&&&6148914691236517205)=y at h3
 have pW:y<18446744073709551616:=by omega
 have a3:y / 4&&&3689348814741910323<=3689348814741910323:=Nat.and_le_right
 have a4:y&&&3689348814741910323<=3689348814741910323:=Nat.and_le_right
 refine OC O$ qV (Uk 2 4 O O ψ O)$ qV (Ul O O ω ω)$ OC O$ qV (Ul O O ω ω)$ qV (UL O O)$ QL O ?_
 rw[Nat.mod_eq_of_lt (show(y / 4&&&3689348814741910323)+(y&&&3689348814741910323)<18446744073709551616 by omega)]
 generalize hz:(y / 4&&&3689348814741910323)+(y&&&3689348814741910323)=z at h3
 have mG:z<=7378697629483820646:=by omega
 refine OC O$ qV (Uk 4 16 O O ψ O)$ OC O$ qV (UL O O) ?_
 rw[Nat.mod_eq_of_lt (show z / 16+z<18446744073709551616 by omega)]
 refine qV (Ul O O ω ω)$ QL O ?_
 rw[h3]
 generalize PN D=x3 at f1 f2
 refine OX O$ qV (Uk 8 256 O O ψ O)$ qV (UL O O)$ QL O ?_
 rw[Nat.mod_eq_of_lt (show x3+x3 / 256<18446744073709551616 by omega)]
 generalize aC:x3+x3 / 256=x4 at f2
 have xS:x4<=1157495777000000000:=by omega
 refine OX O$ qV (Uk 16 65536 O O ψ O)$ qV (UL O O)$ OK O$ P8.qb (e:=[(0,_),(2,_)]) ?_
 refine qN O ?_
 rw[Nat.mod_eq_of_lt (show x4+x4 / 65536<18446744073709551616 by omega)]
 generalize aR:x4+x4 / 65536=x5 at f2
 have eW:x5<=1160000000000000000:=by omega
 refine OX O$ qV (Uk 32 4294967296 O O ψ O)$ qV (UL O O)$ QL O ?_
 rw[Nat.mod_eq_of_lt (show x5+x5 / 4294967296<18446744073709551616 by omega)]
 generalize aQ:x5+x5 / 4294967296=x6 at f2
 have KT:x6<=1170000000000000000:=by omega
 refine OC O$ qV (Ps O R7 U3 ω)$ qV (Xf O O ω ω) ?_
 rw[show x6&&&127=D.sum by rw[<-f2];exact Nat.and_two_pow_sub_one_eq_mod x6 7]
 refine OK O$ Oo func248 O ?_
 exact⟨_,rfl,rfl,rfl⟩
def z9h {x:Nat}(hx:x<18446744073709551616):PD x<=64:=QW ω
def z9J (x:Nat)(hx:x<18446744073709551616)(w:World):P9 prog 249 [ON x] w λv w'=>v=I ((64-PD x:Nat):Int)/\w'=w:=by
 have sj:=z9h hx
 refine py (e:=[(0,_)]) func249 O ntmps249 O O$ qN O$ QO O$ OQ z1J O (TZ x hx w) ?_
 rintro _ w ⟨rfl,rfl⟩
 refine Ra O ?_
 rw[show(64:Int)-(PD x:Int)=((64-PD x:Nat):Int) by omega]
 refine OK O$ Oo func249 O ?_
 exact⟨_,rfl,rfl,rfl⟩
def methT (P:Program)(t:TypeId)(name:String):Option FuncId:=match P.info? t with
 | some i => match i.methods.toList.find? (·.name == name) with
   | some m => match m.path.toList, m.func with
     | [], some (f, pr) => match P.underlying t with
       |some (.pointer _)=>cond pr (some f) none
       |some _=>cond pr none (some f)
       |none=>none
     |_,_=>none
   |none=>none
 |none=>none
section
variable {P:Program}{e:Env}{d:Option Nat}{ty t t':TypeId}{pos:String}{aft:Array Edge}{g:Option (Nat×Bool)}{x y:Operand}{w:World}{m n:Nat}
theorem Tu {i:TypeInfo}(h:P.info? t=some i):(typeInfo t).run P w= .ok i w:=by simp[typeInfo,program,Sem.run,h]
theorem z97 {f:FuncId}{name:String}{u:Value}(h:methT P t name=some f)(n:Nat):(method (n+1) t u name).run P w= .ok (f,u) w:=by
 unfold methT at h
 split at h<;>try cases h
 rename_i i hi
 split at h<;>try cases h
 rename_i m hm
 split at h<;>try cases h
 rename_i f' pr jf jg
 have ny:i.methods.find? (·.name==name)=some m:=by rw[<-hm,Array.find?_toList]
 split at h<;>try cases h
 ·rename_i el hu
  cases pr<;>simp at h;subst h;simp[method,Tu hi,ny,jf,follow,jg,receiverAt,run_underlying hu,Place.get]
 ·rename_i td I0 hu
  cases pr<;>simp at h;subst h;unfold method;simp only[Sem.run_bind,Tu hi,Result.andThen_ok,ny,jf,follow,Sem.run_pure,jg,receiverAt,run_underlying hu,Place.get]
def yci {f:FuncId}{nm:String}{args:List Operand}{ts:Array TypeId}{vs:List Value}{u:Value}(hf:CF P f)(hm:methT P t nm=some f)(hx:look e x=some (.iface t u))(ha:looks e args=some vs):
  Yc P e ⟨d,.call ⟨.invoke x nm,args.toArray,ts⟩,ty,pos,aft,g⟩ f (u::vs) w:=fun ρ hρ=>by
 have B8:=λw=>z97 (P:=P) (w:=w) (u:=u) hm (P.types.size+(Made.depth-1))
 rw[show P.types.size+(Made.depth-1)+1=P.types.size+Made.depth from rfl] at B8
 have pu:(program).run P w= .ok P w:=rfl
 have ny:=Tl hρ _ _ ha
 have h0:=hρ _ _ hx
 simp[execOp,resolve,ny,h0,Deferred.ofValue,invoke,callMethod,pu,B8,Te hf]
def zeh (hx:look e x=some (I (m:Int)))(hy:look e y=some (I 7))(hm:m<2^62):Y P e ⟨d,.binOp .andNot t x y t',ty,pos,aft,g⟩ (I ((m / 8*8:Nat):Int)) w w:=fun ρ hρ=>by
 have h1:m<2^IntKind.i64.bits:=by simp only[IntKind.bits];omega
 have h3:m&&&18446744073709551608=m / 8*8:=by
  have h4:=Vd (s:=3) (a:=m / 8) (b:=m%8) (c:=2305843009213693951) (d:=0) (Nat.mod_lt _ ψ) ψ;rw[Nat.and_zero,Nat.zero_add,Nat.zero_add] at h4;have h5:=Nat.and_two_pow_sub_one_eq_mod (m / 8) 61;rw[show(2:Nat)^61-1=2305843009213693951 from rfl,Nat.mod_eq_of_lt ω] at h5;rw[h5,show(2:Nat)^3=8 from rfl,show 8*2305843009213693951=18446744073709551608 from rfl,show m%8+8*(m / 8)=m by omega] at h4;rw[h4];omega
 have h6:(BitVec.ofInt IntKind.i64.bits (m:Int)&&&~~~(BitVec.ofInt IntKind.i64.bits 7)).toNat=m / 8*8:=by
  rw[BitVec.toNat_and,QP h1,show(~~~(BitVec.ofInt IntKind.i64.bits 7)).toNat=18446744073709551608 by decide,h3]
 simp only[execOp,eqGuard_andNot,binOp_andNot,intBits_andNot,hρ _ _ hx,hρ _ _ hy,pure_bind,Sem.run_pure,bits,h6]
 rw[wrap_i64 ⟨ω,ω⟩]
def ziQ {r v q:Nat}(hr:r<=63)(hv:v<2^r)(hq:2^r=q)(hx:look e x=some (.int .u64 ((q+v:Nat):Int)))(hy:look e y=some (.int .u64 (q:Int))):Y P e ⟨d,.binOp .andNot t x y t',ty,pos,aft,g⟩ (.int .u64 (v:Int)) w w:=fun ρ hρ=>by
 subst hq
 have hp:2^r<=2^63:=Nat.pow_le_pow_right ψ hr
 have sj:2^64=2^r*2^(64-r):=by rw[<-Nat.pow_add,show r+(64-r)=64 by omega]
 have h2:2^(64-r)=2*2^(63-r):=by rw[<-Nat.pow_succ',show 64-r=(63-r)+1 by omega]
 have Cn:0<2^(63-r):=Nat.two_pow_pos _
 have h1:2^r+v<2^IntKind.u64.bits:=by simp only[IntKind.bits];omega
 have h3:2^r<2^IntKind.u64.bits:=by simp only[IntKind.bits];omega
 have h4:(2^r+v)&&&(2^64-1-2^r)=v:=by
  have h5:=Vd (s:=r) (a:=1) (b:=v) (c:=2^(64-r)-2) (d:=2^r-1) hv (by have:=Nat.two_pow_pos r;omega);rw[Nat.mul_one,Nat.and_two_pow_sub_one_eq_mod,Nat.mod_eq_of_lt hv,Nat.one_and_eq_mod_two,h2,show(2*2^(63-r)-2)%2=0 by omega,Nat.mul_zero,Nat.add_zero] at h5
  have h6:2^r-1+2^r*(2*2^(63-r)-2)=2^64-1-2^r:=by
   rw[Nat.mul_sub,<-h2,<-sj];have:=Nat.two_pow_pos r;omega
  rw[h6,Nat.add_comm v] at h5;exact h5
 have h6:(BitVec.ofInt IntKind.u64.bits ((2^r+v:Nat):Int)&&&~~~(BitVec.ofInt IntKind.u64.bits ((2^r:Nat):Int))).toNat=v:=by
  rw[BitVec.toNat_and,BitVec.toNat_not,QP h1,QP h3];exact h4
 simp only[execOp,eqGuard_andNot,binOp_andNot,intBits_andNot,hρ _ _ hx,hρ _ _ hy,pure_bind,Sem.run_pure,bits,h6]
 rw[z0n (k:= .u64) O (by simp only[IntKind.bits];omega)]
end
structure Src (t:TypeId)(u:Value)(T:Ov) where
 inv:(Nat->Prop)->World->Prop
 fl:FuncId
 fr:FuncId
 cl:CF prog fl
 cr:CF prog fr
 ml:methT prog t "Length"=some fl
 mr:methT prog t "ReadAt"=some fr
 ext:∀{X Y:Nat->Prop} {w w':World},inv X w->Ext w w'->(∀k,Y k->X k\/w.heap.size<=k)->inv Y w'
 step:∀{X Y S:Nat->Prop} {w w':World},inv X w->Kp S w w'->(∀k,S k->X k)->(∀k,Y k->X k\/w.heap.size<=k)->inv Y w'
 len:∀{X:Nat->Prop} {w:World},inv X w->P9 prog fl [u] w λv w'=>v=I (T.length:Int)/\Ext w w'
 rd:∀{X:Nat->Prop} {w:World} (off n:Nat),inv X w->(∀k,X k->k<w.heap.size)->off+n<=T.length->P9 prog fr [u,I (off:Int),I (n:Int)] w λv w'=>v= .tuple #[S ((T.drop off).take n),I 0]/\inv X w'/\Kp (λk=>¬X k) w w'
def Src.own {t:TypeId}{u:Value}{T:Ov}(R:Src t u T){X S:Nat->Prop}{w w':World}(h:R.inv X w)(hk:Kp S w w')(hS:∀k,S k->X k):R.inv X w':=R.step h hk hS λ_ e=> .inl e
def z0d {s:Ov}{i:Nat}{c:UInt8}(h:s[i]? =some c):Pp (OU (s.take (i+1)))=Pp (OU (s.take i))*256+c.toNat:=by
 rw[PA h,Ye,RE,show OU [c]=OZ 8 c.toNat by simp[OU],PR,bitsN_length]
 have:=c.toNat_lt
 omega
def WJ (s:Ov)(hs:s.length<=8)(w:World):P9 prog 175 [S s] w λv w'=>v=ON (Pp (OU s))/\Ext w w':=by
 refine py (e:=[(0,_)]) func175 O ntmps175 O O$ qN O$ QL O$ OK O$ Pz O$ Oy O O (zbw U9 Qk U5 O) ?_
 rintro _ w1 ⟨b7,c7,rest,rfl,⟨kF,ad,ah⟩,Do⟩
 refine Ro Qk O$ OC O$ Oq$ Ou$ Rw (α:=Nat) (0) (λi=>[(3,ON (Pp (OU (s.take i)))),(7,.slice (some ⟨b7,0,none⟩) s.length c7),(8,I (s.length:Int)),(9,I (i:Int))]) (λi w'=>w'=w1/\i<=s.length) (λi=>s.length-i) ?hI ?hround
 case hI=>exact⟨rfl,Nat.zero_le _⟩
 case hround=>
  rintro i w2 ⟨rfl,hi⟩ ih
  try dsimp only
  refine qN O$ Qv O$ Oq$ An$ OH O (λh0=>?_)$ λh0=>?_
  ·obtain⟨c,hc⟩:∃c,s[i]? =some c:=⟨_,List.getElem?_eq_getElem ω⟩;have eR:=c.toNat_lt;have kg:=z0d hc
   have aN:Pp (OU (s.take i))<72057594037927936:=by
    have h1:=QU (OU (s.take i));rw[bitsT_length,List.length_take] at h1;have h2:2^(8*min i s.length)<=2^56:=Nat.pow_le_pow_right ψ ω;omega
   have aY:w2.cell? ⟨b7,0+i*1,none⟩=some (Tg c):=by
    rw[ah.cell,Nat.zero_add,Nat.mul_one,List.getElem?_append_left (by rw[List.length_map];omega),List.getElem?_map,hc];rfl
   refine Ot$ Qt$ qN O$ qV (PK Qk XN O O ω)$ qV (Pc U5 O O aY) ?_
   generalize Pp (OU (s.take i))=q at kg aN
   refine OK O$ R0 O$ qV (R6 8 256 O O ψ O)$ OC O$ qV ((zam O U5 R7 ψ))$ qV (z0j O O ω ω) ?_
   have oC:(q*256%18446744073709551616 |||c.toNat)=Pp (OU (s.take (i+1))):=by
    rw[kg,Nat.mod_eq_of_lt ω,Nat.mul_comm q];exact(Nat.two_pow_add_eq_or_of_lt (i:=8) eR q).symm
   rw[oC];refine OK O$ Om$ Oz O$ PL O$ OC O$ Oq ?_;exact(ih (i+1) _ ⟨rfl,ω⟩ ω).qb
  ·have dq:i=s.length:=by omega
   subst dq;rw[List.take_length];refine OD O$ P7 O$ OK O$ Oo func175 O ?_;exact⟨_,rfl,rfl,ad⟩
section
variable {P:Program}{e:Env}{d:Option Nat}{ty t t':TypeId}{pos:String}{aft:Array Edge}{g:Option (Nat×Bool)}{x y:Operand}{w:World}
theorem zbL {ms:Array (String×TypeId)}{tx:TypeId}{v:Value}(ht:P.underlying t=some (.interface ms)):(binOp .eql t (.iface tx v) .nilIface).run P w= .ok (.bool false) w:=by
 have h:P.methodsAt t=ms:=by unfold Program.methodsAt;rw[ht]
 exact run_eql_held_nil w t tx v (by rw[h];exact ht)
def zdP {ms:Array (String×TypeId)}{tx:TypeId}{v:Value}(ht:P.underlying t=some (.interface ms))(hx:look e x=some (.iface tx v))(hy:look e y=some .nilIface):Y P e ⟨d,.binOp .eql t x y t',ty,pos,aft,g⟩ (.bool false) w w:=fun ρ hρ=>by
 have hg:∀a b,(eqGuard .eql t a b (.iface tx v) .nilIface).run P w= .ok () w:=λa b=>rfl
 simp only[execOp,hρ _ _ hx,hρ _ _ hy,Sem.run_bind,hg,Result.andThen_ok,zbL ht,Sem.run_pure]
def zgm {tx:TypeId}{v:Value}(hx:look e x=some (.iface tx v)):Y P e ⟨d,.nilCheck x,ty,pos,aft,g⟩ (.iface tx v) w w:=fun ρ hρ=>by simp[execOp,hρ _ _ hx]
end
structure Va (l:List Nat)(f:Fm)(z:Nat):Prop where
 n1:1<=l.length
 n2:l.length<=64
 nof:Nof l
 last:l[l.length-1]? =some z
 zb:z<=999999998
 fe:f=Tz l.length (z+1)
def Va.small {l:List Nat}{f:Fm}{z:Nat}(h:Va l f z):f.small:=by
 rw[h.fe]
 exact z2T h.n1 (by have:=h.n2;omega) ω (by have:=h.zb;omega)
theorem Va.len {l:List Nat}{f:Fm}{z:Nat}(h:Va l f z):(Y0 l f).length=f.size:=by
 rw[h.fe]
 exact z4l h.n1 h.n2 h.nof h.last
theorem Va.n {l:List Nat}{f:Fm}{z:Nat}(h:Va l f z):f.n=l.length:=by rw[h.fe];rfl
theorem Va.u {l:List Nat}{f:Fm}{z:Nat}(h:Va l f z):f.u=z+1:=by rw[h.fe];rfl
def Va.size_le {l:List Nat}{f:Fm}{z:Nat}(h:Va l f z):f.size<=40000000/\12<=f.size:=by
 have h1:=h.small
 have h2:=Fm.Wt h1
 obtain⟨h3,h4,h5⟩:=h1
 unfold Fm.size Fm.Uv
 have:12<=f.high:=by unfold Fm.high;omega
 omega
def piece {A B C:Ov}{off n o:Nat}(h:off=A.length+o)(hn:o+n<=B.length):((A++B++C).drop off).take n=(B.drop o).take n:=by
 rw[h,List.append_assoc,List.drop_length_add_append,List.drop_append_of_le_length ω,List.take_append_of_le_length (by rw[List.length_drop];omega)]
def SW (f:Fm):List Bool:=OZ 32 f.n++OZ 64 f.u
theorem z22 (f:Fm):OU (P4 (SW f))=SW f:=by
 obtain⟨z,h1,h2,h3⟩:=S4 (SW f)
 have hl:(SW f).length=96:=by simp[SW]
 have hz:z=0:=by omega
 rw[h1,hz,List.replicate_zero,List.append_nil]
theorem Uc (f:Fm):(P4 (SW f)).length=12:=by
 rw[Po];simp[SW]
def zeT (f:Fm)(hn:f.n<4294967296):Pp (OU ((P4 (SW f)).take 4))=f.n:=by
 rw[Us,z22]
 unfold SW
 rw[List.take_left' ξ,PR]
 exact Nat.mod_eq_of_lt hn
def zef (f:Fm)(hu:f.u<18446744073709551616):Pp (OU ((P4 (SW f)).drop 4))=f.u:=by
 rw[Tm,z22]
 unfold SW
 rw[List.drop_left' ξ,PR]
 exact Nat.mod_eq_of_lt hu
theorem zbh (l:List Nat)(f:Fm):((Y0 l f).drop 0).take 12=P4 (SW f):=by
 have h:=piece (A:=[]) (B:=P4 (SW f)) (C:=P4 (Sh f.width l)++(P4 (hiB f.width 0 0 l)++P4 (RV f.width l))) (off:=0) (n:=12) (o:=0) O (by rw[Uc];omega)
 rw[List.nil_append] at h
 unfold Y0
 rw[List.append_assoc,List.append_assoc]
 refine h.trans ?_
 rw[List.drop_zero,List.take_of_length_le (by rw[Uc];omega)]
def elC (f:Fm)(t:TypeId)(u:Value):List Value:=[I (f.n:Int),ON f.u,I (f.width:Int),I (f.bits:Int),.iface t u]
def z54 {t:TypeId}{u:Value}{l:List Nat}{f:Fm}{z:Nat}(he:Va l f z)(R:Src t u (Y0 l f)){X:Nat->Prop}{w:World}(hI:R.inv X w)(hX:∀k,X k->k<w.heap.size):
  P9 prog 143 [.iface t u] w λv w'=>∃x,v= .tuple #[ptr x 0,I 0]/\OE w' x (elC f t u) 293/\w.heap.size<=x/\R.inv (λk=>X k\/k=x) w'/\Kp (λk=>¬X k) w w':=by
 obtain⟨dN,dg⟩:=he.size_le
 have aB:=he.len
 have pB:=he.n
 have B6:=he.u
 have jt:=he.n2
 have ce:=he.n1
 have vY:=he.zb
 refine py (e:=[(0,_)]) func143 O ntmps143 O O$ qN O$ Qd O$ Qt$ P7 O$ qV (zdP z63 O O)$ OK O$ Ox O$ P7 O$ Qy O O (yci R.cl R.ml O O) (R.len hI) ?_
 rintro _ w1 ⟨rfl,ad⟩
 rw[aB]
 have kh:=R.ext hI ad (λk hk=> .inl hk)
 have eX:∀k,X k->k<w1.heap.size:=λk hk=>by have:=hX k hk;have:=ad.size;omega
 refine Qv O$ Pu$ OK O$ T2 O$ Om$ P7 O$ Qy O O (yci R.cr R.mr O O) (R.rd 0 12 kh eX (by rw[aB];omega)) ?_
 rintro _ w2 ⟨rfl,cA,am⟩
 rw[zbh]
 have eh:Kp (λk=>¬X k) w w2:=ad.kp.trans am
 have fB:∀k,X k->k<w2.heap.size:=λk hk=>by have:=eX k hk;have:=am.size;omega
 have nH:=Uc f
 have tB:((P4 (SW f)).take 4).length<=8:=by rw[List.length_take];omega
 have mO:((P4 (SW f)).drop 4).length<=8:=by rw[List.length_drop];omega
 have rA:=zeT f ω
 have I1:=zef f ω
 generalize P4 (SW f)=hb at nH tB mO rA I1
 have aa:=Ext.OT w2
 refine OC O$ Sw O$ Qd O$ Pz O$ Ql O$ PX O$ An$ R8 (λw'=>Ext w2 w') O$ OR 0 O O (aa)$ Ow 1 O (z4T U9 O O ω) aa$ OR 3 O O (aa)$ Ow 4 O (z0Q U9 O O ω) aa$ SH 2 O z78 O (WJ (hb.take 4) tB _) ?_
 rintro _ w3 ⟨rfl,aj⟩
 refine⟨aa.trans aj,?_⟩
 refine SH 5 O z78 O (WJ (hb.drop 4) mO _) ?_
 rintro _ w4 ⟨rfl,aC⟩
 refine⟨(aa.trans aj).trans aC,?_⟩
 have cD:=(aa.trans aj).trans aC
 rw[rA,I1]
 have mA:=R.ext cA cD (λk hk=> .inl hk)
 refine Ow 6 O (Rr O) ((aa.trans aj).trans aC)$ Ow 7 O (Rr O) ((aa.trans aj).trans aC)$ qE$ P8.qb (e:=[(0,_),(2,_),(3,_),(6,_),(7,_)]) ?_
 refine Pz O$ Qr O$ Pu$ OX O$ Qr O$ Pu$ PC O$ OX O$ QS O$ Pu$ OC O$ QS O$ Pu$ qV (zd6 O O U4) ?_
 refine PC O$ PX O$ P7 O$ qV (Ps O R7 U3 ω)$ OC O ?_
 have KU:Tz f.n f.u=f:=by rw[pB,B6];exact he.fe.symm
 have jv:=XI f.n f.u ω ω ω ω w4
 rw[KU] at jv
 refine OQ zaq O (jv) ?_
 rintro _ w5 ⟨rfl,aR⟩
 refine Oy O O (Rq (cs:=[_,_,_,_]) Tb O) ?_
 rintro _ w6 ⟨b8,rfl,iW,aQ,bY⟩
 refine OJ O (Py (news:=fmC f) Tb O O O O bY ξ) ?_
 rintro w7 ⟨pX,ax⟩
 replace pX:OE w7 b8 (fmC f) 236:=pX
 have jZ:Ext w5 w7:=aQ.It ax (λi e=>by omega)
 have xT:=aR.trans jZ
 have lF:=R.ext mA xT (λk hk=> .inl hk)
 refine Oq$ An$ qN O$ qV (Pa (news:=fmC f) z3o O Tb O (pX.cells (n:=4) O) O)$ OQ zcQ O (z1V f he.small _) ?_
 rintro _ w8 ⟨rfl,cz⟩
 have DM:=R.ext lF cz (λk hk=> .inl hk)
 refine OC O$ Qy O O (yci R.cl R.ml O O) (R.len DM) ?_
 rintro _ w9 ⟨rfl,fu⟩
 rw[aB]
 have jz:=R.ext DM fu (λk hk=> .inl hk)
 have iw:=cz.trans fu
 have xU:=(cD.trans xT).trans iw
 refine Ql O$ Pu$ Oq$ P8.qb (e:=[(0,_),(2,_),(3,_),(8,_),(51,_)]) ?_
 refine T2 O$ qN O$ qV (Pa (news:=fmC f) z3o O Tb O ((iw.On pX).cells (n:=4) O) O)$ OC O$ qV (Sa (cs:=[_,_,_,_,_]) zic O zfE O O)$ Oy O O (R9 O (cs:=elC f t u) O) ?_
 rintro _ w10 ⟨x,rfl,hx,bI,fm⟩
 refine Qd O$ Oo func143 O ?_
 exact⟨_,rfl,x,rfl,fm,by have:=eh.size;have:=xU.size;omega,R.ext jz bI (λk hk=>hk.imp id λe=>by omega),eh.trans (xU.trans bI).kp⟩
def z8L {t:TypeId}{u:Value}{f:Fm}{x:Nat}{w:World}(hB:OE w x (elC f t u) 293):P9 prog 144 [ptr x 0] w λv w'=>v=I (f.n:Int)/\w'=w:=by
 replace hB:OE w x [I (f.n:Int),ON f.u,I (f.width:Int),I (f.bits:Int),.iface t u] 293:=hB
 refine py (e:=[(0,_)]) func144 O ntmps144 O O$ QB O$ Pz O$ qV (PU z39 O O)$ PX O$ P7 O$ Pb O$ OL S9 O$ OL Yz O$ qV (OB U3 O O hB O)$ OK O$ Oo func144 O ?_
 exact⟨_,rfl,rfl,rfl⟩
theorem zb0 (k:Nat)(a b:List Nat):Sh k (a++b)=Sh k a++Sh k b:=by simp[Sh]
def zbH {k i v:Nat}{l:List Nat}(h:l[i]? =some v)(rest:List Bool):((Sh k l++rest).drop (i*k)).take k=OZ k (v%2^k):=by
 have hi:=(List.getElem?_eq_some_iff.1 h).1
 have e:l=l.take i++(v::l.drop (i+1)):=by
  conv=>lhs;rw[<-List.take_append_drop i l]
  congr 1
  rw[List.drop_eq_getElem_cons hi,(List.getElem?_eq_some_iff.1 h).2]
 have hl:(Sh k (l.take i)).length=i*k:=by rw[U8,List.length_take,Nat.min_eq_left ω]
 rw[e,zb0,List.append_assoc,List.drop_left' hl]
 show((OZ k (v%2^k)++Sh k (l.drop (i+1)))++rest).take k=_
 rw[List.append_assoc,List.take_left' ξ]
def z1r {B:Ov}{o n a m:Nat}(h:a+m<=8*n):((OU ((B.drop o).take n)).drop a).take m=((OU B).drop (8*o+a)).take m:=by
 rw[Us,Tm,List.drop_take,List.drop_drop,List.take_take,Nat.min_eq_left ω]
def zcr (l:List Nat)(f:Fm){o n:Nat}(h:o+n<=(P4 (Sh f.width l)).length):((Y0 l f).drop (12+o)).take n=((P4 (Sh f.width l)).drop o).take n:=by
 unfold Y0
 rw[List.append_assoc (P4 (OZ 32 f.n++OZ 64 f.u)++P4 (Sh f.width l))]
 exact piece (by rw[show P4 (OZ 32 f.n++OZ 64 f.u)=P4 (SW f) from rfl,Uc]) h
def z96 {t:TypeId}{u:Value}{l:List Nat}{f:Fm}{z:Nat}(he:Va l f z)(R:Src t u (Y0 l f)){X:Nat->Prop}{w:World}(hI:R.inv X w)(hX:∀k,X k->k<w.heap.size){x:Nat}(hx:X x)(hB:OE w x (elC f t u) 293){i v:Nat}(hv:l[i]? =some v):
  P9 prog 240 [ptr x 0,I (i:Int)] w λr w'=>r= .tuple #[ON (v%2^f.width),I 0]/\R.inv X w'/\Kp (λk=>¬X k) w w':=by
 have dq:=(List.getElem?_eq_some_iff.1 hv).1
 have aB:=he.len
 obtain⟨wQ,xV⟩:=he.size_le
 have jt:=he.n2
 have vI:f.width<=30:=by rw[he.fe];exact YP (by have:=he.zb;omega)
 replace hB:OE w x [I (f.n:Int),ON f.u,I (f.width:Int),I (f.bits:Int),.iface t u] 293:=hB
 refine py (e:=[(0,_),(1,_)]) func240 O ntmps240 O O$ qN O$ Qd O$ Pz O$ Pb O$ OL S9 O$ OL T7 O$ qV (OB U3 O O hB O)$ QS O$ Oq$ OH O (λh0=>?_)$ λh0=>?_
 ·have mW:f.width=0:=by omega
  refine qN O$ Qd O$ Oo func240 O (⟨_,rfl,?_,hI,Kp.refl _ _⟩);rw[mW,Nat.pow_zero,Nat.mod_one]
  rfl
 ·have HC:1<=f.width:=by omega
  have KV:i*f.width<=64*30:=Nat.mul_le_mul ω vI;have I2:(i+1)*f.width=i*f.width+f.width:=by rw[Nat.add_mul,Nat.one_mul]
  have fg:(i+1)*f.width<=l.length*f.width:=Nat.mul_le_mul_right _ dq;have e1:((i*f.width:Nat):Int)=(i:Int)*(f.width:Int):=Int.natCast_mul _ _;have e2:(((i+1)*f.width:Nat):Int)=((i:Int)+1)*(f.width:Int):=Int.natCast_mul _ _;have hg:=Ext.OT w;refine Ot (An (R8 (λw'=>Ext w w') O (OR 0 O O (hg) (OR 1 O O (hg) (Ow 2 O (Q8 O) hg (Ow 3 O (Pk S9 O) hg (Ow 4 O (Pk T7 O) hg (qT 5 O (λ_ h=>OB U3 O O (h.On hB) O) hg (OR 7 O O (hg) (Ow 8 O (Uw O O ω) hg (OR 9 O O (hg) (Ow 10 O (Q8 O) hg (Ow 11 O (Pk S9 O) hg ?_)))))))))))));refine Ow 12 O (Pk T7 O) hg (qT 13 O (λ_ h=>OB U3 O O (h.On hB) O) hg (Ow 6 O (X5 O O (by rw[<-e1];omega)) hg ?_));rw[<-e1];refine Ow 15 O (Rr O) hg (Ow 14 O (X5 O O (by rw[<-e2];omega)) hg ?_);rw[<-e2,I2];refine Ow 16 O (Rr O) hg$ qE$ P8.qb (e:=[(0,_),(4,_),(5,_),(6,_),(7,_)]) ?_;refine P7 O (Pb O (OL z2N O (qV (OB z63 O O hB O) (OC O (qV (Wq O O ω) (PL O (OC O (PL O (qV (Wq O O ω) (OC O (qV (Wq O O ω) (Ra O ?_))))))))))));have xW:=hg.On hB;have KW:=R.ext hI hg (λk hk=> .inl hk);have KX:∀k,X k->k<w.drew.heap.size:=λk hk=>by have:=hX k hk;have:=hg.size;omega
  have DN:(P4 (Sh f.width l)).length=(l.length*f.width+7) / 8:=by rw[Po,U8]
  have DO:=zbH (k:=f.width) hv;have pj:∀rest,((Sh f.width l++rest).drop (i*f.width)).take f.width=OZ f.width (v%2^f.width):=DO;rw[I2] at fg
  generalize i*f.width=fr at KV fg pj e1
  rw[show(12:Int)+(fr:Int) / 8=((12+fr / 8:Nat):Int) by omega,show((fr+f.width:Nat):Int)+7=((fr+f.width+7:Nat):Int) by omega,show((fr+f.width+7:Nat):Int) / 8-(fr:Int) / 8=(((fr+f.width+7) / 8-fr / 8:Nat):Int) by omega];have tN:fr / 8+((fr+f.width+7) / 8-fr / 8)<=(P4 (Sh f.width l)).length:=by rw[DN];omega
  have ll:=zcr l f tN
  have tO:12+fr / 8+((fr+f.width+7) / 8-fr / 8)<=(Y0 l f).length:=by
   have e:(Y0 l f).length=12+(P4 (Sh f.width l)).length+(P4 (hiB f.width 0 0 l)).length+(P4 (RV f.width l)).length:=by
    unfold Y0;rw[List.length_append,List.length_append,List.length_append,show P4 (OZ 32 f.n++OZ 64 f.u)=P4 (SW f) from rfl,Uc]
   omega
  refine Qy O O (yci R.cr R.mr O O) (R.rd (12+fr / 8) ((fr+f.width+7) / 8-fr / 8) KW KX tO) ?_;rintro _ w1 ⟨rfl,kh,aG⟩;rw[ll];have iy:Kp (λk=>¬X k) w w1:=hg.kp.trans aG;have ah:=iy.On hB (λe=>e hx)
  have gE:(((P4 (Sh f.width l)).drop (fr / 8)).take ((fr+f.width+7) / 8-fr / 8)).length=(fr+f.width+7) / 8-fr / 8:=by
   rw[List.length_take,List.length_drop];omega
  obtain⟨zz,mG,-,-⟩:=S4 (Sh f.width l);have bR:=z1r (B:=P4 (Sh f.width l)) (o:=fr / 8) (n:=(fr+f.width+7) / 8-fr / 8) (a:=fr%8) (m:=f.width) ω;rw[show 8*(fr / 8)+fr%8=fr by omega,mG,pj] at bR
  generalize ((P4 (Sh f.width l)).drop (fr / 8)).take ((fr+f.width+7) / 8-fr / 8)=pt at gE bR
  refine OC O$ Sw O$ Qd O$ Pz O$ Ql O$ Oq$ P8.qb (e:=[(0,_),(4,_),(5,_),(6,_),(8,_),(9,_),(52,_)]) ?_;refine T2 O (P7 O (OQ z7n O (Ww pt ω w1) ?_));rintro _ w2 ⟨r,rfl,cJ,ae,da⟩;refine QL O (OX O (qV (Xf O O ω ω) ?_));rw[show fr&&&7=fr%8 from Nat.and_two_pow_sub_one_eq_mod fr 3];refine OQ zbo O (YZ cJ (fr%8) ω) ?_;rintro _ w3 ⟨rfl,iz,ar⟩;have aU:Ext w1 w3:=ae.It ar (λi e=>by omega);have ao:=aU.On ah;refine qM O (OX O (Pb O (OL S9 O (OL T7 O (qV (OB U3 O O ao O) (OQ z47 O (Vk iz f.width ω) ?_))))));rintro v4 w4 vz
  have gX:v4= .tuple #[ON (v%2^f.width),I 0]/\Kp (λk=>k=r) w3 w4:=by
   rcases vz with⟨-,e,-,hk⟩|⟨e,-,-⟩
   ·rw[bR,PR,Nat.mod_mod] at e;exact⟨e,hk⟩
   ·omega
  obtain⟨rfl,aq⟩:=gX;have dE:Ext w1 w4:=aU.It aq (λi e=>by omega);refine OC O$ Sw O$ Qd O$ P8.qb (e:=[(4,_),(5,_),(11,_)]) ?_;refine P7 O$ Qd O$ Oo func240 O ?_;exact⟨_,rfl,rfl,R.ext kh dE (λk hk=> .inl hk),iy.trans dE.kp⟩
theorem z0A (n:Nat):Pp (List.replicate n false)=0:=by
 rw[<-VF,PR];simp
theorem z3Y (b:List Bool)(k:Nat):Pp (b++List.replicate k false)=Pp b*2^k:=by
 rw[RE,z0A,List.length_replicate,Nat.add_zero]
theorem z2c (b:List Bool)(k:Nat):Pp (List.replicate k false++b)=Pp b:=by
 rw[RE,z0A];simp
theorem z0t {D:List Bool}{a b m:Nat}(ha:m<=D.length+a)(hb:m<=D.length+b):(D++List.replicate a false).take m=(D++List.replicate b false).take m:=by
 rw[List.take_append,List.take_append,List.take_replicate,List.take_replicate,Nat.min_eq_left ω,Nat.min_eq_left ω]
def wdB (H:List Bool)(a:Nat):List Bool:=List.replicate (a%8) false++(H.drop a++List.replicate 64 false).take (64-a%8)
def z6E (H:List Bool)(a:Nat):(wdB H a).length=64:=by
 unfold wdB
 rw[List.length_append,List.length_replicate,List.length_take,List.length_append,List.length_replicate]
 omega
def z7Y {H:List Bool}{fq n:Nat}(hf:8*fq<H.length)(hn:n=min 8 ((H.length+7) / 8-fq)):
  OU (((P4 H).drop fq).take n)++List.replicate (64-8*n) false=(H.drop (8*fq)++List.replicate 64 false).take 64:=by
 obtain⟨z,h1,h2,h3⟩:=S4 H
 rw[Us,Tm,h1,List.drop_append_of_le_length ω]
 have hD:(H.drop (8*fq)).length=H.length-8*fq:=List.length_drop
 generalize H.drop (8*fq)=D at hD
 rcases Nat.lt_or_ge n 8 with h| h
 ·have e:8*n=D.length+z:=by omega
  rw[List.take_of_length_le (by rw[List.length_append,List.length_replicate];omega),List.append_assoc,List.replicate_append_replicate];rw[z0t (a:=64) (b:=z+(64-8*n)) ω ω,List.take_of_length_le (by rw[List.length_append,List.length_replicate];omega)]
 ·have e:n=8:=by omega
  subst e;rw[show 64-8*8=0 from rfl,List.replicate_zero,List.append_nil];exact z0t ω ω
def z89 {W:List Bool}(hW:W.length=64){d:Nat}(hd:d<=64):Pp W%2^(64-d)=Pp (List.replicate d false++W.drop d):=by
 have h1:=RE (W.take d) (W.drop d)
 rw[List.take_append_drop,List.length_drop,hW] at h1
 have h2:=QU (W.drop d)
 rw[List.length_drop,hW] at h2
 rw[z2c,h1,Nat.add_comm,Nat.add_mul_mod_self_right,Nat.mod_eq_of_lt h2]
def z84 {H:List Bool}{a:Nat}(ha:a<H.length):List.replicate (a%8) false++((H.drop (8*(a / 8))++List.replicate 64 false).take 64).drop (a%8)=wdB H a:=by
 unfold wdB
 congr 1
 have hd:a%8<=(H.drop (8*(a / 8))).length:=by rw[List.length_drop];omega
 rw[List.drop_take,List.drop_append_of_le_length hd,List.drop_drop,show 8*(a / 8)+a%8=a by omega]
def za9 {H:List Bool}{a r:Nat}(ha:a<H.length)(hr:a / 8*8+64=H.length+r):∃q,Pp (wdB H a)=q*2^r:=by
 have hD:(H.drop a).length=H.length-a:=List.length_drop
 refine⟨Pp (List.replicate (a%8) false++H.drop a),?_⟩
 rw[<-z3Y]
 congr 1
 unfold wdB
 rw[List.append_assoc,z0t (a:=64) (b:=r) ω ω,List.take_of_length_le (by rw[List.length_append,List.length_replicate];omega)]
theorem z8A {d:Nat}(hd:d<=64):18446744073709551615 / 2^d=2^(64-d)-1:=by
 have hp:0<2^d:=Nat.two_pow_pos d
 have h1:2^64=2^d*2^(64-d):=by rw[<-Nat.pow_add,show d+(64-d)=64 by omega]
 have h2:0<2^(64-d):=Nat.two_pow_pos _
 have h3:18446744073709551615=(2^d-1)+2^d*(2^(64-d)-1):=by
  rw[Nat.mul_sub,<-h1,Nat.mul_one];have h4:2^d<=2^64:=Nat.pow_le_pow_right ψ hd;omega
 rw[h3,Nat.add_mul_div_left _ _ hp,Nat.div_eq_of_lt ω,Nat.zero_add]
def z6F {b:List Bool}(h:b.length=64):Pp b<18446744073709551616:=by
 have:=QU b
 rw[h] at this
 exact this
def zeD (l:List Nat)(f:Fm)(hf:f.high=12+(P4 (Sh f.width l)).length){o n:Nat}(h:o+n<=(P4 (hiB f.width 0 0 l)).length):((Y0 l f).drop (f.high+o)).take n=((P4 (hiB f.width 0 0 l)).drop o).take n:=by
 unfold Y0
 exact piece (by rw[List.length_append,show P4 (OZ 32 f.n++OZ 64 f.u)=P4 (SW f) from rfl,Uc,hf]) h
theorem Va.high {l:List Nat}{f:Fm}{z:Nat}(he:Va l f z):f.high=12+(P4 (Sh f.width l)).length:=by
 unfold Fm.high
 rw[Po,U8,he.n]
theorem Va.bits {l:List Nat}{f:Fm}{z:Nat}(he:Va l f z):f.bits=(hiB f.width 0 0 l).length:=by
 rw[z0Y f.width he.nof he.last]
 rw[he.fe]
 show(z+1-1) / _+_=_
 rw[Nat.add_sub_cancel]
 rfl
def z6u {t:TypeId}{u:Value}{l:List Nat}{f:Fm}{z:Nat}(he:Va l f z)(R:Src t u (Y0 l f)){X:Nat->Prop}{w:World}(hI:R.inv X w)(hX:∀k,X k->k<w.heap.size){x b3 b8 v0:Nat}(hx:X x)(h3:X b3)(h8:X b8)(oB:b8≠x/\b8≠b3)(hB:OE w x (elC f t u) 293)(ao:OE w b3 [ptr x 0] 156)(bY:OE w b8 [ON v0] 39){a:Nat}(ha:a<f.bits):
  P9 prog 247 [I (a:Int),ptr b3 0,ptr b8 0] w λr w'=>r=I 0/\R.inv X w'/\Kp (λk=>¬X k\/k=b8) w w'/\OE w' b8 [ON (Pp (wdB (hiB f.width 0 0 l) a))] 39:=by
 have aB:=he.len
 obtain⟨wQ,xV⟩:=he.size_le
 have tP:=he.small
 have nH:=Fm.Wt tP
 have ft:=tP.2.2
 have bR:=he.bits
 have xX:=he.high
 have gE:(P4 (hiB f.width 0 0 l)).length=(f.bits+7) / 8:=by rw[Po,bR]
 replace hB:OE w x [I (f.n:Int),ON f.u,I (f.width:Int),I (f.bits:Int),.iface t u] 293:=hB
 refine py (e:=[(0,_),(1,_),(2,_)]) func247 O ntmps247 O O$ qN O$ QO O$ qV (zeh O O ω)$ QL O$ qV ((OB z39 O O ao O))$ Pb O$ OL S9 O$ OL Yq O$ qV ((OB U3 O O hB O))$ PL O$ qV (Wq O O ω)$ OC O$ qV (Wq O O ω) ?_
 refine Ra O ?_
 rw[show((f.bits:Int)+7) / 8-((a / 8*8:Nat):Int) / 8=(((f.bits+7) / 8-a / 8:Nat):Int) by omega]
 refine qV (ymi O O) ?_
 rw[show min (8:Int) (((f.bits+7) / 8-a / 8:Nat):Int)=((min 8 ((f.bits+7) / 8-a / 8):Nat):Int) by omega]
 obtain⟨n,hn⟩:∃n,n=min 8 ((f.bits+7) / 8-a / 8):=⟨_,rfl⟩
 rw[<-hn]
 have hg:=Ext.OT w
 refine OK O$ An$ R8 (λw'=>Kp (λk=>¬X k) w w') O$ qT 0 O (λ_ hS=>(OB z39 O O (hS.On ao (λe=>e h3)) O)) (hg.kp)$ Ow 1 O (Q8 O) (hg.kp)$ Ow 2 O (Pk z2N O) (hg.kp)$ qT 3 O (λ_ hS=>(OB z63 O O (hS.On hB (λe=>e hx)) O)) (hg.kp)$ qT 4 O (λ_ hS=>(OB z39 O O (hS.On ao (λe=>e h3)) O)) (hg.kp)$ Ow 5 O (Q8 O) (hg.kp)$ Ow 6 O (Pk S9 O) (hg.kp)$ OR 9 O O (hg.kp)$ Ow 10 O (Wq O O ω) (hg.kp)$ OR 12 O O (hg.kp)$ qT 7 O (λ_ hS=>Pa (news:=fmC f) z3o O Tb O ((hS.On hB (λe=>e hx)).cells (n:=4) O) O) (hg.kp) ?_
 refine Ow 13 O (zgm O) (hg.kp)$ OR 14 O O (hg.kp)$ SH 8 O zdM O (z4y f tP _) ?_
 rintro _ w1 ⟨rfl,ad⟩
 refine⟨(hg.trans ad).kp,?_⟩
 have bT:=hg.trans ad
 refine Ow 11 O (Uw O O ω) ((hg.trans ad).kp) ?_
 rw[show(f.high:Int)+((a / 8*8:Nat):Int) / 8=((f.high+a / 8:Nat):Int) by omega]
 have kh:=R.ext hI bT (λk hk=> .inl hk)
 have eX:∀k,X k->k<w1.heap.size:=λk hk=>by have:=hX k hk;have:=bT.size;omega
 have tN:a / 8+n<=(P4 (hiB f.width 0 0 l)).length:=by rw[gE];omega
 have tO:f.high+a / 8+n<=(Y0 l f).length:=by
  rw[aB];have e:f.size=f.Uv+4*((f.n+63) / 64):=rfl;have e2:f.Uv=f.high+(f.bits+7) / 8:=rfl;omega
 have ll:=zeD l f xX tN
 have nI:=z7Y (H:=hiB f.width 0 0 l) (fq:=a / 8) (n:=n) ω (by rw[<-bR];exact hn)
 refine qO 15$ W9 (i:=15) O O O (yci R.cr R.mr O O) (R.rd (f.high+a / 8) n kh eX tO) ?_
 rintro _ w2 ⟨rfl,cA,am⟩
 refine⟨bT.kp.trans am,?_⟩
 rw[ll]
 have eh:Kp (λk=>¬X k) w w2:=bT.kp.trans am
 have ak:=eh.On hB (λe=>e hx)
 have df:=eh.On ao (λe=>e h3)
 have tt:=eh.On bY (λe=>e h8)
 have DP:(((P4 (hiB f.width 0 0 l)).drop (a / 8)).take n).length=n:=by rw[List.length_take,List.length_drop];omega
 generalize ((P4 (hiB f.width 0 0 l)).drop (a / 8)).take n=pt at nI DP
 refine OR 16 O O (bT.kp.trans am)$ Ow 17 O (Rv O O) (bT.kp.trans am)$ Ow 18 O (Rv O O) (bT.kp.trans am)$ Ow 19 O (Rr O) (bT.kp.trans am)$ Ow 20 O (Rr O) (bT.kp.trans am)$ qE$ P8.qb (e:=[(0,_),(1,_),(2,_),(4,_),(5,_),(6,_),(7,_),(8,_)]) ?_
 refine P7 O$ OQ z78 O (WJ pt ω w2) ?_
 rintro _ w3 ⟨rfl,aj⟩
 refine OC O$ qV (X5 O O ω)$ Ra O ?_
 rw[show(64:Int)-8*(n:Int)=((64-8*n:Nat):Int) by omega]
 refine qV (R6 (64-8*n) (2^(64-8*n)) O O ω O) ?_
 have DQ:=z3Y (OU pt) (64-8*n)
 rw[nI] at DQ
 have KY:((hiB f.width 0 0 l).drop (8*(a / 8))++List.replicate 64 false).take 64=((hiB f.width 0 0 l).drop (8*(a / 8))++List.replicate 64 false).take 64:=rfl
 obtain⟨W0,xY⟩:∃W0,W0=((hiB f.width 0 0 l).drop (8*(a / 8))++List.replicate 64 false).take 64:=⟨_,rfl⟩
 have xZ:W0.length=64:=by rw[xY,List.length_take,List.length_append,List.length_replicate];omega
 have I3:=z84 (H:=hiB f.width 0 0 l) (a:=a) ω
 rw[<-xY] at DQ I3
 have fg:=z89 xZ (d:=a%8) ω
 rw[I3] at fg
 have nK:=z6F xZ
 rw[<-DQ,Nat.mod_eq_of_lt nK]
 refine OJ O (Qw S7 O O O (aj.On tt) ξ) ?_
 rintro w4 ⟨eE,aq⟩
 replace eE:OE w4 b8 [ON (Pp W0)] 39:=eE
 have aH:=aq.On (aj.On ak) (λe=>oB.1 e.symm)
 have dl:=aq.On (aj.On df) (λe=>oB.2 e.symm)
 have mA:=R.own (R.ext cA aj (λk hk=> .inl hk)) aq (λk e=>by rw[e];exact h8)
 have af:=Ext.OT w4
 refine Oq$ An$ OW [6] (λw'=>Ext w4 w') (by kernel_rfl) O$ qL 0 O (λ_ h=>OB R7 O O (h.On eE) O) af$ PF 1 O O (af)$ PF 2 O O (af)$ P5 3 O (X8 O O ω) af ?_
 rw[show(a:Int)-((a / 8*8:Nat):Int)=((a%8:Nat):Int) by omega]
 refine P5 4 O (Uk (m:=18446744073709551615) (a%8) (2^(a%8)) O O (by show a%8<=64;omega) O) af ?_
 rw[z8A (d:=a%8) ω]
 have KZ:2^(64-a%8)<=2^64:=Nat.pow_le_pow_right ψ ω
 refine P5 5 O (Ul O O ω ω) af ?_
 rw[Nat.and_two_pow_sub_one_eq_mod,fg]
 refine Th [6]$ qO 6$ Pt (i:=6) O O (Qw S7 O O O (af.On eE) ξ) ?_
 rintro w5 ⟨bC,ai⟩
 refine⟨trivial,?_⟩
 replace bC:OE w5 b8 [ON (Pp (wdB (hiB f.width 0 0 l) a))] 39:=bC
 have aD:=ai.On (af.On aH) (λe=>oB.1 e.symm)
 have cK:=ai.On (af.On dl) (λe=>oB.2 e.symm)
 have lE:=R.own (R.ext mA af (λk hk=> .inl hk)) ai (λk e=>by rw[e];exact h8)
 have cX:Kp (λk=>¬X k\/k=b8) w w5:=(((eh.OA λk e=> .inl e).trans aj.kp).trans (aq.OA λk e=> .inr e)).trans (af.kp.trans (ai.OA λk e=> .inr e))
 have DR:=z6F (z6E (hiB f.width 0 0 l) a)
 refine qE$ Pz O$ PL O$ qV ((OB z39 O O cK O))$ Pb O$ OL S9 O$ OL Yq O$ qV ((OB U3 O O aD O))$ Ra O$ OK O$ P8.qb (e:=[(2,_),(4,_),(8,_),(9,_)]) ?_
 refine P7 O$ Qr O$ Oq$ OH O (λh0=>?_)$ λh0=>?_
 ·obtain⟨r,hr⟩:∃r,a / 8*8+64=f.bits+r:=⟨a / 8*8+64-f.bits,ω⟩;obtain⟨q,hq⟩:=za9 (H:=hiB f.width 0 0 l) (a:=a) (r:=r) ω ω;rw[show((a / 8*8:Nat):Int)+64-(f.bits:Int)=(r:Int) by omega];have hp:=Nat.two_pow_pos r
  have y5:Pp (wdB (hiB f.width 0 0 l) a) / 2^r*2^r%18446744073709551616=Pp (wdB (hiB f.width 0 0 l) a):=by
   rw[Nat.mod_eq_of_lt (Nat.lt_of_le_of_lt (Nat.div_mul_le_self _ _) DR),hq,Nat.mul_div_cancel _ hp]
  refine Oz O (qV (OB R7 O O bC O) (OC O (qV (Uk r (2^r) O O (by show r<=64;omega) O) ?_)));refine OC O (qV (R6 r (2^r) O O ω O) ?_);rw[y5];refine OJ O (Qw S7 O O O bC ξ) ?_;rintro w6 ⟨ki,aJ⟩;refine qM O$ OC O$ OK O$ Oo func247 O ?_;exact⟨_,rfl,rfl,R.own lE aJ (λk e=>by rw[e];exact h8),cX.trans (aJ.OA λk e=> .inr e),ki⟩
 ·refine Ot$ P7 O$ OK O$ Oo func247 O ?_;exact⟨_,rfl,rfl,lE,cX,bC⟩
def z3S:∀{W:List Bool} {k p:Nat},Rn W k=some p->∃z r,W=List.replicate z false++true::r
 |true::W,k,p,h=>⟨0,W,rfl⟩
 | false :: W, k, p, h => by
   simp only[Rn,Option.map_eq_some_iff] at h;obtain⟨q,hq,-⟩:=h;obtain⟨z,r,e⟩:=z3S hq
   exact⟨z+1,r,by rw[e,List.replicate_succ];rfl⟩
 |[],k,p,h=>by simp[Rn] at h
theorem z65 (z:Nat)(r:List Bool)(k:Nat):Rn (List.replicate z false++true::r) (k+1)=Rn (List.replicate (z+1) false++r) k:=by
 rw[Uf,Uf,Rn,Option.map_map]
 congr 1
 funext j;show j+1+z=j+(z+1);omega
theorem z7U (z:Nat)(r:List Bool):Rn (List.replicate z false++true::r) 0=some z:=by
 rw[Uf,Rn];simp
def z64 (z:Nat)(r:List Bool):PD (Pp (List.replicate z false++true::r))=r.length+1:=by
 rw[XH]
 have:=QU r
 exact z6Q ω (by rw[Nat.pow_succ];omega)
theorem z2e (n:Nat):(List.replicate n false).count true=0:=by
 rw[List.count_replicate];rfl
theorem z29 (H:List Bool)(a:Nat):(wdB H a).count true=((H.drop a).take (64-a%8)).count true:=by
 unfold wdB
 rw[List.count_append,z2e,Nat.zero_add,List.take_append,List.count_append,List.take_replicate,z2e];omega
def zbS {W:List Bool}(h:W.length=64):(OZ 64 (Pp W)).count true=W.count true:=by
 have:=z0F W
 rw[h] at this
 rw[this]
def zbP {H:List Bool}{a k q:Nat}(h:Rn (H.drop a) k=some q)(hk:k<(wdB H a).count true):Rn (wdB H a) k=some (a%8+q):=by
 rw[z29] at hk
 have h1:=W8 ((H.drop a).take (64-a%8)) ((H.drop a).drop (64-a%8)) k
 rw[List.take_append_drop,if_pos hk,h] at h1
 unfold wdB
 rw[Uf,List.take_append,W8,if_pos hk,<-h1]
 show some (q+a%8)=_
 rw[Nat.add_comm]
def z8g {H:List Bool}{a k q:Nat}(h:Rn (H.drop a) k=some q)(hk:(wdB H a).count true<=k):64-a%8<=q/\Rn (H.drop (a / 8*8+64)) (k-(wdB H a).count true)=some (q-(64-a%8)):=by
 rw[z29] at hk⊢
 have h1:=W8 ((H.drop a).take (64-a%8)) ((H.drop a).drop (64-a%8)) k
 rw[List.take_append_drop,if_neg ω,h] at h1
 obtain⟨p,hp,L0⟩:=Option.map_eq_some_iff.1 h1.symm
 have h2:=(z08 hp).1
 rw[List.length_drop] at h2
 rw[List.length_take,Nat.min_eq_left ω] at L0
 rw[List.drop_drop,show a+(64-a%8)=a / 8*8+64 by omega] at hp
 exact⟨ω,by rw[hp];congr 1;omega⟩
def z92 {t:TypeId}{u:Value}{l:List Nat}{f:Fm}{z:Nat}(he:Va l f z)(R:Src t u (Y0 l f)){X:Nat->Prop}{w:World}(hI:R.inv X w)(hX:∀k,X k->k<w.heap.size){x:Nat}(hx:X x)(hB:OE w x (elC f t u) 293){p k q:Nat}(aG:k<=1000000)(hq:Rn ((hiB f.width 0 0 l).drop p) k=some q):
  P9 prog 239 [ptr x 0,I (p:Int),I (k:Int)] w λr w'=>r= .tuple #[I ((p+q:Nat):Int),I 0]/\R.inv X w'/\Kp (λj=>¬X j) w w':=by
 have bR:=he.bits
 have ft:=he.small.2.2
 have dT:=hX x hx
 refine py (e:=[(0,_),(1,_),(2,_)]) func239 O ntmps239 O O$ qN O$ Oy O O (R9 O (cs:=[ptr x 0]) O) ?_
 rintro _ w1 ⟨b3,rfl,dY,ad,ao⟩
 refine Si O$ QL O$ Oy O O (Rq (cs:=[_]) S7 O) ?_
 rintro _ w2 ⟨b8,rfl,iW,ae,bY⟩
 have z1:=ad.size
 have z2:=ae.size
 have l3:=ao.lt
 have l8:=bY.lt
 have aF:=ad.trans ae
 have cA:R.inv (λj=>X j\/j=b3\/j=b8) w2:=R.ext hI aF (λj hj=>by rcases hj with e|e|e;exact .inl e;exact .inr ω;exact .inr ω)
 replace bY:OE w2 b8 [ON 0] 39:=bY
 refine qM O$ qV (ymf (first:=[]) (caps:=[.tmp 3,.tmp 8]) O O)$ OK O$ Pz O$ OK O$ Ou$ Rw (α:=Nat×Nat×Nat×Nat) ((p,k,q,0)) (λy=>[(2,I (y.2.1:Int)),(3,ptr b3 0),(8,ptr b8 0),(9,.func (.func 247) #[] #[ptr b3 0,ptr b8 0]),(10,I (y.1:Int))]) (λy w'=>R.inv (λj=>X j\/j=b3\/j=b8) w'/\Kp (λj=>¬X j) w w'/\w2.heap.size<=w'.heap.size/\OE w' x (elC f t u) 293/\OE w' b3 [ptr x 0] 156/\OE w' b8 [ON y.2.2.2] 39/\Rn ((hiB f.width 0 0 l).drop y.1) y.2.1=some y.2.2.1/\y.1+y.2.2.1=p+q/\y.2.1<=1000000) (λy=>f.bits-y.1) ?hI ?hround
 case hI=>exact⟨cA,aF.kp,Nat.le_refl _,aF.On hB,ae.On ao,bY,hq,rfl,aG⟩
 case hround =>
  rintro⟨a,k4,q4,v4⟩ w4 ⟨mA,aq,I4,aH,dl,eE,cB,D5,y6⟩ ih;dsimp only at mA aq I4 aH dl eE cB D5 y6;have y7:=(z08 cB).1;rw[List.length_drop] at y7;have B9:a<f.bits:=by omega
  have DS:∀j,(X j\/j=b3\/j=b8)->j<w4.heap.size:=λj hj=>by
   rcases hj with e|e| e
   ·have:=hX j e;omega
   ·omega
   ·omega
  have eY:OE w4 x [I (f.n:Int),ON f.u,I (f.width:Int),I (f.bits:Int),.iface t u] 293:=aH
  try dsimp only
  refine Pz O$ qV ((OB z39 O O dl O))$ Pb O$ OL S9 O$ OL Yq O$ qV ((OB U3 O O eY O))$ Qv O$ Oq$ OH O (λh0=>?_)$ λh0=>?_
  ·refine Ot (Qt (An (Qh O (Qy O O (RY zi3 O O) (z6u he R mA DS (.inl hx) (.inr (.inl O)) (.inr (.inr O)) ⟨ω,ω⟩ aH dl eE B9) ?_))));rintro _ w5 ⟨rfl,lE,ai,bC⟩;have z5:=ai.size;have cX:Kp (λj=>¬X j) w w5:=aq.It ai (λj hj=>by rcases hj with e|e;exact .inr (λh=>e (.inl h));exact .inl ω);have aD:=ai.On aH (λe=>by rcases e with e|e;exact e (.inl hx);omega);have cK:=ai.On dl (λe=>by rcases e with e|e;exact e (.inr (.inl O));omega);have y8:=z6E (hiB f.width 0 0 l) a;have y9:=z6F y8;have vK:=zbS y8;have oS:=λh=>zbP (H:=hiB f.width 0 0 l) cB h;have I5:=λh=>z8g (H:=hiB f.width 0 0 l) cB h
   generalize wdB (hiB f.width 0 0 l) a=W at y8 y9 vK oS I5 bC
   have eR:W.count true<=64:=by rw[<-y8];exact List.count_le_length
   refine QO O$ Ql O$ PX O$ An$ qN O$ qV (OB R7 O O bC O)$ OQ zfu O (z9S (Pp W) y9 w5) ?_;rintro _ w5 ⟨rfl,rfl⟩;rw[vK];refine QL O$ OX O$ zle O$ Oq$ OH O (λh1=>?_)$ λh1=>?_
   ·obtain⟨dN,dg⟩:=I5 ω;refine Qh O$ Ra O$ OK O$ OD O$ R0 O ?_;rw[show(k4:Int)-((W.count true:Nat):Int)=((k4-W.count true:Nat):Int) by omega];refine qV (zeh O O ω)$ PL O$ OK O ?_;rw[show((a / 8*8:Nat):Int)+64=((a / 8*8+64:Nat):Int) by omega];exact(ih (a / 8*8+64,k4-W.count true,q4-(64-a%8),Pp W) _ ⟨lE,cX,ω,aD,cK,bC,dg,by dsimp only;omega,by dsimp only;omega⟩ (by dsimp only;omega)).qb
   ·have oQ:=oS ω;refine Ot$ Qt$ Rw (α:=List Bool×Nat) ((W,k4)) (λy=>[(2,I (y.2:Int)),(8,ptr b8 0),(10,I (a:Int))]) (λy w'=>R.inv (λj=>X j\/j=b3\/j=b8) w'/\Kp (λj=>¬X j) w w'/\OE w' b8 [ON (Pp y.1)] 39/\y.1.length=64/\Rn y.1 y.2=some (a%8+q4)/\y.2<=1000000) (λy=>y.2) ?hI ?hround
    case hI=>exact⟨lE,cX,bC,y8,oQ,y6⟩
    case hround=>
     rintro⟨W6,k6⟩ w6 ⟨po,aJ,ki,lz,oT,DT⟩ ih2;dsimp only at po aJ ki lz oT DT;obtain⟨zz,r,rfl⟩:=z3S oT;have ya:=z64 zz r;have L3:=XH zz r;have rB:=QU r;have yb:=z6F lz;rw[List.length_append,List.length_replicate,List.length_cons] at lz
     try dsimp only
     refine Pz O$ Qr O$ Oq$ OH O (λh2=>?_)$ λh2=>?_
     ·obtain⟨k7,rfl⟩:∃k7,k6=k7+1:=⟨k6-1,ω⟩;rw[z65] at oT;have dA:=Ext.OT w6;refine Ot (Qt (OW [6] (λw'=>Ext w6 w') (by kernel_rfl) O (qL 0 O (λ_ h=>OB R7 O O (h.On ki) O) dA (qL 1 O (λ_ h=>OB R7 O O (h.On ki) O) dA (R4 (i:=2) (by kernel_rfl) (RM (i:=2) O O O (yc zdG O) (z9J _ yb _) ?_))))));rintro _ w7 ⟨rfl,rfl⟩;refine⟨dA,?_⟩;rw[ya];refine P5 3 O (X8 O O ω) dA ?_;rw[show(63:Int)-((64-(r.length+1):Nat):Int)=(r.length:Int) by omega];refine P5 4 O (R6 r.length (2^r.length) O O ω O) dA ?_;have gE:2^r.length<=2^63:=Nat.pow_le_pow_right ψ ω;rw[show 1*2^r.length%18446744073709551616=2^r.length by rw[Nat.one_mul];exact Nat.mod_eq_of_lt ω];rw[L3];refine P5 5 O (ziQ ω rB O O O) dA (Th [6] (qO 6 (Pt (i:=6) O O (Qw S7 O O O (dA.On ki) ξ) ?_)));rintro w8 ⟨tQ,aP⟩;refine⟨trivial,?_⟩;replace tQ:OE w8 b8 [ON (Pp r)] 39:=tQ;refine qE$ Om$ R0 O$ Ra O$ OK O ?_;rw[show((k7+1:Nat):Int)-1=(k7:Int) by omega];refine(ih2 (List.replicate (zz+1) false++r,k7) _ ⟨R.own (R.ext po dA (λj hj=> .inl hj)) aP (λj e=> .inr (.inr e)),(aJ.trans dA.kp).It aP (λj e=> .inl ω),?_,?_,oT,by dsimp only;omega⟩ (by dsimp only;omega)).qb
      ·dsimp only;rw[z2c];exact tQ
      ·dsimp only;rw[List.length_append,List.length_replicate];omega
     ·have DU:k6=0:=by omega
      subst DU;rw[z7U] at oT;have NP:zz=a%8+q4:=Rh oT;refine OD O (P7 O (qV (zeh O O ω) (qV (OB R7 O O ki O) (OQ zdG O (z9J _ yb _) ?_))));rintro _ w7 ⟨rfl,rfl⟩;rw[ya];refine PL O ?_;rw[show((a / 8*8:Nat):Int)+((64-(r.length+1):Nat):Int)=((p+q:Nat):Int) by omega];refine Qd O$ Oo func239 O ?_;exact⟨_,rfl,rfl,R.ext po (Ext.refl _) (λj hj=> .inl (.inl hj)),aJ⟩
  ·omega
def zbt (l:List Nat)(f:Fm)(hf:f.Uv=12+(P4 (Sh f.width l)).length+(P4 (hiB f.width 0 0 l)).length)(h4:(P4 (RV f.width l)).length=4):((Y0 l f).drop f.Uv).take 4=P4 (RV f.width l):=by
 have h:=piece (A:=P4 (OZ 32 f.n++OZ 64 f.u)++P4 (Sh f.width l)++P4 (hiB f.width 0 0 l)) (B:=P4 (RV f.width l)) (C:=[]) (off:=f.Uv) (n:=4) (o:=0) (by rw[List.length_append,List.length_append,show P4 (OZ 32 f.n++OZ 64 f.u)=P4 (SW f) from rfl,Uc,hf];omega) ω
 have h2:((P4 (RV f.width l)).drop 0).take 4=P4 (RV f.width l):=by rw[List.drop_zero];exact List.take_of_length_le ω
 rw[List.append_nil] at h
 exact h.trans h2
def zbk {k:Nat}{l:List Nat}{y:Nat}(h:l[0]? =some y)(hy:y<4294967296):Pp (OU (P4 (RV k l)))=y / 2^k/\(P4 (RV k l)).length=4:=by
 obtain⟨r,rfl⟩:∃r,l=y::r:=by
  cases l with
  |nil=>simp at h
  |cons a r=>simp at h;subst h;exact⟨r,rfl⟩
 have hr:RV k (y::r)=OZ 32 (y / 2^k):=rfl
 obtain⟨z,h1,h2,h3⟩:=S4 (OZ 32 (y / 2^k))
 rw[bitsN_length] at h2
 have hz:z=0:=by omega
 rw[hr,h1,hz,List.replicate_zero,List.append_nil,PR,Po,bitsN_length]
 have:=Nat.div_le_self y (2^k)
 exact⟨Nat.mod_eq_of_lt ω,rfl⟩
def z2a {t:TypeId}{u:Value}{l:List Nat}{f:Fm}{z:Nat}(he:Va l f z)(R:Src t u (Y0 l f)){X:Nat->Prop}{w:World}(hI:R.inv X w)(hX:∀k,X k->k<w.heap.size){x:Nat}(hx:X x)(hB:OE w x (elC f t u) 293){i v:Nat}(hv:l[i]? =some v):
  P9 prog 228 [ptr x 0,I (i:Int)] w λr w'=>r= .tuple #[ON v,I 0]/\R.inv X w'/\Kp (λj=>¬X j) w w':=by
 have dq:=(List.getElem?_eq_some_iff.1 hv).1
 have aB:=he.len
 have jt:=he.n2
 have pB:=he.n
 have vY:=he.zb
 have vI:f.width<=30:=by rw[he.fe];exact YP ω
 have tP:=he.small
 have rC:∀j y k y2,l[j]? =some y->l[k]? =some y2->j<=k->y<=y2:=λj y k y2 hj hk DV=>by
  obtain⟨a1,a2⟩:=List.getElem?_eq_some_iff.1 hj;obtain⟨b1,b2⟩:=List.getElem?_eq_some_iff.1 hk;rcases Nat.lt_or_ge j k with h| h
  ·have:=List.pairwise_iff_getElem.1 he.nof j k a1 b1 h
   rwa [a2,b2] at this
  ·have e:j=k:=Nat.le_antisymm DV h;subst e;rw[hj] at hk;cases hk;exact Nat.le_refl _
 have HT:v<=z:=rC i v _ z hv he.last ω
 obtain⟨y0,DW⟩:∃y,l[0]? =some y:=⟨_,List.getElem?_eq_getElem ω⟩
 have DX:y0<=v:=rC 0 y0 i v DW hv (Nat.zero_le _)
 obtain⟨yd,gV⟩:=zbk (k:=f.width) DW ω
 have L4:=zbt l f (by
  have e:f.Uv=f.high+(f.bits+7) / 8:=rfl
  rw[e,he.high,Po (hiB f.width 0 0 l),he.bits]) gV
 have ce:=z1b f.width l 0 0 0 y0 he.nof DW (λy _=>Nat.zero_le _)
 have vL:=z1b f.width l 0 0 i v he.nof hv (λy _=>Nat.zero_le _)
 simp only[Nat.add_zero,Nat.sub_zero] at ce vL
 have ek:=YJ (hiB f.width 0 0 l) 0 (y0 / 2^f.width) i ce
 rw[Nat.zero_add,vL] at ek
 have I6:y0 / 2^f.width<=v / 2^f.width:=Nat.div_le_div_right DX
 have rD:f.Uv+4<=(Y0 l f).length:=by
  rw[aB];have e:f.size=f.Uv+4*((f.n+63) / 64):=rfl;rw[e,pB];omega
 have gG:f.Uv<=40000000:=by have:=he.size_le.1;rw[aB] at rD;omega
 replace hB:OE w x [I (f.n:Int),ON f.u,I (f.width:Int),I (f.bits:Int),.iface t u] 293:=hB
 refine py (e:=[(0,_),(1,_)]) func228 O ntmps228 O O$ qN O$ Qd O$ Qt$ P7 O$ qV (PU z39 O O)$ OK O$ Ox O$ P7 O$ Qv O$ Pu$ OX O$ OC O$ Pb O ?_
 refine OL S9 O$ OL Yz O$ qV (OB U3 O O hB O)$ TE O$ Pu$ PC O$ OK O$ T2 O$ Om$ An ?_
 have hg:=Ext.OT w
 refine R8 (λw'=>Kp (λk=>¬X k) w w') O$ OR 0 O O (hg.kp)$ Ow 1 O (Q8 O) (hg.kp)$ Ow 2 O (Pk z2N O) (hg.kp)$ qT 3 O (λ_ h=>OB z63 O O (h.On hB (λe=>e hx)) O) (hg.kp)$ OR 4 O O (hg.kp)$ Ow 5 O (Q8 O) (hg.kp)$ Ow 6 O (Pk S9 O) (hg.kp)$ OR 9 O O (hg.kp)$ Ow 10 O (Wq O O ω) (hg.kp)$ Ow 11 O (X5 O O ω) (hg.kp)$ qT 7 O (λ_ hS=>Pa (news:=fmC f) z3o O Tb O ((hS.On hB (λe=>e hx)).cells (n:=4) O) O) (hg.kp)$ Ow 13 O (zgm O) (hg.kp)$ OR 14 O O (hg.kp) ?_
 refine SH 8 O zcS O (z3i f tP _) ?_
 rintro _ w1 ⟨rfl,ad⟩
 refine⟨(hg.trans ad).kp,?_⟩
 have bT:=hg.trans ad
 have kh:=R.ext hI bT (λk hk=> .inl hk)
 have eX:∀k,X k->k<w1.heap.size:=λk hk=>by have:=hX k hk;have:=bT.size;omega
 refine Ow 12 O (Uw O O ω) ((hg.trans ad).kp) ?_
 rw[show(f.Uv:Int)+4*((i:Int) / 64)=((f.Uv:Nat):Int) by omega]
 refine qO 15$ W9 (i:=15) O O O (yci R.cr R.mr O O) (R.rd f.Uv 4 kh eX rD) ?_
 rintro _ w2 ⟨rfl,cA,am⟩
 refine⟨bT.kp.trans am,?_⟩
 rw[L4]
 have eh:Kp (λk=>¬X k) w w2:=bT.kp.trans am
 refine OR 16 O O (bT.kp.trans am)$ Ow 17 O (Rv O O) (bT.kp.trans am)$ Ow 18 O (Rv O O) (bT.kp.trans am)$ Ow 19 O (Rr O) (bT.kp.trans am)$ Ow 20 O (Rr O) (bT.kp.trans am)$ qE$ P8.qb (e:=[(0,_),(1,_),(4,_),(5,_),(6,_),(7,_)]) ?_
 refine Pz O$ Ql O$ PX O$ Qh O$ OQ z78 O (WJ (P4 (RV f.width l)) ω w2) ?_
 rintro _ w3 ⟨rfl,aj⟩
 rw[yd]
 have bU:Kp (λk=>¬X k) w w3:=eh.trans aj.kp
 have ye:=R.ext cA aj (λk hk=> .inl hk)
 have oP:∀k,X k->k<w3.heap.size:=λk hk=>by have:=hX k hk;have:=bU.size;omega
 have ao:=bU.On hB (λe=>e hx)
 have L5:y0 / 2^f.width<=y0:=Nat.div_le_self _ _
 have L6:v / 2^f.width<=v:=Nat.div_le_self _ _
 have oC:v / 2^f.width*2^f.width%18446744073709551616 |||v%2^f.width=v:=by
  have h1:=Nat.div_mul_le_self v (2^f.width);rw[Nat.mod_eq_of_lt ω,Nat.mul_comm,<-Nat.two_pow_add_eq_or_of_lt (Nat.mod_lt _ (Nat.two_pow_pos _))];exact Nat.div_add_mod v (2^f.width)
 have i9:v%2^f.width<=v:=Nat.mod_le _ _
 generalize L7:v / 2^f.width=vq at ek I6 L6 oC
 generalize y0 / 2^f.width=yq at ek I6 L5
 refine qV (Ps O R7 U3 ω)$ OC O$ qV (yre O O ω) ?_
 rw[show(i:Int)%64=(i:Int) by omega]
 refine OQ zhi O (z92 he R ye oP hx ao (k:=i) ω ek) ?_
 rintro _ w4 ⟨rfl,mA,aq⟩
 rw[show yq+(vq+i-yq)=vq+i by omega]
 have fE:=bU.trans aq
 have DS:∀k,X k->k<w4.heap.size:=λk hk=>by have:=hX k hk;have:=fE.size;omega
 have aH:=fE.On hB (λe=>e hx)
 refine OC O$ Sw O$ Qd O$ Pz O$ Ql O$ PX O$ Qh O$ OQ zgx O (z96 he R mA DS hx aH hv) ?_
 rintro _ w5 ⟨rfl,lE,ai⟩
 have cX:=fE.trans ai
 have aD:=cX.On hB (λe=>e hx)
 have B6:=he.u
 refine OC O$ Sw O$ Qd O$ P8.qb (e:=[(0,_),(1,_),(4,_),(5,_),(7,_),(8,_),(9,_)]) ?_
 refine Pz O$ Ql O$ PX O$ Qh O$ Ra O ?_
 rw[show((vq+i:Nat):Int)-(i:Int)=(vq:Int) by omega]
 refine qV ((PO O U3 R7 ω))$ OC O$ Pb O$ OL S9 O$ OL T7 O$ qV (OB U3 O O aD O)$ qV (R6 f.width (2^f.width) O O ω O)$ OC O ?_
 have Ba:=Nat.mod_lt (vq*2^f.width) (show 0<18446744073709551616 by decide)
 refine qV (z0j O O ω ω) ?_
 rw[oC]
 refine OK O$ An$ Qh O$ Qv O$ Pu$ OX O$ OC O$ Pb O$ OL S9 O$ OL zcB O$ qV (OB R7 O O aD O)$ TE O$ Pu$ PC O ?_
 refine Oq$ P8.qb (e:=[(4,_),(5,_),(10,_),(93,_)]) ?_
 refine T2 O$ P7 O$ Qd O$ Oo func228 O ?_
 exact⟨_,rfl,rfl,lE,cX⟩
def zav (a b:Ov)(w:World)(hl:(a++b).length<=100000000000):P9 prog 150 [S (a++b),S a] w λu w'=>u= .bool true/\w'=w:=by
 rw[List.length_append] at hl
 have jr:(a++b).length=a.length+b.length:=List.length_append
 have ht:(a++b).take a.length=a:=List.take_left
 refine py (e:=[(0,_),(1,_)]) func150 O ntmps150 O O$ qN O$ QO O$ qV (VX U9 O)$ OC O$ qV (VX U9 O)$ TE O$ Rf$ OX O$ OC O$ qV (VX U9 O)$ qV (z4T U9 O O ω)$ OC O ?_
 rw[ht]
 refine qV (ziz O O)$ Rf$ QQ O$ OK O$ Oo func150 O ?_
 exact⟨_,rfl,rfl,rfl⟩
def zaF (a b:Ov)(w:World)(hl:(a++b).length<=100000000000):P9 prog 202 [S (a++b),S a] w λu w'=>u= .tuple #[S b,.bool true]/\w'=w:=by
 have jr:(a++b).length=a.length+b.length:=List.length_append
 have hd:(a++b).drop a.length=b:=List.drop_left
 refine py (e:=[(0,_),(1,_)]) func202 O ntmps202 O O$ qN O$ Qd O$ An$ Qh O$ OQ zfY O (zav a b w hl) ?_
 rintro _ w ⟨rfl,rfl⟩
 refine qV ((S1 O))$ PX O$ Qh O$ qV (VX U9 O)$ qV (z0Q U9 O O ω) ?_
 rw[hd]
 refine Qd O$ Oo func202 O ?_
 exact⟨_,rfl,rfl,rfl⟩
def z6z (a b:Ov)(w:World)(hl:(a++b).length<=100000000000):P9 prog 170 [S (a++b),S a] w λu w'=>u= .tuple #[S b,.bool true]/\w'=w:=by
 refine py (e:=[(0,_),(1,_)]) func170 O ntmps170 O O$ qN O$ Si O$ QL O$ OX O$ OQ zhz O (zaF a b w hl) ?_
 rintro _ w ⟨rfl,rfl⟩
 refine Sw O$ Qd O$ Oo func170 O ?_
 exact⟨_,rfl,rfl,rfl⟩
def SU {w:World}{r a b6 b7:Nat}{s:Ov}(h:Tx w r s a)(aT:OE w b6 [ptr r 0] 289)(bZ:OE w b7 [.bool false] 4)(h6:b6≠r/\b7≠r/\b6≠b7)(n v:Nat)(hn:n<=64)(hv:v<2^n)(kK:v<=134217728)(rest:List Bool)(hb:(OU s).drop a=OZ n v++rest):
  P9 prog 172 [I (n:Int),ptr b6 0,ptr b7 0] w λu w'=>u=I (v:Int)/\Tx w' r s (a+n)/\OE w' b6 [ptr r 0] 289/\OE w' b7 [.bool false] 4/\Kp (λk=>k=r\/k=b7) w w':=by
 have aB:a+n<=8*s.length:=by
  have e:=congrArg List.length hb;rw[List.length_drop,bitsT_length,List.length_append,bitsN_length] at e;have:=h.2.1;omega
 have nL:Pp (((OU s).drop a).take n)=v:=by
  rw[hb,List.take_left' ξ,PR];exact Nat.mod_eq_of_lt hv
 refine py (e:=[(0,_),(1,_),(2,_)]) func172 O ntmps172 O O$ qN O$ QL O$ qV (OB UU O O aT O)$ OC O$ OQ z47 O (Vk h n hn) ?_
 rintro v1 w1 fw
 have gX:v1= .tuple #[ON v,I 0]/\Tx w1 r s (a+n)/\Kp (λk=>k=r) w w1:=by
  rcases fw with⟨-,e,h1,hk⟩|⟨e,-,-⟩
  ·rw[nL] at e;exact⟨e,h1,hk⟩
  ·omega
 obtain⟨rfl,h1,aG⟩:=gX
 have yf:=aG.On bZ h6.2.1
 have DY:=aG.On aT h6.1
 refine OC O$ Sw O$ Si O$ QL O$ qV (OB U4 O O yf O)$ OX O$ Ql O$ PC O$ OX O$ Qr O$ Pu$ PC O$ OJ O (Qw US O O O yf ξ) ?_
 rintro w2 ⟨ee,am⟩
 refine qM O$ OC O$ qV (Ul O O ω ω) ?_
 rw[show v&&&268435455=v from(Nat.and_two_pow_sub_one_eq_mod v 28).trans (Nat.mod_eq_of_lt ω)]
 refine qV (Ps O R7 U3 ω)$ OK O$ Oo func172 O ?_
 exact⟨_,rfl,rfl,⟨am.On h1.1 (λe=>h6.2.1 e.symm),h1.2⟩,am.On DY h6.2.2,ee,(aG.OA λk e=> .inl e).trans (am.OA λk e=> .inr e)⟩
def SX {s:List Bool}{n v a:Nat}{rest:List Bool}(h:s.drop a=OZ n v++rest):s.drop (a+n)=rest:=by
 rw[<-List.drop_drop,h,List.drop_left' ξ]
def zch (h:PHd):OU (P4 (Rg (YG h)))=OZ 32 h.n++(OZ 32 h.m++(OZ 8 h.p.OY++(OZ 8 h.p.chain++(OZ 8 h.p.interval++(OZ 8 h.p.zeta++(OZ 32 h.p.most++(OZ 64 h.bits++[]))))))):=by
 obtain⟨z,h1,h2,h3⟩:=S4 (Rg (YG h))
 have hl:=Uq h
 have hz:z=0:=by omega
 rw[h1,hz,List.replicate_zero,List.append_nil]
 rfl
def z8f (h:PHd)(hh:h.Qj)(w:World):P9 prog 141 [S (hdT h)] w λu w'=>u= .tuple #[hdV h,I 0]/\Ext w w':=by
 obtain⟨g1,g2,g3,g4,g5⟩:=id hh
 obtain⟨q1,q2,q3⟩:=id g5
 obtain⟨r1,r2,r3,r4⟩:=id q1
 have r1':h.p.OY<=16:=r1
 have r2':h.p.interval<=64:=by
  have:h.p.interval=0\/2<=h.p.interval/\h.p.interval<=64:=r2;omega
 have r4':h.p.zeta<=16:=r4
 have L8:=Wz h
 have pY:=zch h
 rw[show OU (P4 (Rg (YG h)))=(OU (P4 (Rg (YG h)))).drop 0 from List.drop_zero.symm] at pY
 have gE:(P4 (Rg (YG h))).length=24:=by rw[Po,Uq]
 refine py (e:=[(0,_)]) func141 O ntmps141 O O$ qN O$ Oy O O (Rq (cs:=[_,_,_,_,_,_,_,_]) TC O) ?_
 rintro _ w1 ⟨b2,rfl,bP,ad,ak⟩
 refine QO O$ Qy O O (yc (args:=[.tmp 11,.const (Value.string (⟨#[119,116,108,49]⟩))]) zie O) (z6z z6W (P4 (Rg (YG h))) _ (by rw[show z6W++P4 (Rg (YG h))=hdT h from rfl];omega)) ?_
 rintro _ w1 ⟨rfl,rfl⟩
 refine OC O$ Sw O$ Qd O$ Pz O$ qV ((S1 O))$ OX O$ qV (VX U9 O)$ Qv O$ Pu$ PC O$ PX O$ P7 O ?_
 generalize P4 (Rg (YG h))=pt at pY gE
 refine OQ z7n O (Ww pt ω w1) ?_
 rintro _ w2 ⟨r,rfl,cJ,ae,da⟩
 refine Oy O O (Rq (cs:=[_]) z1G O) ?_
 rintro _ w3 ⟨b6,rfl,oD,aj,aT⟩
 refine OJ O (Qw z1G O O O aT ξ) ?_
 rintro w4 ⟨pZ,aq⟩
 replace pZ:OE w4 b6 [ptr r 0] 289:=pZ
 refine qM O$ Oy O O (Rq (cs:=[_]) US O) ?_
 rintro _ w5 ⟨b7,rfl,kF,aR,bZ⟩
 refine OJ O (Qw US O O O bZ ξ) ?_
 rintro w6 ⟨q9,aJ⟩
 replace q9:OE w6 b7 [.bool false] 4:=q9
 have z1:=ad.size
 have z2:=ae.size
 have z3:=aj.size
 have z4:=aq.size
 have z5:=aR.size
 have lr:=cJ.1.lt
 have l6:=pZ.lt
 have l2:=ak.lt
 have tR:=aJ.On (aR.On pZ) ω
 have fC:Tx w6 r pt 0:=⟨aJ.On (aR.On (aq.On (aj.On cJ.1) ω)) ω,cJ.2⟩
 have aZ:Ext w1 w6:=(((ae.trans aj).It aq (λi e=>by omega)).trans aR).It aJ (λi e=>by omega)
 refine qM O$ qV (ymf (first:=[]) (caps:=[.tmp 6,.tmp 7]) O O)$ QO O$ Qy O O (RY ZB O O) (SU fC tR q9 ⟨ω,ω,ω⟩ 32 h.n ψ ω ω _ pY) ?_
 rintro _ v0 ⟨rfl,DZ,yg,yh,yi⟩
 have yj:=SX pY
 refine OC O$ Qy O O (RY ZB O O) (SU DZ yg yh ⟨ω,ω,ω⟩ 32 h.m ψ ω ω _ yj) ?_
 rintro _ v1 ⟨rfl,yk,yl,ym,yn⟩
 have yo:=SX yj
 refine qV (Sa (cs:=[_,_,_,_,_,_,_,_]) TC O zcR O O)$ Oy O O (Rq (cs:=[_,_,_,_,_,_,_,_]) TC O) ?_
 rintro _ w7 ⟨b9,rfl,mS,ci,cR⟩
 have zv1:=yi.size
 have zv2:=yn.size
 have z7:=ci.size
 have z6:=aJ.size
 have l9:=cR.lt
 refine OJ O (Py (news:=[I (h.n:Int),I (h.m:Int),I 0,I 0,I 0,I 0,I 0,I 0]) TC O O O O cR ξ) ?_
 rintro w8 ⟨tS,aP⟩
 replace tS:OE w8 b9 [I (h.n:Int),I (h.m:Int),I 0,I 0,I 0,I 0,I 0,I 0] 153:=tS
 have l7:=q9.lt
 have cz:Ext v1 w8:=ci.It aP (λi e=>by omega)
 have vm:Tx w8 r pt (0+32+32):=⟨cz.On yk.1,yk.2⟩
 have iA:=cz.On yl
 have E0:=cz.On ym
 have oK:Kp (λk=>k=r\/k=b7) w6 w8:=(yi.trans yn).trans cz.kp
 refine Oq$ P8.qb (e:=[(2,_),(3,_),(7,_),(8,_),(9,_)]) ?_
 refine P7 O$ Qy O O (RY ZB O O) (SU vm iA E0 ⟨ω,ω,ω⟩ 8 h.p.OY ψ ω ω _ yo) ?_
 rintro _ v2 ⟨rfl,E1,yp,yr,E2⟩
 have yt:=SX yo
 refine OC O$ Qy O O (RY ZB O O) (SU E1 yp yr ⟨ω,ω,ω⟩ 8 h.p.chain ψ ω ω _ yt) ?_
 rintro _ v3 ⟨rfl,E3,yu,yv,E4⟩
 have yw:=SX yt
 refine OC O$ Qy O O (RY ZB O O) (SU E3 yu yv ⟨ω,ω,ω⟩ 8 h.p.interval ψ ω ω _ yw) ?_
 rintro _ v4 ⟨rfl,E5,yx,yz,E6⟩
 have yA:=SX yw
 refine OC O$ Qy O O (RY ZB O O) (SU E5 yx yz ⟨ω,ω,ω⟩ 8 h.p.zeta ψ ω ω _ yA) ?_
 rintro _ v5 ⟨rfl,E7,yB,yC,E8⟩
 have yD:=SX yA
 refine OC O$ Qy O O (RY ZB O O) (SU E7 yB yC ⟨ω,ω,ω⟩ 32 h.p.most ψ ω ω _ yD) ?_
 rintro _ v6 ⟨rfl,yE,yF,yG,E9⟩
 have yH:=SX yD
 have j4:Kp (λk=>k=r\/k=b7) w8 v6:=(((E2.trans E4).trans E6).trans E8).trans E9
 have Ea:=j4.On tS ω
 refine qV (Sa (cs:=[_,_,_,_,_]) Ru O zcm O O)$ OL Yh O$ OJ O (Py (news:=UX h.p) Ru O O O O Ea ξ) ?_
 rintro w9 ⟨tT,aK⟩
 replace tT:OE w9 b9 [I (h.n:Int),I (h.m:Int),I (h.p.OY:Int),I (h.p.chain:Int),I (h.p.interval:Int),I (h.p.zeta:Int),I (h.p.most:Int),I 0] 153:=tT
 have qI:Tx w9 r pt (0+32+32+8+8+8+8+32):=⟨aK.On yE.1 ω,yE.2⟩
 have iB:=aK.On yF ω
 have Eb:=aK.On yG ω
 refine qM O$ OC O$ Qy O O (RY ZB O O) (SU qI iB Eb ⟨ω,ω,ω⟩ 64 h.bits ψ ω ω _ yH) ?_
 rintro _ v7 ⟨rfl,L9,I7,yI,yJ⟩
 have La:=SX yH
 have Ec:=yJ.On tT ω
 refine OL UD O$ OJ O (Qw PH O O O Ec ξ) ?_
 rintro w10 ⟨kY,aA⟩
 replace kY:OE w10 b9 (hdC h) 153:=kY
 have yK:=aA.On yI ω
 have yL:Kp (λk=>k=r\/k=b7\/k=b9) w6 w10:=((((oK.trans j4).OA λk e=>by omega).trans (aK.OA λk e=>by omega)).trans (yJ.OA λk e=>by omega)).trans (aA.OA λk e=>by omega)
 have gq:Ext w1 w10:=aZ.It yL (λk e=>by omega)
 refine Oq$ An$ qN O$ qV (OB U4 O O yK O)$ OC O$ qV (Pa (news:=hdC h) z6v O TC O (kY.cells (n:=8) O) O)$ OQ zbp O (XB h hh _) ?_
 rintro _ w11 ⟨rfl,aV⟩
 refine Ql O$ PC O$ Oq$ P8.qb (e:=[(2,_),(3,_),(9,_),(51,_)]) ?_
 refine T2 O$ qN O$ qV (Pa (news:=hdC h) z6v O TC O ((aV.On kY).cells (n:=8) O) O) ?_
 have yM:=(gq.trans aV).On ak
 refine OJ O (Py (news:=hdC h) TC O O O O yM ξ) ?_
 rintro w12 ⟨jh,bj⟩
 replace jh:OE w12 b2 (hdC h) 153:=jh
 replace jh:OE w12 b2 [I (h.n:Int),I (h.m:Int),I (h.p.OY:Int),I (h.p.chain:Int),I (h.p.interval:Int),I (h.p.zeta:Int),I (h.p.most:Int),I (h.bits:Int)] 153:=jh
 refine OK O$ P6 func141 (.cell z6v O TC O (OE.cells (n:=8) jh (news:=[_,_,_,_,_,_,_,_]) O) O (.tmp O .nil)) ?_
 exact⟨_,rfl,rfl,((ad.trans gq).trans aV).It bj (λk e=>by omega)⟩
def z8s (h:PHd)(hh:h.Qj)(bP:h.n<=500)(w:World):P9 prog 142 [hdV h] w λu w'=>u= .tuple #[I ((28+(h.bits+7) / 8+(Tz (h.n+1) (h.bits+1)).size:Nat):Int),I 0]/\Ext w w':=by
 obtain⟨g1,g2,g3,g4,g5⟩:=id hh
 have hs:=z2T (n:=h.n+1) (u:=h.bits+1) ω ω ω ω
 have cH:(Tz (h.n+1) (h.bits+1)).size<=40000000:=by
  have h2:=Fm.Wt hs;obtain⟨h3,h4,h5⟩:=hs;unfold Fm.size Fm.Uv;omega
 refine py (e:=[(0,_)]) func142 O ntmps142 O O$ qN O$ Oy O O (R9 O (cs:=hdC h) O) ?_
 rintro _ w1 ⟨b1,rfl,bK,ad,ah⟩
 replace ah:OE w1 b1 [I (h.n:Int),I (h.m:Int),I (h.p.OY:Int),I (h.p.chain:Int),I (h.p.interval:Int),I (h.p.zeta:Int),I (h.p.most:Int),I (h.bits:Int)] 153:=ah
 refine Qd O$ An$ qN O$ qV (Pa (news:=hdC h) z6v O TC O (ah.cells (n:=8) O) O)$ OQ zbp O (XB h hh _) ?_
 rintro _ w2 ⟨rfl,ae⟩
 have bh:=ae.On ah
 refine QO O$ Ql O$ PX O$ qN O$ OL TT O$ qV (OB U3 O O bh O)$ PL O$ OL UD O$ qV (OB U3 O O bh O)$ qV ((PO O U3 R7 ω)) ?_
 rw[show(h.n:Int)+1=((h.n+1:Nat):Int) by omega]
 refine OQ zgD O (z5f (h.n+1) h.bits ω ω ω _) ?_
 rintro _ w3 ⟨rfl,aj⟩
 have cT:=aj.On bh
 refine OC O$ qV (Rv (v:=I ((Tz (h.n+1) (h.bits+1)).size:Int)) O O)$ qV (Rv (v:=I 0) O O) ?_
 generalize (Tz (h.n+1) (h.bits+1)).size=q at cH
 refine Si O$ QL O$ OL UD O$ qV (OB U3 O O cT O)$ PL O$ qV (Wq O O ω)$ PL O$ OC O$ PL O$ OC O$ Qd O$ P8.qb (e:=[(2,_),(3,_)]) ?_
 refine Oo func142 O (⟨_,rfl,?_,(ad.trans ae).trans aj⟩)
 show Value.tuple #[I (28+((h.bits:Int)+7) / 8+(q:Int)),I 0]= .tuple #[I ((28+(h.bits+7) / 8+q:Nat):Int),I 0]
 rw[show(28:Int)+((h.bits:Int)+7) / 8+(q:Int)=((28+(h.bits+7) / 8+q:Nat):Int) by omega]
section
variable {P:Program}{e:Env}{d:Option Nat}{ty t:TypeId}{pos:String}{aft:Array Edge}{g:Option (Nat×Bool)}{x:Operand}{w:World}
def z62 {f:FuncId}{name:String}{u:Value}(h:methT P t name=some f):(nilAhead (P.types.size+Made.depth) t u name).run P w= .ok (some false) w:=by
 rw[show P.types.size+Made.depth=P.types.size+(Made.depth-1)+1 from rfl]
 unfold methT at h
 split at h<;>try cases h
 rename_i i hi
 split at h<;>try cases h
 rename_i m hm
 split at h<;>try cases h
 rename_i f' pr jf jg
 have ny:i.methods.find? (·.name==name)=some m:=by rw[<-hm,Array.find?_toList]
 unfold nilAhead
 split at h<;>try cases h
 ·rename_i el hu
  cases pr<;>simp at h;subst h;simp[Tu hi,ny,jf,followBlind,jg]
 ·rename_i td I0 hu
  cases pr<;>simp at h;subst h;simp only[Sem.run_bind,Tu hi,Result.andThen_ok,ny,jf,followBlind,Sem.run_pure,jg,run_underlying hu];cases td<;>first|exact absurd rfl (I0 _)|rfl
def zhr {td:TypeDesc}{v:Value}(ht:P.underlying t=some td)(hn:∀ms,td≠ .interface ms)(hx:look e x=some v):Y P e ⟨d,.makeInterface t x,ty,pos,aft,g⟩ (.iface t v) w w:=fun ρ hρ=>by
 simp only[execOp,hρ _ _ hx,Instr.makeInterface,Sem.run_bind,run_underlying ht,Result.andThen_ok]
 cases td<;>first|rfl|exact(hn _ rfl).elim
def ymm {nm:String}{v:Value}(hx:look e x=some v):Y P e ⟨d,.makeFunc (.method nm) #[x] #[],ty,pos,aft,g⟩ (.func (.method nm) #[v] #[]) w w:=fun ρ hρ=>by
 simp[execOp,hρ _ _ hx,Instr.makeFunc]
def ziX {f:FuncId}{nm:String}{tx:TypeId}{v:Value}(hm:methT P tx nm=some f)(hx:look e x=some (.func (.method nm) #[.iface tx v] #[])):Y P e ⟨d,.nilCheck x,ty,pos,aft,g⟩ (.func (.method nm) #[.iface tx v] #[]) w w:=fun ρ hρ=>by
 have hn:=z62 (w:=w) (u:=v) hm
 have pu:(program).run P w= .ok P w:=rfl
 simp[execOp,hρ _ _ hx,pu,hn]
end
def Zq (t:TypeId)(u:Value)(a n:Nat):Value:= .agg #[.iface t u,I (a:Int),I (n:Int)]
def z4a (t:TypeId)(u:Value)(a n:Nat)(w:World):P9 prog 293 [Zq t u a n] w λv w'=>v=I (n:Int)/\Ext w w':=by
 unfold Zq
 refine py (e:=[(0,_)]) func293 O ntmps293 O O$ qN O$ Oy O O (R9 O (cs:=[.iface t u,I (a:Int),I (n:Int)]) O) ?_
 rintro _ w1 ⟨b1,rfl,bK,ad,ah⟩
 refine QL O$ OL z2J O$ qV (OB U3 O O ah O)$ OK O$ Oo func293 O ?_
 exact⟨_,rfl,rfl,ad⟩
def z5d {t:TypeId}{u:Value}{T:Ov}(R:Src t u T){X:Nat->Prop}{w:World}(a n:Nat)(oU:a+n<=T.length)(hT:T.length<=100000000000)(off m:Nat)(hI:R.inv X w)(hX:∀k,X k->k<w.heap.size)(h:off+m<=n):
  P9 prog 294 [Zq t u a n,I (off:Int),I (m:Int)] w λv w'=>v= .tuple #[S ((((T.drop a).take n).drop off).take m),I 0]/\R.inv X w'/\Kp (λk=>¬X k) w w':=by
 have e:(((T.drop a).take n).drop off).take m=(T.drop (a+off)).take m:=by
  rw[List.drop_take,List.take_take,List.drop_drop,show min m (n-off)=m by omega]
 rw[e]
 unfold Zq
 refine py (e:=[(0,_),(1,_),(2,_)]) func294 O ntmps294 O O$ qN O$ Oy O O (R9 O (cs:=[.iface t u,I (a:Int),I (n:Int)]) O) ?_
 rintro _ w1 ⟨b1,rfl,bK,ad,ah⟩
 refine Qd O$ Pz O$ Qv O$ OX O$ Qv O$ Pu$ PC O$ OX O$ OL z2J O$ qV (OB U3 O O ah O)$ Qr O$ Pu$ PC O$ OX O ?_
 refine OL z2J O$ qV (OB U3 O O ah O)$ OC O$ Ra O$ Qr O$ Pu$ PC O$ Oq$ P8.qb (e:=[(1,_),(2,_),(3,_),(6,_),(7,_),(27,_)]) ?_
 refine T2 O$ qN O$ OL zbV O$ qV (OB z63 O O ah O)$ OL zc1 O$ qV (OB U3 O O ah O)$ OC O$ PL O$ OC O ?_
 rw[show(a:Int)+(off:Int)=((a+off:Nat):Int) by omega]
 refine Qy O O (yci R.cr R.mr O O) (R.rd (a+off) m (R.ext hI ad (λk hk=> .inl hk)) (λk hk=>by have:=hX k hk;have:=ad.size;omega) ω) ?_
 rintro _ w2 ⟨rfl,cA,am⟩
 refine Sw O$ Qd O$ Oo func294 O ?_
 exact⟨_,rfl,rfl,cA,ad.kp.trans am⟩
def zcN {t:TypeId}{u:Value}{T:Ov}(R:Src t u T)(a n:Nat)(B:Ov)(oU:a+n<=T.length)(hT:T.length<=100000000000)(hB:(T.drop a).take n=B):Src 249 (Zq t u a n) B where
 inv:=R.inv
 fl:=293
 fr:=294
 cl:=zfA
 cr:=zgz
 ml:=by kernel_rfl
 mr:=by kernel_rfl
 ext:=R.ext
 step:=R.step
 len:=fun {X w} h=>by
  have e:B.length=n:=by rw[<-hB,List.length_take,List.length_drop];omega
  rw[e];exact z4a t u a n w
 rd:=fun {X w} off m h hX ho=>by
  have e:B.length=n:=by rw[<-hB,List.length_take,List.length_drop];omega
  rw[<-hB];exact z5d R a n oU hT off m h hX ω
def VN (p:Qc)(g:List (List Nat))(E:List (Nat×Nat)):PHd:=⟨g.length,PG g,p,(Qm p g E g.length).length⟩
def pfm (p:Qc)(g:List (List Nat))(E:List (Nat×Nat)):Fm:=Tz (g.length+1) ((Qm p g E g.length).length+1)
structure SO (p:Qc)(g:List (List Nat))(E:List (Nat×Nat)):Prop where
 Qj:p.Qj
 gr:QH g
 n1:1<=g.length
 pk:zaN p g E
section
variable {p:Qc}{g:List (List Nat)}{E:List (Nat×Nat)}
def SO.head (h:SO p g E):(VN p g E).Qj:=by
 have hn:=h.gr.n
 have hb:=h.pk.bits
 have tL:=TG h.gr g.length
 rw[List.take_length] at tL
 exact⟨h.n1,(by show g.length<=_;omega),(by show PG g<=_;omega),(by show(Qm p g E g.length).length<=_;omega),h.Qj⟩
theorem SO.ef (h:SO p g E):Va (VZ p g E g.length) (pfm p g E) (Qm p g E g.length).length:=by
 have hn:=h.gr.n
 have hb:=h.pk.bits
 have aB:=z2G p g E g.length
 refine⟨ω,ω,z6O p g E g.length,?_,ω,?_⟩
 ·rw[aB,Nat.add_sub_cancel];exact z06 p g E (Nat.le_refl g.length)
 ·rw[aB];rfl
def VY (p:Qc)(g:List (List Nat))(E:List (Nat×Nat)):Nat:=28+((Qm p g E g.length).length+7) / 8
theorem SO.len (h:SO p g E):(Xl p g E).length=VY p g E+(pfm p g E).size:=by
 unfold Xl VY
 rw[List.length_append,List.length_append,Wz,Po]
 have:=h.ef.len
 show _+(Y0 (VZ p g E g.length) (pfm p g E)).length=_
 rw[this]
def SO.small (h:SO p g E):(Xl p g E).length<=50000000/\40<=(Xl p g E).length:=by
 have h1:=h.ef.size_le
 have h2:=h.len
 have h3:=h.pk.bits
 unfold VY at h2
 omega
theorem zcJ:((Xl p g E).drop 0).take 28=hdT (VN p g E):=by
 unfold Xl
 rw[List.drop_zero,List.append_assoc,<-Wz (VN p g E)]
 exact List.take_left
theorem SO.index (h:SO p g E):((Xl p g E).drop (VY p g E)).take (pfm p g E).size=Y0 (VZ p g E g.length) (pfm p g E):=by
 have h1:(hdT (VN p g E)++P4 (Qm p g E g.length)).length=VY p g E:=by
  rw[List.length_append,Wz,Po];rfl
 have h2:=h.ef.len
 unfold Xl
 show((hdT (VN p g E)++P4 (Qm p g E g.length)++Y0 (VZ p g E g.length) (pfm p g E)).drop _).take _=_
 rw[<-h1,List.drop_left,<-h2,List.take_length]
theorem zc9 (h:SO p g E)(a n:Nat)(hn:8*(a+n)<=(Qm p g E g.length).length+7):((Xl p g E).drop (28+a)).take n=((P4 (Qm p g E g.length)).drop a).take n:=by
 unfold Xl
 exact piece (by rw[Wz]) (by rw[Po];omega)
end
def gwC (h:PHd)(t:TypeId)(u:Value)(x:Nat):List Value:=[I (h.n:Int),I (h.m:Int),I (h.p.OY:Int),I (h.p.chain:Int),I (h.p.interval:Int),I (h.p.zeta:Int),I (h.p.most:Int),I (h.bits:Int),.iface t u,ptr x 0]
def z6f {t:TypeId}{u:Value}{p:Qc}{g:List (List Nat)}{E:List (Nat×Nat)}(hp:SO p g E)(R:Src t u (Xl p g E)){X:Nat->Prop}{w:World}(hI:R.inv X w)(hX:∀k,X k->k<w.heap.size):
  P9 prog 107 [.iface t u] w λv w'=>∃k x,v= .tuple #[ptr k 0,I 0]/\OE w' k (gwC (VN p g E) t u x) 158/\OE w' x (elC (pfm p g E) 249 (Zq t u (VY p g E) (pfm p g E).size)) 293/\w.heap.size<=x/\w.heap.size<=k/\x≠k/\R.inv (λj=>X j\/j=x\/j=k) w'/\Kp (λj=>¬X j) w w':=by
 have aB:=hp.len
 obtain⟨dN,dg⟩:=hp.small
 have hn:=hp.gr.n
 have ce:=hp.n1
 have qR:=hp.pk.bits
 have hg:=Ext.OT w
 have rE:=hp.head
 have Ed:(VN p g E).bits=(Qm p g E g.length).length:=rfl
 have NQ:VY p g E=28+((VN p g E).bits+7) / 8:=rfl
 have NR:(VN p g E).n=g.length:=rfl
 refine py (e:=[(0,_)]) func107 O ntmps107 O O$ qN O$ Qd O$ Pz O$ qV (zdP z63 O O)$ PX O$ An$ R8 (λw'=>R.inv X w'/\Kp (λk=>¬X k) w w') O$ OR 0 O O (⟨R.ext hI hg (λk hk=> .inl hk),hg.kp⟩)$ OR 1 O O (⟨R.ext hI hg (λk hk=> .inl hk),hg.kp⟩)$ Ow 4 O (ymm O) (⟨R.ext hI hg (λk hk=> .inl hk),hg.kp⟩)$ Ow 5 O (ziX R.mr O) (⟨R.ext hI hg (λk hk=> .inl hk),hg.kp⟩)$ OR 6 O O (⟨R.ext hI hg (λk hk=> .inl hk),hg.kp⟩)$ qO 2 ?_
 refine W9 (i:=2) O O O (yci R.cl R.ml O O) (R.len (R.ext hI hg (λk hk=> .inl hk))) ?_
 rintro _ w1 ⟨rfl,ad⟩
 refine⟨⟨R.ext hI (hg.trans ad) (λk hk=> .inl hk),(hg.trans ad).kp⟩,?_⟩
 have bT:=hg.trans ad
 rw[aB]
 refine Ow 3 O (ymi O O) (⟨R.ext hI (hg.trans ad) (λk hk=> .inl hk),(hg.trans ad).kp⟩) ?_
 rw[show min (28:Int) ((VY p g E+(pfm p g E).size:Nat):Int)=((28:Nat):Int) by omega]
 have kh:=R.ext hI bT (λk hk=> .inl hk)
 have eX:∀k,X k->k<w1.heap.size:=λk hk=>by have:=hX k hk;have:=bT.size;omega
 refine qO 7$ W9 (i:=7) O O O (yci R.cr R.mr O O) (R.rd 0 28 kh eX ω) ?_
 rintro _ w2 ⟨rfl,cA,am⟩
 refine⟨⟨cA,bT.kp.trans am⟩,?_⟩
 rw[zcJ]
 have eh:Kp (λk=>¬X k) w w2:=bT.kp.trans am
 have fB:∀k,X k->k<w2.heap.size:=λk hk=>by have:=eX k hk;have:=am.size;omega
 refine OR 8 O O (⟨cA,bT.kp.trans am⟩)$ Ow 9 O (Rv O O) (⟨cA,bT.kp.trans am⟩)$ Ow 10 O (Rv O O) (⟨cA,bT.kp.trans am⟩)$ Ow 11 O (Rr O) (⟨cA,bT.kp.trans am⟩)$ Ow 12 O (Rr O) (⟨cA,bT.kp.trans am⟩)$ qE$ Pz O$ Ql O$ PX O$ P7 O$ OQ zgQ O (z8f (VN p g E) rE w2) ?_
 rintro _ w3 ⟨rfl,aj⟩
 refine OC O$ qV (Rv (v:=hdV (VN p g E)) O O)$ qV (Rv (v:=I 0) O O)$ Oy O O (Rq (cs:=[_,_,_,_,_,_,_,_]) TC O) ?_
 rintro _ w4 ⟨b6,rfl,oD,aC,aT⟩
 refine OJ O (Py (news:=hdC (VN p g E)) TC O O O O aT ξ) ?_
 rintro w5 ⟨fD,ai⟩
 replace fD:OE w5 b6 (hdC (VN p g E)) 153:=fD
 have bF:Ext w3 w5:=aC.It ai (λi e=>by omega)
 have io:=aj.trans bF
 refine OK O$ P8.qb (e:=[(0,_),(2,_),(3,_),(5,_),(6,_)]) ?_
 refine Pz O$ Ql O$ PX O$ An$ qN O$ qV (Pa (news:=hdC (VN p g E)) z6v O TC O (fD.cells (n:=8) O) O)$ OQ zhh O (z8s (VN p g E) rE (by show g.length<=_;omega) _) ?_
 rintro _ w6 ⟨rfl,aQ⟩
 have ip:=io.trans aQ
 have po:=R.ext cA ip (λk hk=> .inl hk)
 have tR:=aQ.On fD
 refine OC O$ qV (Rv (v:=I ((VY p g E+(pfm p g E).size:Nat):Int)) O O)$ qV (Rv (v:=I 0) O O)$ Si O$ QO O$ Ql O$ Pu$ OX O$ OC O$ Qy O O (yci R.cl R.ml O O) (R.len po) ?_
 rintro _ w7 ⟨rfl,ci⟩
 rw[aB]
 have Ee:=ip.trans ci
 have ji:=ci.On tR
 refine Ql O$ Pu$ PC O ?_
 replace ji:OE w7 b6 [I ((VN p g E).n:Int),I ((VN p g E).m:Int),I ((VN p g E).p.OY:Int),I ((VN p g E).p.chain:Int),I ((VN p g E).p.interval:Int),I ((VN p g E).p.zeta:Int),I ((VN p g E).p.most:Int),I ((VN p g E).bits:Int)] 153:=ji
 refine PX O$ qN O$ OL UD O$ qV (OB U3 O O ji O)$ PL O$ qV (Wq O O ω)$ PL O ?_
 rw[show 28+((((VN p g E).bits:Nat):Int)+7) / 8=(VY p g E:Int) by omega]
 refine OK O$ P8.qb (e:=[(0,_),(2,_),(3,_),(5,_),(6,_),(9,_)]) ?_
 refine Qh O$ OC O ?_
 have lF:=R.ext po ci (λk hk=> .inl hk)
 refine Qy O O (yci R.cl R.ml O O) (R.len lF) ?_
 rintro _ w8 ⟨rfl,cz⟩
 rw[aB]
 have jc:=Ee.trans cz
 have DM:=R.ext lF cz (λk hk=> .inl hk)
 have iA:=cz.On ji
 have z28:=jc.size
 refine OC O$ Ra O ?_
 rw[show((VY p g E+(pfm p g E).size:Nat):Int)-(VY p g E:Int)=((pfm p g E).size:Int) by omega]
 refine qV (Sa (cs:=[_,_,_]) zgC O zfk O O)$ qV (zhr zjA (λ_ h=>by cases h) rfl) ?_
 have lb6:=iA.lt
 have Lb:=R.ext (Y:=λk=>X k\/k=b6) cA jc (λk hk=>hk.imp id λe=>by have:=aj.size;omega)
 have lZ:∀k,(X k\/k=b6)->k<w8.heap.size:=λk hk=>by
  rcases hk with hk| e
  ·have:=fB k hk;have:=jc.size;omega
  ·omega
 refine OQ zfV O (z54 hp.ef (zcN R (VY p g E) (pfm p g E).size (Y0 (VZ p g E g.length) (pfm p g E)) ω ω hp.index) (X:=λk=>X k\/k=b6) Lb lZ) ?_
 rintro _ w9 ⟨x,rfl,iR,hx,jz,aK⟩
 have iB:=aK.On iA (λhh=>hh (.inr O))
 have Ef:Kp (λk=>¬X k) w2 w9:=jc.kp.trans (aK.OA λk hk e=>hk (.inl e))
 have z9:=aK.size
 refine OC O$ qV (Rv (v:=ptr x 0) O O)$ qV (Rv (v:=I 0) O O)$ Qd O$ Qt$ P7 O$ Ql O$ OK O$ Ox O$ An ?_
 have iC:=Ext.OT w9
 refine R8 (λw'=>Ext w9 w') O$ OR 0 O O (iC)$ Ow 2 O (Pk TT O) iC$ qT 3 O (λ_ h=>OB U3 O O (h.On iB) O) iC$ Ow 4 O (Uw O O ω) iC$ SH 1 O zgd O (z8L (iC.On iR)) ?_
 rintro _ w10 ⟨rfl,rfl⟩
 refine⟨iC,?_⟩
 rw[show(pfm p g E).n=(VN p g E).n+1 from rfl]
 refine Ow 5 O (yne O O) iC$ Ow 6 O (Rr O) iC$ qE$ P8.qb (e:=[(0,_),(2,_),(3,_),(6,_),(10,_),(69,_)]) ?_
 have i5:=iC.On iB
 have yN:=iC.On iR
 refine OH O (λh9=>?_)$ λh9=>?_
 ·exact absurd ω h9
 ·refine Ot$ Om$ qN O$ qV (Pa (news:=hdC (VN p g E)) z6v O TC O (OE.cells (n:=8) i5 O) O)$ OX O$ qV (Sa (cs:=[_,_,_,_,_,_,_,_,_,_]) zhH O zhp O O)$ Oy O O (R9 O (cs:=gwC (VN p g E) t u x) O) ?_;rintro _ w11 ⟨k,rfl,hk,aV,aX⟩;refine Qd O$ Oo func107 O ?_;have Eg:=iC.trans aV;have z02:=eh.size;have z28:=jc.size;have zdd:=iC.size;have lbx:=yN.lt;refine⟨_,rfl,k,x,rfl,aX,Eg.On iR,ω,ω,ω,R.ext jz Eg (λj hj=>?_),(eh.trans Ef).trans Eg.kp⟩;rcases hj with hj|hj|hj
  ·exact .inl (.inl (.inl hj))
  ·exact .inl (.inr hj)
  ·exact .inr ω
structure Ut {t:TypeId}{u:Value}{p:Qc}{g:List (List Nat)}{E:List (Nat×Nat)}(R:Src t u (Xl p g E))(k x:Nat)(X:Nat->Prop)(w:World):Prop where
 ok:SO p g E
 On:OE w k (gwC (VN p g E) t u x) 158
 ix:OE w x (elC (pfm p g E) 249 (Zq t u (VY p g E) (pfm p g E).size)) 293
 xk:X k
 xx:X x
 inv:R.inv X w
 lt:∀j,X j->j<w.heap.size
 x1:X 1
 x2:X 2
 gam:OE w 1 (S6 .gamma) 314
 una:OE w 2 (S6 .unary) 314
section
variable {t:TypeId}{u:Value}{p:Qc}{g:List (List Nat)}{E:List (Nat×Nat)}{R:Src t u (Xl p g E)}{k x:Nat}{X Y S:Nat->Prop}{w w':World}
def Ut.grow (h:Ut R k x X w)(hx:Ext w w')(hY:∀j,Y j->X j\/(w.heap.size<=j/\j<w'.heap.size))(aM:∀j,X j->Y j):Ut R k x Y w':=
 ⟨h.ok,hx.On h.On,hx.On h.ix,aM _ h.xk,aM _ h.xx,R.ext h.inv hx (λj hj=>(hY j hj).imp id And.left),λj hj=>by
  rcases hY j hj with e| e
  ·have:=h.lt j e;have:=hx.size;omega
  ·exact e.2,aM _ h.x1,aM _ h.x2,hx.On h.gam,hx.On h.una⟩
def Ut.ext (h:Ut R k x X w)(hx:Ext w w'):Ut R k x X w':=h.grow hx (λj hj=> .inl hj) λj hj=>hj
def Ut.less (h:Ut R k x Y w)(aM:∀j,X j->Y j)(hk:X k)(hx:X x)(h1:X 1)(h2:X 2):Ut R k x X w:=
 ⟨h.ok,h.On,h.ix,hk,hx,R.ext h.inv (Ext.refl w) (λj hj=> .inl (aM j hj)),λj hj=>h.lt j (aM j hj),h1,h2,h.gam,h.una⟩
theorem Ut.step (h:Ut R k x X w)(hk:Kp S w w')(hS:∀j,S j->X j/\j≠k/\j≠x/\j≠1/\j≠2)(hY:∀j,Y j->X j\/(w.heap.size<=j/\j<w'.heap.size))(aM:∀j,X j->Y j):Ut R k x Y w':=
 ⟨h.ok,hk.On h.On (λe=>(hS _ e).2.1 O),hk.On h.ix (λe=>(hS _ e).2.2.1 O),aM _ h.xk,aM _ h.xx,R.step h.inv hk (λj hj=>(hS j hj).1) (λj hj=>(hY j hj).imp id And.left),λj hj=>by
  rcases hY j hj with e| e
  ·have:=h.lt j e;have:=hk.size;omega
  ·exact e.2,aM _ h.x1,aM _ h.x2,hk.On h.gam (λe=>(hS _ e).2.2.2.1 O),hk.On h.una (λe=>(hS _ e).2.2.2.2 O)⟩
def Ut.own (h:Ut R k x X w)(hk:Kp S w w')(hS:∀j,S j->X j/\j≠k/\j≠x/\j≠1/\j≠2):Ut R k x X w':=
 ⟨h.ok,hk.On h.On (λe=>(hS _ e).2.1 O),hk.On h.ix (λe=>(hS _ e).2.2.1 O),h.xk,h.xx,R.own h.inv hk (λj hj=>(hS j hj).1),λj hj=>by have:=h.lt j hj;have:=hk.size;omega,h.x1,h.x2,hk.On h.gam (λe=>(hS _ e).2.2.2.1 O),hk.On h.una (λe=>(hS _ e).2.2.2.2 O)⟩
def Ut.src (h:Ut R k x X w)(hk:Kp (λj=>¬X j) w w')(hI:R.inv X w'):Ut R k x X w':=
 ⟨h.ok,hk.On h.On (λe=>e h.xk),hk.On h.ix (λe=>e h.xx),h.xk,h.xx,hI,λj hj=>by have:=h.lt j hj;have:=hk.size;omega,h.x1,h.x2,hk.On h.gam (λe=>e h.x1),hk.On h.una (λe=>e h.x2)⟩
def Ut.R2 (R:Src t u (Xl p g E))(h:SO p g E):Src 249 (Zq t u (VY p g E) (pfm p g E).size) (Y0 (VZ p g E g.length) (pfm p g E)):=
 zcN R (VY p g E) (pfm p g E).size _ (by have:=h.len;omega) (by have:=h.small;omega) h.index
theorem Ut.cells (h:Ut R k x X w):OE w k [I ((VN p g E).n:Int),I ((VN p g E).m:Int),I ((VN p g E).p.OY:Int),I ((VN p g E).p.chain:Int),I ((VN p g E).p.interval:Int),I ((VN p g E).p.zeta:Int),I ((VN p g E).p.most:Int),I ((VN p g E).bits:Int),.iface t u,ptr x 0] 158:=h.On
def zbK (h:Ut R k x X w):P9 prog 37 [ptr k 0] w λv w'=>v=I (g.length:Int)/\w'=w:=by
 have hB:=h.cells
 refine py (e:=[(0,_)]) func37 O ntmps37 O O$ QB O$ Pz O$ qV (PU U28 O O)$ PX O$ P7 O$ Pb O$ OL Vw O$ OL TT O$ qV (OB U3 O O hB O)$ OK O$ Oo func37 O ?_
 exact⟨_,rfl,rfl,rfl⟩
theorem z5s (h:Ut R k x X w){b v c:Nat}(hv:v<g.length)(hr:Rd w (.slice (some ⟨b,0,none⟩) 1 c) 1 1 [I (v:Int)]):P9 prog 183 [ptr k 0,.slice (some ⟨b,0,none⟩) 1 c] w λv w'=>v=I 0/\w'=w:=by
 have hB:=h.cells
 have hn:(VN p g E).n=g.length:=rfl
 refine py (e:=[(0,_),(1,_)]) func183 O ntmps183 O O$ QB O$ Pz O$ qV (PU U28 O O)$ PX O$ Pz O$ Ro Rl O$ OC O$ Oq$ Ou$ Rw (α:=Nat) (0) (λi=>[(0,ptr k 0),(9,.slice (some ⟨b,0,none⟩) 1 c),(10,I 1),(11,I (i:Int))]) (λi w'=>w'=w/\i<=1) (λi=>1-i) ?hI ?hround
 case hI=>exact⟨rfl,Nat.zero_le _⟩
 case hround=>
  rintro i w2 ⟨rfl,hi⟩ ih
  try dsimp only
  refine qN O$ Qv O$ Oq$ An$ OH O (λh0=>?_)$ λh0=>?_
  ·have dh:i=0:=by omega
   subst dh;refine Ot (Qt (qN O (qV (PK Rl PH O O ω) (qV (Pc U3 O O (PM hr O)) (QO O (Qv O (Pu (OX O (OC O (Pb O (OL Vw O (OL TT O (qV (OB U3 O O hB O) ?_)))))))))))));refine TE O$ Pu$ PC O$ PX O$ Om$ Oz O$ PL O$ OC O$ Oq ?_;exact(ih 1 _ ⟨rfl,ω⟩ ω).qb
  ·refine OD O$ QB O$ Oo func183 O ?_;exact⟨_,rfl,rfl,rfl⟩
def z8D {p:Qc}{g:List (List Nat)}{E:List (Nat×Nat)}{v a n:Nat}{s:Ov}(hs:((P4 (Qm p g E g.length)).drop (a / 8)).take n=s)(ha:(Qm p g E v).length=a)(hv:v<g.length)(hn:a+(Xq p g E v).length<=8*(a / 8+n)):∃rest,(OU s).drop (a%8)=Xq p g E v++rest:=by
 have gR:∃r,Qm p g E g.length=Qm p g E (v+1)++r:=by
  have key:∀d i,∃r,Qm p g E (i+d)=Qm p g E i++r:=λd i=>by
   induction d with
   |zero=>exact⟨[],ξ⟩
   | succ d ih =>
     obtain⟨r,hr⟩:=ih;exact⟨r++Xq p g E (i+d),by rw[<-Nat.add_assoc,T0,hr,List.append_assoc]⟩
  obtain⟨r,hr⟩:=key (g.length-(v+1)) (v+1);rw[show v+1+(g.length-(v+1))=g.length by omega] at hr;exact⟨r,hr⟩
 obtain⟨r,hr⟩:=gR
 obtain⟨z,hz,-,-⟩:=S4 (Qm p g E g.length)
 rw[<-hs,Us,Tm,hz,hr,T0,List.drop_take,List.drop_drop,show 8*(a / 8)+a%8=a by omega,List.append_assoc,List.append_assoc,List.drop_left' ha,List.take_append,List.take_of_length_le ω]
 exact⟨_,rfl⟩
def z5N (h:Ut R k x X w){v:Nat}(hv:v<g.length):P9 prog 209 [ptr k 0,I (v:Int)] w λr w'=>∃(b a e:Nat) (s:Ov) (rest:List Bool),r= .tuple #[ptr b 0,I (e:Int),I 0]/\Tx w' b s a/\(OU s).drop a=Xq p g E v++rest/\a+(Xq p g E v).length=e/\w.heap.size<=b/\Ut R k x (λj=>X j\/j=b) w'/\Kp (λj=>¬X j) w w':=by
 have hn:=h.ok.gr.n
 have qR:=h.ok.pk.bits
 have hB:=h.cells
 have Eh:=z06 p g E (n:=g.length) (i:=v) ω
 have yO:=z06 p g E (n:=g.length) (i:=v+1) ω
 have mz:=WC p g E (g.length-(v+1)) (v+1)
 rw[show v+1+(g.length-(v+1))=g.length by omega] at mz
 have dQ:=T0 p g E v
 have kX:=congrArg List.length dQ
 rw[List.length_append] at kX
 refine py (e:=[(0,_),(1,_)]) func209 O ntmps209 O O$ qN O$ Si O$ Si O$ QO O$ Pb O$ OL z7k O$ qV (OB z39 O O hB O)$ OC O$ OQ zcT O (z2a h.ok.ef (Ut.R2 R h.ok) h.inv h.lt h.xx h.ix Eh) ?_
 rintro _ w1 ⟨rfl,kh,aG⟩
 have h1:=h.src aG kh
 have ah:=h1.cells
 refine OC O$ Sw O$ Qd O$ Pz O$ Ql O$ PX O$ P7 O$ Pb O$ OL z7k O$ qV (OB z39 O O ah O)$ OC O$ PL O ?_
 rw[show(v:Int)+1=((v+1:Nat):Int) by omega]
 refine OQ zcT O (z2a h1.ok.ef (Ut.R2 R h1.ok) h1.inv h1.lt h1.xx h1.ix yO) ?_
 rintro _ w2 ⟨rfl,cA,am⟩
 have h2:=h1.src am cA
 have ak:=h2.cells
 have eh:=aG.trans am
 obtain⟨al,B9⟩:∃n,(Qm p g E v).length=n:=⟨_,rfl⟩
 obtain⟨bl,ft⟩:∃n,(Qm p g E (v+1)).length=n:=⟨_,rfl⟩
 rw[B9,ft]
 have Ed:(VN p g E).bits=(Qm p g E g.length).length:=rfl
 refine OC O$ Sw O$ Qd O$ P8.qb (e:=[(0,_),(4,_),(5,_),(6,_),(7,_),(8,_),(9,_)]) ?_
 refine Qt$ P7 O$ Ql O$ OK O$ Ox O$ Qh O$ Qr O$ Pu$ OX O$ OC O$ Pb O$ OL Vw O$ OL UD O$ qV (OB U3 O O ak O) ?_
 refine qV ((PO O U3 R7 ω))$ Qr O$ Pu$ PC O$ OK O$ T2 O$ Om$ P7 O$ qV (zim O O O (by simp only[IntKind.bits];omega) ω) ?_
 refine qV (Ps O R7 U3 ω)$ OK O$ P8.qb (e:=[(0,_),(4,_),(5,_),(6,_),(7,_),(8,_),(9,_),(10,_)]) ?_
 refine P7 O$ Pb O$ OL zct O$ qV (OB z63 O O ak O)$ OC O$ PL O$ OC O$ qV (UL O O)$ qV (Ps O R7 U3 ω)$ qV (Wq O O ω)$ OC O$ Ra O ?_
 have rA:28+al / 8+((bl+7) / 8-al / 8)<=(Xl p g E).length:=by have:=h.ok.len;unfold VY at this;omega
 rw[show 28+((al / 8:Nat):Int)=((28+al / 8:Nat):Int) by omega]
 rw[show((((bl+7)%18446744073709551616:Nat):Int)) / 8-((al / 8:Nat):Int)=(((bl+7) / 8-al / 8:Nat):Int) by omega]
 refine Qy O O (yci R.cr R.mr O O) (R.rd (28+al / 8) ((bl+7) / 8-al / 8) h2.inv h2.lt rA) ?_
 rintro _ w3 ⟨rfl,ye,ar⟩
 have h3:=h2.src ar ye
 rw[zc9 h.ok (al / 8) ((bl+7) / 8-al / 8) ω]
 obtain⟨s,hs⟩:∃s,((P4 (Qm p g E g.length)).drop (al / 8)).take ((bl+7) / 8-al / 8)=s:=⟨_,rfl⟩
 rw[hs]
 refine OC O$ Sw O$ Qd O$ P8.qb (e:=[(4,_),(5,_),(6,_),(7,_),(8,_),(9,_),(10,_),(11,_)]) ?_
 refine Pz O$ Ql O ?_
 have gG:s.length=(bl+7) / 8-al / 8:=by
  rw[<-hs,List.length_take,List.length_drop,Po];omega
 obtain⟨rest,nM⟩:∃rest,(OU s).drop (al%8)=Xq p g E v++rest:=z8D hs B9 hv ω
 refine PX O$ P7 O$ OQ z7n O (Ww s ω w3) ?_
 rintro _ w4 ⟨b,rfl,dW,aC,hb⟩
 have lb:=dW.1.lt
 have h4:Ut R k x (λj=>X j\/j=b) w4:=h3.grow aC (λj hj=>hj.imp id λe=>by omega) (λj hj=> .inl hj)
 have fF:¬X b:=λe=>by have:=h3.lt b e;omega
 refine QL O$ OX O$ qV (Ps O R7 U3 ω)$ OC O$ qV (X5 O O ω)$ Ra O ?_
 rw[show(al:Int)-8*((al / 8:Nat):Int)=((al%8:Nat):Int) by omega]
 refine OQ zbo O (YZ dW (al%8) ω) ?_
 rintro _ w5 ⟨rfl,gW,ai⟩
 have h5:=h4.own ai (λj e=>by
  subst e
  exact⟨.inr O,λe=>fF (e▸h.xk),λe=>fF (e▸h.xx),λe=>fF (e▸h.x1),λe=>fF (e▸h.x2)⟩)
 refine qM O$ OX O$ qV (Ps O R7 U3 ω)$ OC O$ qV (X5 O O ω)$ Ra O ?_
 rw[show(bl:Int)-8*((al / 8:Nat):Int)=((bl-8*(al / 8):Nat):Int) by omega]
 refine Si O$ Qd O$ P8.qb (e:=[(4,_),(5,_),(6,_)]) ?_
 refine Oo func209 O ?_
 have z03:=(eh.trans ar).size
 exact⟨_,rfl,b,al%8,bl-8*(al / 8),s,rest,rfl,gW,nM,ω,ω,h5,((eh.trans ar).trans aC.kp).It ai (λj e=> .inl ω)⟩
end
def OG (g:List (List Nat))(v:Nat):List Nat:=(g[v]?).getD []
def Pf (g:List (List Nat))(E:List (Nat×Nat))(v:Nat):Nat:=if OG g v=[] then 0 else((E[v]?).getD (0,0)).1
def Tn (p:Qc)(g:List (List Nat))(E:List (Nat×Nat))(v:Nat):List (Cd×Nat):=if OG g v=[] then [] else Ui p.list v (OG g v) (Qp g v (Pf g E v)) (Pf g E v)
def z8Z (p:Qc)(g:List (List Nat))(E:List (Nat×Nat))(v:Nat):Xq p g E v=OV (Qn p.list (OG g v).length (Pf g E v))++OV (Tn p g E v):=by
 unfold Xq Tn Pf
 rw[<-Sk]
 by_cases h:OG g v=[]
 ·have h':(g[v]?).getD []=[]:=h;rw[if_pos h,if_pos h,h',h]
  rfl
 ·rw[if_neg h,if_neg h];have:=z0O p.list v (ref:=Qp g v ((E[v]?).getD (0,0)).1) ((E[v]?).getD (0,0)).1 h;rw[<-this];rfl
section
variable {t:TypeId}{u:Value}{p:Qc}{g:List (List Nat)}{E:List (Nat×Nat)}{R:Src t u (Xl p g E)}{k x:Nat}{X:Nat->Prop}{w w':World}
def SO.ent (h:SO p g E){v:Nat}(hv:v<g.length):ZE p g E v (OG g v).length ((E[v]?).getD (0,0)):=by
 have hl:=h.pk.el
 obtain⟨e,he⟩:∃e,E[v]? =some e:=⟨_,List.getElem?_eq_getElem ω⟩
 have:=h.pk.ok.ent v e he
 rw[he];exact this
def SO.z2l (h:SO p g E){v:Nat}(hv:v<g.length):Pf g E v<=p.OY/\Pf g E v<=v:=by
 unfold Pf
 split
 ·omega
 ·rcases h.ent hv with e| e
  ·rw[e];exact⟨Nat.zero_le _,Nat.zero_le _⟩
  ·exact⟨e.2.1,e.2.2.1⟩
def SO.suc (h:SO p g E){v:Nat}(hv:v<g.length):Pq (OG g v)/\(OG g v).length<=g.length/\∀y∈OG g v,y<g.length:=by
 have hm:OG g v∈g:=by
  unfold OG;rw[List.getElem?_eq_getElem hv];exact List.getElem_mem hv
 exact⟨h.gr.ok _ hm,h.gr.len hm,h.gr.lt _ hm⟩
def z57 (h:Ut R k x X w){v:Nat}(hv:v<g.length):P9 prog 185 [ptr k 0,I (v:Int)] w λr w'=>∃(b a:Nat) (s:Ov) (rest:List Bool),r= .tuple #[.agg #[I ((OG g v).length:Int),I (Pf g E v:Int)],ptr b 0,I ((a+(OV (Tn p g E v)).length:Nat):Int),I 0]/\Tx w' b s a/\(OU s).drop a=OV (Tn p g E v)++rest/\w.heap.size<=b/\Ut R k x (λj=>X j\/j=b) w'/\Kp (λj=>¬X j) w w':=by
 have hn:=h.ok.gr.n
 obtain⟨dN,dg,oN⟩:=h.ok.suc hv
 have fK:=h.ok.z2l hv
 have pU:=z8Z p g E v
 have yP:(OG g v).length=0->Pf g E v=0:=λe=>by unfold Pf;rw[if_pos (List.eq_nil_of_length_eq_zero e)]
 refine py (e:=[(0,_),(1,_)]) func185 O ntmps185 O O$ qN O$ Oy O O (Rq (cs:=[_,_]) S8 O) ?_
 rintro _ w1 ⟨b4,rfl,gF,ad,aH⟩
 have l4:=aH.lt
 have h1:Ut R k x (λj=>X j\/j=b4) w1:=h.grow ad (λj hj=>hj.imp id λe=>by omega) (λj hj=> .inl hj)
 have aC:∀j,X j->j≠b4:=λj hj e=>by have:=h.lt j hj;omega
 refine Si O$ Si O$ QL O$ OX O$ OQ zfj O (z5N h1 hv) ?_
 rintro _ w2 ⟨b,a,e,s,rest,rfl,cJ,hd,he,hb,h2,am⟩
 have bq:=am.On aH (λe=>e (.inr O))
 have Lc:=h2.cells
 have lb:=cJ.1.lt
 have fF:∀j,X j->j≠b:=λj hj e=>by have:=h.lt j hj;have:=ad.size;omega
 have nN:∀j,j=b->(X j\/j=b4)\/j=b:=λj e=> .inr e
 refine OC O$ qV (Rv (v:=ptr b 0) O O)$ qV (Rv (v:=I (e:Int)) O O)$ qV (Rv (v:=I 0) O O)$ Si O$ Qd O$ Pz O$ Ql O$ PX O$ Qh O$ Pb O$ OL Vw O$ OL Yh O$ qV (Pa (news:=UX p) U93 O Ru O (OE.cells (i:=2) (n:=5) Lc O) O) ?_
 refine OQ z0v O (SK p w2) ?_
 rintro _ w3 ⟨rfl,aj⟩
 have h3:=h2.ext aj
 have iz:Tx w3 b s a:=⟨aj.On cJ.1,cJ.2⟩
 rw[pU,List.append_assoc] at hd
 refine OQ zdC O (z2d iz p.list h.ok.Qj.1 h3.gam h3.una (λe=>fF 1 h.x1 e) (λe=>fF 2 h.x2 e) (OG g v).length (Pf g E v) ω fK.1 yP _ hd) ?_
 rintro _ w4 ⟨rfl,dW,aq⟩
 have HO:=S2 hd
 have h4:=h3.own aq (λj e=>⟨.inr e,λe'=>fF k h.xk (e'▸e),λe'=>fF x h.xx (e'▸e),λe'=>fF 1 h.x1 (e'▸e),λe'=>fF 2 h.x2 (e'▸e)⟩)
 have cy:=aq.On (aj.On bq) (λe=>by omega)
 have gG:=congrArg List.length pU
 rw[List.length_append] at gG
 refine OC O$ qV (Rv (v:= .agg #[I ((OG g v).length:Int),I (Pf g E v:Int)]) O O)$ qV (Rv (v:=I 0) O O)$ Oy O O (Rq (cs:=[_,_]) S8 O) ?_
 rintro _ w5 ⟨b11,rfl,j0,aR,aX⟩
 refine OJ O (Py (news:=[I ((OG g v).length:Int),I (Pf g E v:Int)]) S8 O O O O aX ξ) ?_
 rintro w6 ⟨nO,aJ⟩
 replace nO:OE w6 b11 [I ((OG g v).length:Int),I (Pf g E v:Int)] 303:=nO
 have cP:Ext w4 w6:=aR.It aJ (λj e=>by omega)
 have h6:=h4.ext cP
 have fC:Tx w6 b s (a+(OV (Qn p.list (OG g v).length (Pf g E v))).length):=⟨cP.On dW.1,dW.2⟩
 refine OK O$ P8.qb (e:=[(4,_),(5,_),(6,_),(7,_),(8,_),(9,_),(10,_),(11,_)]) ?_
 refine Pz O$ Ql O$ Pu$ OX O$ OQ Yv O (TR fC) ?_
 rintro _ w6 ⟨rfl,rfl⟩
 refine OC O$ Qr O$ Pu$ PC O$ PX O$ qN O$ qV (Pa (news:=[I ((OG g v).length:Int),I (Pf g E v:Int)]) z3s O S8 O (OE.cells (n:=2) nO O) O)$ OX O ?_
 have bM:=cP.On cy
 refine OJ O (Py (news:=[I ((OG g v).length:Int),I (Pf g E v:Int)]) S8 O O O O bM ξ) ?_
 rintro w7 ⟨ba,ax⟩
 replace ba:OE w7 b4 [I ((OG g v).length:Int),I (Pf g E v:Int)] 303:=ba
 have h7:=(h6.own ax (λj e=>⟨.inl (.inr e),λe'=>aC k h.xk (e'▸e),λe'=>aC x h.xx (e'▸e),λe'=>aC 1 h.x1 (e'▸e),λe'=>aC 2 h.x2 (e'▸e)⟩)).less (X:=λj=>X j\/j=b) (λj hj=>hj.imp .inl id) (.inl h.xk) (.inl h.xx) (.inl h.x1) (.inl h.x2)
 have Ld:Tx w7 b s (a+(OV (Qn p.list (OG g v).length (Pf g E v))).length):=⟨ax.On fC.1 ω,fC.2⟩
 refine Si O$ Qd O$ P6 func185 (.cell z3s O S8 O (OE.cells (n:=2) ba (news:=[_,_]) O) O (.tmp O (.tmp O (.tmp O .nil)))) (⟨_,rfl,b,a+(OV (Qn p.list (OG g v).length (Pf g E v))).length,s,rest,?_,Ld,HO,by have:=ad.size;omega,h7,?_⟩)
 ·rw[show a+(OV (Qn p.list (OG g v).length (Pf g E v))).length+(OV (Tn p g E v)).length=e by omega]
  rfl
 ·have oK:Kp (λj=>¬X j) w w4:=((ad.kp.trans (am.OA λj e e'=>e (.inl e'))).trans aj.kp).It aq (λj e=> .inl (by have:=ad.size;omega));exact(oK.trans cP.kp).It ax (λj e=> .inl ω)
end
section
variable {t:TypeId}{u:Value}{p:Qc}{g:List (List Nat)}{E:List (Nat×Nat)}{R:Src t u (Xl p g E)}{k x gb pb fb:Nat}{X Y S:Nat->Prop}{w w':World}
abbrev z4U (w:World)(vv:Value)(l:List Nat):Prop:=Sl w vv 42 1 l.length (l.map Pn)
def Tt (E:List (Nat×Nat))(v:Nat):Nat:=((E[v]?).getD (0,0)).2
structure TdM (R:Src t u (Xl p g E))(k x gb pb fb:Nat)(X:Nat->Prop)(w:World):Prop where
 gw:Ut R k x X w
 bg:OE w gb [ptr k 0] 28
 bp:OE w pb [I (p.OY:Int),I (p.chain:Int),I (p.interval:Int),I (p.zeta:Int),I (p.most:Int)] 93
 bf:OE w fb [.func (.func 184) #[] #[ptr gb 0,ptr pb 0,ptr fb 0]] 301
 xg:X gb
 xp:X pb
 xf:X fb
theorem TdM.step (h:TdM R k x gb pb fb X w)(hk:Kp S w w')(hS:∀j,S j->X j->False)(h2:Ut R k x Y w')(aM:∀j,X j->Y j):TdM R k x gb pb fb Y w':=
 ⟨h2,hk.On h.bg (λe=>hS _ e h.xg),hk.On h.bp (λe=>hS _ e h.xp),hk.On h.bf (λe=>hS _ e h.xf),aM _ h.xg,aM _ h.xp,aM _ h.xf⟩
def Wo (R:Src t u (Xl p g E))(k x gb pb fb v behind:Nat)(X:Nat->Prop)(w:World):Prop:=
 P9 prog 184 [I (v:Int),I (behind:Int),ptr gb 0,ptr pb 0,ptr fb 0] w λr w'=>∃vv,r= .tuple #[vv,I 0]/\z4U w' vv (OG g v)/\(∀b,vv.ownBlock=some b->w.heap.size<=b)/\Ut R k x (λj=>X j\/vv.ownBlock=some j) w'/\Kp (λj=>¬X j) w w'
def SO.back (h:SO p g E){v:Nat}(hv:v<g.length)(hq:0<Pf g E v):Pf g E v<=v/\Tt E v=Tt E (v-Pf g E v)+1/\Qp g v (Pf g E v)=OG g (v-Pf g E v)/\0<(OG g (v-Pf g E v)).length/\(OG g (v-Pf g E v)).length<=p.most/\(OG g v).length<=p.most/\OG g v≠[]/\Tt E v<=p.chain:=by
 have br:OG g v≠[]:=λe=>by unfold Pf at hq;rw[if_pos e] at hq;omega
 have hb:Pf g E v=((E[v]?).getD (0,0)).1:=by unfold Pf;rw[if_neg br]
 rcases h.ent hv with e|⟨h1,h2,h3,l,e',h4,h5,h6,h7⟩
 ·rw[hb,e] at hq;cases hq
 ·rw[<-hb] at h1 h2 h3 h4 h5;have Le:=of_decide_eq_true h7;have hs:OG g (v-Pf g E v)=l:=by unfold OG;rw[h4];rfl
  refine⟨h3,?_,?_,by rw[hs];omega,by rw[hs];omega,ω,br,?_⟩
  ·unfold Tt;rw[h5];exact h6
  ·unfold Qp;rw[if_neg ω];rfl
  ·show((E[v]?).getD (0,0)).2<=_;omega
theorem z9w (aw:SO p g E)(jb:g.length<50){v:Nat}(hv:v<g.length){b a:Nat}{s:Ov}{rest:List Bool}(hR:Tx w b s a)(hd:(OU s).drop a=OV (Tn p g E v)++rest)(hG:OE w 1 (S6 .gamma) 314)(hU:OE w 2 (S6 .unary) 314)(h1:¬1=b)(h2:¬2=b)
  {vb:Value} (fG:Pf g E v=0->vb= .slice none 0 0) (hS:0<Pf g E v->z4U w vb (OG g (v-Pf g E v))) (AY:∀j,vb.ownBlock=some j->j≠b):
  P9 prog 186 [ptr b 0,I (v:Int),I (g.length:Int),.agg #[I ((OG g v).length:Int),I (Pf g E v:Int)],vb,lpV p.list] w λr w'=>∃vv,r= .tuple #[vv,I 0]/\z4U w' vv (OG g v)/\(∀j,vv.ownBlock=some j->w.heap.size<=j)/\Tx w' b s (a+(OV (Tn p g E v)).length)/\Kp (λj=>j=b) w w':=by
 obtain⟨dN,dg,oN⟩:=aw.suc hv
 have fK:=aw.z2l hv
 by_cases br:OG g v=[]
 ·have yP:Pf g E v=0:=by unfold Pf;rw[if_pos br]
  have Ei:Tn p g E v=[]:=by unfold Tn;rw[if_pos br]
  rw[yP,fG yP,Ei,br];refine(z2q p.list aw.Qj.1 v ω g.length ω).mono λr w' hr=>?_;obtain⟨rfl,hx⟩:=hr;exact⟨_,rfl,Sl.nil _ _ _,λj e=>(by cases e),⟨hx.On hR.1,hR.2⟩,hx.kp⟩
 ·have Ei:Tn p g E v=Ui p.list v (OG g v) (Qp g v (Pf g E v)) (Pf g E v):=by unfold Tn;rw[if_neg br]
  have im:Pq (Qp g v (Pf g E v))/\(Qp g v (Pf g E v)).length<=60:=by
   have hn:=aw.gr.n;rcases Wr g v (Pf g E v) with e| e
   ·rw[e];exact⟨⟨List.Pairwise.nil,λy hy=>(by cases hy)⟩,ξ⟩
   ·exact⟨aw.gr.ok _ e,by have:=aw.gr.len e;omega⟩
  have Jb:=Z5 aw.Qj.1 (x:=v) ω dN im.1 fK.1 ω im.2;rw[Ei] at hd⊢;rcases Nat.eq_zero_or_pos (Pf g E v) with h0|h0
  ·have lB:Qp g v (Pf g E v)=[]:=by unfold Qp;rw[if_pos h0]
   rw[fG h0];have:=Zo hR p.list aw.Qj.1 v ω g.length ω (ra:=none) (rc:=0) (OG g v) (Qp g v (Pf g E v)) dN br ω oN im.1 (Pf g E v) fK.1 (λ_=>lB) hG hU h1 h2 (λw2 am=>by rw[lB];exact(Sl.nil _ 42 1).rd) (by rw[lB];exact Nat.le_refl _) ω rest hd;rw[lB] at this⊢;exact this
  ·obtain⟨q1,q2,q3,q4,q5,q6,q7,q8⟩:=aw.back hv h0;have Ej:=hS h0;rw[<-q3] at Ej
   obtain⟨ga,gc,rfl,jH⟩:∃a c,vb= .slice a (Qp g v (Pf g E v)).length c/\(Qp g v (Pf g E v)).length<=c:=by
    rcases Ej.shape with⟨-,e⟩|⟨b,c,e,hc⟩
    ·rw[q3] at e;omega
    ·exact⟨_,c,e,hc⟩
   exact Zo hR p.list aw.Qj.1 v ω g.length ω (ra:=ga) (rc:=gc) (OG g v) (Qp g v (Pf g E v)) dN br ω oN im.1 (Pf g E v) fK.1 (λe=>by omega) hG hU h1 h2 (λw2 am=>(Ej.kp am λj e=>AY j e).rd) jH ω rest hd
end
section
variable {t:TypeId}{u:Value}{p:Qc}{g:List (List Nat)}{E:List (Nat×Nat)}{R:Src t u (Xl p g E)}{k x gb pb fb:Nat}{X Y:Nat->Prop}{w w':World}
theorem ZG (jb:g.length<50){v behind:Nat}(hv:v<g.length)(Bb:behind+Tt E v<=p.chain)(ht:TdM R k x gb pb fb X w)
  (ih:0<Pf g E v->∀(X':Nat->Prop) (w':World),TdM R k x gb pb fb X' w'->Wo R k x gb pb fb (v-Pf g E v) (behind+1) X' w'):Wo R k x gb pb fb v behind X w:=by
 have aw:=ht.gw.ok
 have hn:=aw.gr.n
 have NS:p.chain<=1000000:=by have:=aw.Qj.2.1;omega
 obtain⟨dN,dg,oN⟩:=aw.suc hv
 have fK:=aw.z2l hv
 have xW:=ht.bg
 unfold Wo
 refine py (e:=[(0,_),(1,_),(2,_),(3,_),(4,_)]) func184 O ntmps184 O O$ qN O$ Si O$ QL O$ qV (OB U28 O O xW O)$ OC O$ OQ zhK O (z57 ht.gw hv) ?_
 rintro _ w1 ⟨b,a,s,rest,rfl,i7,tB,bK,h1,aG⟩
 have lb1:=i7.1.lt
 have lZ:∀j,X j->j≠b:=λj hj e=>by have:=ht.gw.lt j hj;omega
 refine OC O$ qV (Rv (v:= .agg #[I ((OG g v).length:Int),I (Pf g E v:Int)]) O O)$ qV (Rv (v:=ptr b 0) O O)$ qV (Rv (v:=I ((a+(OV (Tn p g E v)).length:Nat):Int)) O O)$ qV (Rv (v:=I 0) O O)$ Oy O O (Rq (cs:=[_,_]) S8 O) ?_
 rintro _ w2 ⟨b9,rfl,mS,ae,cR⟩
 refine OJ O (Py (news:=[I ((OG g v).length:Int),I (Pf g E v:Int)]) S8 O O O O cR ξ) ?_
 rintro w3 ⟨cQ,ar⟩
 replace cQ:OE w3 b9 [I ((OG g v).length:Int),I (Pf g E v:Int)] 303:=cQ
 have aU:Ext w1 w3:=ae.It ar (λj e=>by omega)
 have l93:=cQ.lt
 have z13:=aU.size
 have h3:Ut R k x (λj=>(X j\/j=b)\/j=b9) w3:=h1.grow aU (λj hj=>hj.imp id λe=>by omega) (λj hj=> .inl hj)
 have bU:Kp (λj=>¬X j) w w3:=aG.trans aU.kp
 have pM:TdM R k x gb pb fb (λj=>(X j\/j=b)\/j=b9) w3:=ht.step bU (λj e e'=>e e') h3 (λj hj=> .inl (.inl hj))
 have iz:Tx w3 b s a:=⟨aU.On i7.1,i7.2⟩
 refine Si O$ Qd O$ Pz O$ Ql O$ PX O$ QB O$ An$ qN O$ OL Sj O$ qV (OB U3 O O cQ O)$ Qr O$ Oq$ P8.qb (e:=[(0,_),(1,_),(2,_),(3,_),(4,_),(7,_),(8,_),(9,_),(10,_),(11,_),(12,_),(13,_),(28,_)]) ?_
 refine Pw (λe' w'=>∃vb,e'=[(0,I (v:Int)),(2,ptr gb 0),(3,ptr pb 0),(9,ptr b9 0),(10,ptr b 0),(11,I ((a+(OV (Tn p g E v)).length:Nat):Int)),(13,vb)]/\Ut R k x (λj=>(X j\/j=b)\/j=b9) w'/\Kp (λj=>¬((X j\/j=b)\/j=b9)) w3 w'/\(Pf g E v=0->vb= .slice none 0 0)/\(0<Pf g E v->z4U w' vb (OG g (v-Pf g E v)))/\(∀j,vb.ownBlock=some j->j≠b)) ?bD$ λbD=>?de
 case bD=>
  rintro e' w4 ⟨vb,rfl,h4,aq,vt,fw,Ek⟩;have xn:TdM R k x gb pb fb (λj=>(X j\/j=b)\/j=b9) w4:=pM.step aq (λj e e'=>e e') h4 (λj hj=>hj);have m7:=aq.On cQ (λe=>e (.inr O));have dW:Tx w4 b s a:=⟨aq.On iz.1 (λe=>e (.inl (.inr O))),iz.2⟩;have El:=xn.bg;have fH:=xn.bp;have Em:=xn.gw.cells;have af:=Ext.OT w4;refine An ?_;have ngb:gb≠b:=lZ gb ht.xg;have nk:k≠b:=lZ k ht.gw.xk;have npb:pb≠b:=lZ pb ht.xp;have n9:b9≠b:=by omega
  refine R8 (λw'=>Kp (λj=>j=b) w4 w') O$ OR 0 O O (af.kp)$ OR 1 O O (af.kp)$ qT 2 O (λ_ h=>(OB U28 O O (h.On El ngb) O)) (af.kp)$ Ow 3 O (Q8 O) (af.kp)$ Ow 4 O (Pk Vw O) (af.kp)$ Ow 5 O (Pk TT O) (af.kp)$ qT 6 O (λ_ h=>(OB U3 O O (h.On Em nk) O)) (af.kp)$ OR 8 O O (af.kp)$ qT 7 O (λ_ hS=>Pa (news:=[I ((OG g v).length:Int),I (Pf g E v:Int)]) z3s O S8 O (OE.cells (n:=2) (hS.On m7 n9) O) O) (af.kp)$ qT 9 O (λ_ h=>Pa (news:=UX p) U93 O Ru O (OE.cells (n:=5) (h.On fH npb) O) O) (af.kp)$ SH 10 O z0v O (SK p w4.drew) ?_;rintro _ w5 ⟨rfl,aR⟩;refine⟨(af.trans aR).kp,?_⟩;have dx:=af.trans aR;have h5:=h4.ext dx;have gW:Tx w5 b s a:=⟨dx.On dW.1,dW.2⟩;have En:¬1=b:=λe=>lZ 1 ht.gw.x1 e;have Eo:¬2=b:=λe=>lZ 2 ht.gw.x2 e;refine SH 11 O zhM O (z9w aw jb hv gW tB h5.gam h5.una En Eo vt (λe=>(fw e).ext dx) Ek) ?_;rintro _ w6 ⟨vv,rfl,fL,mL,fC,aJ⟩;refine⟨dx.kp.trans aJ,?_⟩;refine OR 12 O O (dx.kp.trans aJ)$ Ow 13 O (Rv (v:=vv) O O) (dx.kp.trans aJ)$ Ow 15 O (Rr O) (dx.kp.trans aJ)$ Ow 14 O (Rv (v:=I 0) O O) (dx.kp.trans aJ)$ Ow 16 O (Rr O) (dx.kp.trans aJ)$ qE$ Pz O$ Ql O$ OX O$ OQ Yv O (TR fC) ?_;rintro _ w6 ⟨rfl,rfl⟩;refine OC O$ Ql O$ Pu$ PC O$ Oq$ P8.qb (e:=[(14,_),(92,_)]) ?_;refine T2 O$ P7 O$ Qd O$ Oo func184 O ?_;have z34:=aq.size;have z45:=dx.size;have z03:=bU.size;have h6:=(h5.step (Y:=λj=>((X j\/j=b)\/j=b9)\/vv.ownBlock=some j) aJ (λj e=>⟨.inl (.inr e),λe'=>lZ k ht.gw.xk (e'▸e),λe'=>lZ x ht.gw.xx (e'▸e),λe'=>lZ 1 ht.gw.x1 (e'▸e),λe'=>lZ 2 ht.gw.x2 (e'▸e)⟩) (λj hj=>hj.imp id λe=>⟨mL j e,fL.lt e⟩) (λj hj=> .inl hj)).less (X:=λj=>X j\/vv.ownBlock=some j) (λj hj=>hj.imp (λe=> .inl (.inl e)) id) (.inl ht.gw.xk) (.inl ht.gw.xx) (.inl ht.gw.x1) (.inl ht.gw.x2);exact⟨_,rfl,vv,rfl,fL,λj e=>by have:=mL j e;omega,h6,((bU.trans (aq.OA λj e e'=>e (.inl (.inl e')))).trans dx.kp).trans (aJ.OA λj e e'=>lZ j e' e)⟩
 case de=>
  refine OH O (λh0=>?_)$ λh0=>?_
  ·have vM:0<Pf g E v:=by omega
   obtain⟨q1,q2,q3,q4,q5,q6,q7,q8⟩:=aw.back hv vM;have nP:=pM.bp;have Ep:=pM.bf;refine An$ qN O$ OL Sj O$ qV ((OB U3 O O cQ O))$ OC O$ Qr O$ Pu$ OX O$ OL YX O$ qV ((OB U3 O O nP O))$ TE O$ Pu$ PC O$ OC O ?_;refine OL Ta O$ qV ((OB U3 O O cQ O))$ OL Ts O$ qV ((OB U3 O O nP O))$ Qr O$ Pu$ PC O$ Oq$ P8.qb (e:=[(0,_),(1,_),(2,_),(3,_),(4,_),(7,_),(8,_),(9,_),(10,_),(11,_),(12,_),(13,_),(45,_)]) ?_;refine T2 O$ An$ qN O$ qV ((OB zhd O O Ep O))$ OC O$ OL Sj O$ qV ((OB U3 O O cQ O))$ Ra O ?_;rw[show(v:Int)-(Pf g E v:Int)=((v-Pf g E v:Nat):Int) by omega];refine OC O$ PL O ?_;rw[show(behind:Int)+1=((behind+1:Nat):Int) by omega];have I8:=ih vM _ w3 pM;unfold Wo at I8;refine Qy O O (RY zcZ O O) (I8) ?_;rintro _ w4 ⟨vb,rfl,ep,pC,h4,aq⟩
   obtain⟨vo,vc,rfl,AZ⟩:∃o c,vb= .slice (some ⟨o,0,none⟩) (OG g (v-Pf g E v)).length c/\w3.heap.size<=o:=by
    rcases ep.shape with⟨-,e⟩|⟨o,c,e,hc⟩
    ·omega
    ·exact⟨o,c,e,pC o (by rw[e];rfl)⟩
   refine OC O$ qV (Rv (v:= .slice (some ⟨vo,0,none⟩) (OG g (v-Pf g E v)).length vc) O O)$ qV (Rv (v:=I 0) O O)$ Si O$ QO O$ Ql O ?_;have fH:=(pM.step aq (λj e e'=>e e') h4 (λj hj=> .inl hj)).bp;refine Oq$ P8.qb (e:=[(0,_),(2,_),(3,_),(7,_),(8,_),(9,_),(10,_),(11,_),(12,_),(13,_),(58,_)]) ?_;refine T2 O$ P7 O$ Ro Ph O$ QS O$ Pu$ OX O$ Ro Ph O$ OL Ts O$ qV (OB U3 O O fH O)$ Qr O$ Pu$ PC O$ PX O ?_;exact(bD _ _ ⟨_,rfl,h4.less (λj hj=> .inl hj) h3.xk h3.xx h3.x1 h3.x2,aq,λe=>by omega,λ_=>ep,λj e=>by have e':vo=j:=Rh e;omega⟩).qb
  ·refine Ot ?_;exact(bD _ _ ⟨_,rfl,h3,Kp.refl _ _,λ_=>rfl,λe=>by omega,λj e=>by cases e⟩).qb
theorem z0V (jb:g.length<50):∀(d:Nat) {v behind:Nat} {X:Nat->Prop} {w:World},Tt E v<=d->v<g.length->behind+Tt E v<=p.chain->TdM R k x gb pb fb X w->Wo R k x gb pb fb v behind X w
 | 0, v, behind, X, w, hd, hv, Bb, ht => ZG jb hv Bb ht λh0 => by
   obtain⟨q1,q2,-⟩:=ht.gw.ok.back hv h0
   omega
 | d + 1, v, behind, X, w, hd, hv, Bb, ht => ZG jb hv Bb ht λh0 X' w' Lf => by
   obtain⟨q1,q2,-⟩:=ht.gw.ok.back hv h0;exact z0V jb d ω ω ω Lf
def SO.z9E (h:SO p g E){v:Nat}(hv:v<g.length):Tt E v<=p.chain:=by
 rcases h.ent hv with e|⟨h1,h2,h3,l,e',h4,h5,h6,h7⟩
 ·unfold Tt;rw[e];exact Nat.zero_le _
 ·have Le:=of_decide_eq_true h7;unfold Tt;omega
theorem z5V (jb:g.length<50){v:Nat}(hv:v<g.length)(h:Ut R k x X w):P9 prog 153 [ptr k 0,I (v:Int)] w λr w'=>∃vv,r= .tuple #[vv,I 0]/\z4U w' vv (OG g v)/\(∀b,vv.ownBlock=some b->w.heap.size<=b)/\Ut R k x (λj=>X j\/vv.ownBlock=some j) w'/\Kp (λj=>¬X j) w w':=by
 refine py (e:=[(0,_),(1,_)]) func153 O ntmps153 O O$ qN O$ Oy O O (R9 O (cs:=[ptr k 0]) O) ?_
 rintro _ w1 ⟨gb,rfl,Lg,ad,xW⟩
 refine Qd O$ An$ qN O$ qV (OB U28 O O xW O)$ OC O$ Oy O O (XM (cs:=[_]) (zs:=[Value.int .i64 0]) Rl PH O (by kernel_rfl) O O O ψ) ?_
 rintro _ w2 ⟨vb,rfl,⟨fG,ae,NT⟩,Lh⟩
 have h2:=(h.ext ad).ext ae
 have tU:=ae.On xW
 have Er:=h2.cells
 have z1:=ad.size
 have z2:=ae.size
 refine OQ zhu O (z5s h2 hv Lh.rd) ?_
 rintro _ w2 ⟨rfl,rfl⟩
 refine QO O$ Ql O$ PX O$ qN O$ qV (OB U28 O O tU O)$ Pb O$ OL Vw O$ OL Yh O$ qV (Pa (news:=UX p) U93 O Ru O (OE.cells (i:=2) (n:=5) Er O) O)$ Oy O O (Rq (cs:=[_,_,_,_,_]) Ru O) ?_
 rintro _ w3 ⟨pb,rfl,qR,aj,qZ⟩
 refine OJ O (Py (news:=UX p) Ru O O O O qZ ξ) ?_
 rintro w4 ⟨fH,aq⟩
 replace fH:OE w4 pb [I (p.OY:Int),I (p.chain:Int),I (p.interval:Int),I (p.zeta:Int),I (p.most:Int)] 93:=fH
 have cD:Ext w2 w4:=aj.It aq (λj e=>by omega)
 refine qM O$ Oy O O (Rq (cs:=[_]) zdn O) ?_
 rintro _ w5 ⟨fb,rfl,NU,aR,db⟩
 refine qM O$ qV (ymf (first:=[]) (caps:=[.tmp 2,.tmp 7,.tmp 8]) O O)$ OJ O (Qw zdn O O O db ξ) ?_
 rintro w6 ⟨yQ,aJ⟩
 have cP:Ext w4 w6:=aR.It aJ (λj e=>by omega)
 have ip:=cD.trans cP
 have z6:=ip.size
 have lg:=tU.lt
 have lp:=fH.lt
 have lf:=yQ.lt
 have z24:=cD.size
 have z3:=aj.size
 have z46:=cP.size
 have ir:=(ad.trans ae).trans ip
 have h6:Ut R k x (λj=>X j\/j=gb\/j=pb\/j=fb) w6:=h.grow ir (λj hj=>hj.imp id λe=>by omega) (λj hj=> .inl hj)
 have wR:TdM R k x gb pb fb (λj=>X j\/j=gb\/j=pb\/j=fb) w6:=⟨h6,ip.On tU,cP.On fH,yQ,.inr (.inl O),.inr (.inr (.inl O)),.inr (.inr (.inr O))⟩
 have yR:=wR.bf
 have eM:=z0V jb _ (behind:=0) (Nat.le_refl _) hv (by have:=h.ok.z9E hv;omega) wR
 unfold Wo at eM
 refine qM O$ qV (OB zhd O O yR O)$ OC O$ Qy O O (RY zcZ O O) (eM) ?_
 rintro _ w7 ⟨vv,rfl,gL,oG,h7,ax⟩
 refine qV (Rv (v:=vv) O O)$ qV (Rv (v:=I 0) O O)$ Qd O$ P8.qb (e:=[(4,_),(5,_)]) ?_
 refine Oo func153 O ?_
 exact⟨_,rfl,vv,rfl,gL,λj e=>by have:=oG j e;omega,h7.less (λj hj=>hj.imp .inl id) (.inl h.xk) (.inl h.xx) (.inl h.x1) (.inl h.x2),ir.kp.trans (ax.OA λj e e'=>e (.inl e'))⟩
end
def stV (b:Bool):Value:= .int .u8 (if b then 1 else 0)
structure Xm (w:World)(m gi:Nat)(L:List Bool):Prop where
 On:OE w m [I 2,.slice (some ⟨gi,0,none⟩) L.length L.length,.slice none 0 0,.bool false] 135
 sl:Sl w (.slice (some ⟨gi,0,none⟩) L.length L.length) 185 1 L.length (L.map stV)
 ne:gi≠m
 n:L.length<=4096
 n2:2<=L.length
section
variable {w w':World}{m gi:Nat}{L:List Bool}{S:Nat->Prop}
def Xm.kp (h:Xm w m gi L)(hk:Kp S w w')(h1:¬S m)(h2:¬S gi):Xm w' m gi L:=
 ⟨hk.On h.On h1,h.sl.kp hk λg e=>by cases e;exact h2,h.ne,h.n,h.n2⟩
theorem Xm.ext (h:Xm w m gi L)(hx:Ext w w'):Xm w' m gi L:=h.kp (S:=λ_=>False) hx id id
def Xm.ltm (h:Xm w m gi L):m<w.heap.size:=h.On.lt
def Xm.ltg (h:Xm w m gi L):gi<w.heap.size:=h.sl.lt O
theorem Xm.get (h:Xm w m gi L){i:Nat}{b:Bool}(hi:L[i]? =some b):w.cell? ⟨gi,0+i*1,none⟩=some (stV b):=
 PM h.sl.rd (by rw[List.getElem?_map,hi];rfl)
def z8Q (B:Nat)(hB:2<=B/\B<=4096)(w:World):P9 prog 31 [I 2,I (B:Int)] w λv w'=>∃m gi,v= .tuple #[ptr m 0,I 0]/\Xm w' m gi (List.replicate B false)/\w.heap.size<=m/\w.heap.size<=gi/\Ext w w':=by
 refine py (e:=[(0,_),(1,_)]) func31 O ntmps31 O O$ qN O$ Qd O$ Pz O$ Qv O$ Pu$ OX O$ OC O$ Qr O$ Pu$ PC O$ OX O$ Qr O$ Pu ?_
 refine PC O$ PX O$ Qh O$ Oy O O (pmk (c:=B) (n:=B) Vq z1S O O O (Nat.le_refl _) ω (by simp only[maxLen];omega)) ?_
 rintro _ w1 ⟨gi,rfl,⟨tI,ad,ah⟩,jC⟩
 refine qV (Sa (cs:=[_,_,_,_]) zi5 O zhj O O)$ Oy O O (R9 O (cs:=[I 2,.slice (some ⟨gi,0,none⟩) B B,.slice none 0 0,.bool false]) O) ?_
 rintro _ w2 ⟨m,rfl,hm,ae,ak⟩
 refine Qd O$ Oo func31 O ?_
 have:=ad.size
 have lg:=jC.lt (g:=gi) O
 refine⟨_,rfl,m,gi,rfl,⟨by rw[List.length_replicate];exact ak,?_,ω,by rw[List.length_replicate];omega,by rw[List.length_replicate];omega⟩,ω,ω,ad.trans ae⟩
 rw[List.length_replicate,List.map_replicate]
 exact jC.ext ae
def PJ (L:List Bool)(s n:Nat)(b:Bool):List Bool:=L.take s++(List.replicate n b++L.drop (s+n))
theorem PY {L:List Bool}{s n:Nat}{b:Bool}(h:s+n<=L.length):(PJ L s n b).length=L.length:=by
 unfold PJ
 rw[List.length_append,List.length_append,List.length_take,List.length_replicate,List.length_drop];omega
theorem z8T (L:List Bool)(s:Nat)(b:Bool):PJ L s 0 b=L:=by simp[PJ]
theorem z8t {L:List Bool}{s n:Nat}{b:Bool}(h:s+n<L.length):(PJ L s n b).set (s+n) b=PJ L s (n+1) b:=by
 have h1:(L.take s++List.replicate n b).length=s+n:=by rw[List.length_append,List.length_take,List.length_replicate];omega
 unfold PJ
 rw[<-List.append_assoc,List.set_append_right _ _ ω,h1,Nat.sub_self,List.drop_eq_getElem_cons h,List.set_cons_zero,List.replicate_succ',List.append_assoc,List.append_assoc]
 rfl
def z2i (h:Xm w m gi L)(s n:Nat)(b:Bool)(hs:s+n<=L.length):P9 prog 136 [ptr m 0,.agg #[I (s:Int),I (n:Int)],stV b] w λv w'=>v= .tuple #[]/\Xm w' m gi (PJ L s n b)/\Kp (λk=>k=gi) w w':=by
 have hn:=h.n
 refine py (e:=[(0,_),(1,_),(2,_)]) func136 O ntmps136 O O$ qN O$ Oy O O (R9 O (cs:=[I (s:Int),I (n:Int)]) O) ?_
 rintro _ w1 ⟨b4,rfl,gF,ad,aH⟩
 have lg:=h.ltg
 have l4:=aH.lt
 have h1:=h.ext ad
 refine qM O$ OL QX O$ qV (OB U3 O O aH O)$ OC O$ Oq$ Ou$ Rw (α:=Nat) (0) (λi=>[(0,ptr m 0),(2,stV b),(4,ptr b4 0),(8,I (n:Int)),(9,I (i:Int))]) (λi w'=>Xm w' m gi (PJ L s i b)/\Kp (λk=>k=gi) w1 w'/\i<=n) (λi=>n-i) ?hI ?hround
 case hI=>exact⟨by rw[z8T];exact h1,Kp.refl _ _,Nat.zero_le _⟩
 case hround=>
  rintro i w2 ⟨h2,am,hi⟩ ih
  try dsimp only
  refine qN O$ Qv O$ Oq$ An$ OH O (λh0=>?_)$ λh0=>?_
  ·have aO:i<n:=by omega
   have hl:=PY (L:=L) (s:=s) (n:=i) (b:=b) ω;have ak:=h2.On;have bq:=am.On aH ω;have hg:=Ext.OT w2;refine Ot (Qt (P7 O (OK O (OW [10] (λw'=>Ext w2 w') (by kernel_rfl) O (PF 0 O O (hg) (P5 1 O (Q8 O) hg (P5 2 O (Pk UF O) hg (qL 3 O (λ_ h=>(OB Vq O O (h.On ak) O)) hg (P5 4 O (Pk QJ O) hg (qL 5 O (λ_ h=>(OB U3 O O (h.On bq) O)) hg (PF 6 O O (hg) (P5 7 O (Uw O O ω) hg (PF 8 O O (hg) ?_)))))))))))));refine P5 9 O (PK Vq z1S O O ω) hg (Th [10] (qO 10 (Pt (i:=10) O O (RA z1S O O O (h2.ext hg).sl (by rw[List.length_map,hl];omega)) ?_)));rintro w3 ⟨cV,ar⟩;refine⟨trivial,?_⟩
   have h3:Xm w3 m gi (PJ L s (i+1) b):=by
    refine⟨?_,?_,h2.ne,by rw[PY ω];exact h.n,by rw[PY ω];exact h.n2⟩
    ·rw[PY ω,<-hl];exact ar.On (hg.On ak) (λe=>h2.ne e.symm)
    ·rw[show 0+(s+i)*1=s+i by omega,<-List.map_set,z8t ω] at cV;rw[PY ω,<-hl];exact cV
   refine qE$ Om$ Oz O$ PL O$ OC O$ Oq ?_;exact(ih (i+1) _ ⟨h3,am.trans (hg.kp.trans ar),ω⟩ ω).qb
  ·have aO:i=n:=by omega
   subst aO;refine OD O$ PQ func136 O ?_;exact⟨_,rfl,rfl,h2,ad.kp.trans am⟩
end
structure Pre (L:List Bool)(a:Nat):Prop where
 a2:2<=a
 le:a<=L.length
 tk:∀i,2<=i->i<a->L[i]? =some true
 fr:∀i,a<=i->i<L.length->L[i]? =some false
section
variable {w w':World}{m gi a:Nat}{L:List Bool}{S:Nat->Prop}
def Yd {l bm:Nat}(hm:Xm w m gi L)(hp:Pre L a)(ha:a<L.length)(ld:OE w bm [ptr m 0] 66)(J:World->Prop)(hJ:∀w w',J w->Ext w w'->J w')
  (hround:∀w',Ext w w'->z0W prog l [.agg #[I (a:Int),I ((L.length-a:Nat):Int)]] w' λv w''=>(v= .bool true/\J w''/\OE w'' bm [ptr m 0] 66/\Xm w'' m gi L)\/(v= .bool false/\J w'')):
  P9 prog 88 [.func (.yield l) #[] #[],ptr bm 0] w λv w'=>v= .tuple #[]/\J w':=by
 have hn:=hm.n
 have sO:=hp.a2
 have hB:=hm.On
 refine py (e:=[(0,_),(1,_)]) func88 O ntmps88 O O$ qN O$ qV ((OB U66 O O ld O))$ Pb O$ OL z6Y O$ qV ((OB U3 O O hB O))$ OK O$ Ou$ Rw (α:=Nat) (2) (λi=>[(0,.func (.yield l) #[] #[]),(1,ptr bm 0),(3,I (i:Int))]) (λi w'=>OE w' bm [ptr m 0] 66/\Xm w' m gi L/\((2<=i/\i<=a/\Ext w w')\/(i=L.length+1/\J w'))) (λi=>L.length+1-i) ?hI ?hround
 case hI=>exact⟨ld,hm,.inl ⟨Nat.le_refl _,sO,Ext.refl _⟩⟩
 case hround=>
  rintro i w1 ⟨tV,mz,gu⟩ ih;have ah:=mz.On
  try dsimp only
  refine Pz O$ qV ((OB U66 O O tV O))$ Pb O$ OL UF O$ qV ((OB Vq O O ah O))$ Ro Vq O$ Qv O$ Oq$ OH O (λh0=>?_)$ λh0=>?_
  ·have tW : 2 <= i /\ i <= a /\ Ext w w1 := by
    rcases gu with h| h
    ·exact h
    ·omega
   obtain⟨dt,NV,ad⟩:=tW;refine Ot$ Qt$ P7 O$ qV (Sa (cs:=[_,_]) QT O zho O O)$ Oy O O (Rq (cs:=[_,_]) QT O) ?_;rintro _ w2 ⟨b4,rfl,gF,ae,aH⟩;refine OJ O (Py (news:=[I (i:Int),I 0]) QT O O O O aH ξ) ?_;rintro w3 ⟨dP,ar⟩;replace dP:OE w3 b4 [I (i:Int),I 0] 124:=dP;have aU:Ext w1 w3:=ae.It ar (λj e=>by omega);have tX:=aU.On tV;have kX:=mz.ext aU;have ao:=kX.On;refine Oq$ Qt$ Rw (α:=Nat) (i) (λj=>[(0,.func (.yield l) #[] #[]),(1,ptr bm 0),(3,I (j:Int)),(4,ptr b4 0)]) (λj w'=>w'=w3/\i<=j/\j<=L.length/\(i<j->i=a)) (λj=>L.length-j) ?hI ?hround
   case hI=>exact⟨rfl,Nat.le_refl _,ω,λh=>absurd h ω⟩
   case hround =>
    rintro j w4 ⟨rfl,gJ,NW,Es⟩ ih2
    try dsimp only
    rcases Nat.lt_or_ge j L.length with hj|hj
    ·obtain⟨b,hb⟩:∃b,L[j]? =some b:=⟨_,List.getElem?_eq_getElem hj⟩;have aY:=kX.get hb;refine Pz O$ qV ((OB U66 O O tX O))$ Pb O$ OL UF O$ qV ((OB Vq O O ao O))$ Ro Vq O$ Qv O$ Rf$ OC O$ qV ((OB U66 O O tX O))$ Pb O$ OL UF O$ qV ((OB Vq O O ao O))$ OC O ?_;refine qV (PK Vq z1S O O ω) ?_
     cases b with
     | true =>
       refine qV (Pc (v:= .int .u8 1) za0 O O aY) ?_
       have Li:i<a:=by
        rcases Nat.lt_or_ge i a with h| h
        ·exact h
        ·have:=hp.fr j ω hj;rw[this] at hb;cases hb
       have rv:j=i:=by
        rcases Nat.lt_or_ge i j with h| h
        ·have:=Es h;omega
        ·omega
       subst rv;refine QS O (Pu (QQ O (Oq (Ox O (OD O (P7 O (OL QJ O (qV (OB U3 O O dP O) (Ra O (OL QX O (OJ O (Qw PH O O O dP ξ) ?_)))))))))));rintro w5 ⟨aI,ai⟩;rw[show(j:Int)-(j:Int)=0 by omega] at aI;replace aI:OE w5 b4 [I (j:Int),I 0] 124:=aI;have bF:Ext w1 w5:=aU.It ai (λq e=>by have:=ae.size;omega);refine qM O$ OL QX O$ qV (OB U3 O O aI O)$ Qr O$ OC O$ QI$ QI$ PC O$ PX O$ Om$ R0 O$ PL O$ OK O ?_
       exact(ih (j+1) w5 ⟨bF.On tV,mz.ext bF,.inl ⟨ω,ω,ad.trans bF⟩⟩ ω).qb
     | false =>
       refine qV (Pc (v:= .int .u8 0) za0 O O aY)$ QS O$ Rf$ QQ O ?_
       have tY:i=a:=by
        rcases Nat.lt_or_ge i a with h| h
        ·rcases Nat.lt_or_ge i j with h2|h2
         ·exact Es h2
         ·have e:j=i:=by omega
          subst e;have:=hp.tk j dt h;rw[this] at hb;cases hb
        ·omega
       refine Oq$ OI O$ Ot$ Ou$ R0 O$ PL O$ OK O$ Om ?_;exact(ih2 (j+1) _ ⟨rfl,ω,ω,λ_=>tY⟩ ω).qb
    ·have Lj:j=L.length:=by omega
     subst Lj;have tY:=Es ω;subst tY;refine Pz O$ qV ((OB U66 O O tX O))$ Pb O$ OL UF O$ qV ((OB Vq O O ao O))$ Ro Vq O$ Qv O$ Pu$ OC O$ QI$ QI$ QI$ QI$ PC O ?_;refine Oq (Ox O (OD O (P7 O (OL QJ O (qV (OB U3 O O dP O) (Ra O (OL QX O (OJ O (Qw PH O O O dP ξ) ?_))))))));rintro w5 ⟨aI,ai⟩;rw[show(L.length:Int)-(i:Int)=((L.length-i:Nat):Int) by omega] at aI;replace aI:OE w5 b4 [I (i:Int),I ((L.length-i:Nat):Int)] 124:=aI;have bF:Ext w1 w5:=aU.It ai (λq e=>by have:=ae.size;omega);refine qM O$ OL QX O$ qV (OB U3 O O aI O)$ Qr O$ Rf$ OX O$ qV (Pa (news:=[I (i:Int),I ((L.length-i:Nat):Int)]) WY O QT O (OE.cells (n:=2) aI O) O)$ z5v O O (yy O O) (hround w5 (ad.trans bF)) ?_;rintro v w6 hv;rcases hv with⟨rfl,yS,Et,Lk⟩|⟨rfl,yS⟩
     ·refine qV ((S1 O))$ QQ O$ PX O$ Om$ R0 O$ PL O$ OK O ?_;exact(ih (L.length+1) w6 ⟨Et,Lk,.inr ⟨rfl,yS⟩⟩ ω).qb
     ·refine qV ((S1 O))$ QQ O$ Oq$ OI O$ Oo func88 O ?_;exact⟨_,rfl,rfl,yS⟩
  ·rcases gu with⟨-,h,-⟩|⟨-,yS⟩
   ·omega
   ·refine OD O$ PQ func88 O ?_;exact⟨_,rfl,rfl,yS⟩
def YB (w:World)(m:Nat):P9 prog 57 [ptr m 0] w λv w'=>∃bm,v= .func (.func 88) #[] #[ptr bm 0]/\OE w' bm [ptr m 0] 66/\w.heap.size<=bm/\Ext w w':=by
 refine py (e:=[(0,_)]) func57 O ntmps57 O O$ qN O$ Oy O O (R9 O (cs:=[ptr m 0]) O) ?_
 rintro _ w1 ⟨bm,rfl,ld,ad,ah⟩
 refine QL O$ qV (ymf (first:=[]) (caps:=[.tmp 1]) O O)$ OK O$ Oo func57 O ?_
 exact⟨_,rfl,bm,rfl,ah,ω,ad⟩
theorem z5h (h:Xm w m gi L)(hp:Pre L a)(ha:a<L.length):P9 prog 25 [ptr m 0] w λv w'=>v=I ((L.length-a:Nat):Int)/\Ext w w':=by
 have hn:=h.n
 refine py (e:=[(0,_)]) func25 O ntmps25 O O$ qN O$ QL O$ Oy O O (Rq (cs:=[_]) PH O) ?_
 rintro _ w1 ⟨b3,rfl,dY,ad,ao⟩
 refine OJ O (Qw PH O O O ao ξ) ?_
 rintro w2 ⟨df,am⟩
 replace df:OE w2 b3 [I 0] 3:=df
 have ae:Ext w w2:=ad.It am (λj e=>by omega)
 refine Oq$ Pz O$ qV (z3H U66 O O)$ Oq$ OI O$ P7 O$ OQ zhC O (YB w2 m) ?_
 rintro _ w3 ⟨bm,rfl,ld,nN,aj⟩
 have cg:=ae.trans aj
 have ez:=aj.On df
 have kX:=h.ext cg
 have l3:=ez.lt
 have l32:=df.lt
 have lm:=ld.lt
 have lmm:=h.ltm
 have lmg:=h.ltg
 have z1:=ad.size
 refine Oq$ Ou$ SF (ps:=[9]) (p:=[]) (q:=[_]) O zh0 ?_
 rintro l wl dT fx cH hD Rc cE dZ
 have Eu:=z9Y cE dZ
 have zl:=dT.size
 refine P9.mono (Yd (kX.ext dT) hp ha (dT.On ld)
  (λw'=>Rc .ready none w'/\OE w' b3 [I ((L.length-a:Nat):Int)] 3/\Kp (λk=>k=l\/k=b3) wl w')
  (λw w' h hx=>⟨hx.kp.rc (S:=λ_=>False) cE h.1 id,hx.On h.2.1,h.2.2.trans hx.kp⟩) ?_) ?_
 ·intro w4 aC;have iN:=Kp.rc (S:=λ_=>False) aC cE dZ id;have dl:=aC.On (dT.On ez);have z4:=aC.size;refine TA cE iN O O$ Oz O$ Oy O O (Rq (cs:=[_,_]) QT O) ?_;rintro _ w5 ⟨b4,rfl,gF,aR,aH⟩;refine OJ O (Py (news:=[I (a:Int),I ((L.length-a:Nat):Int)]) QT O O O O aH ξ) ?_;rintro w6 ⟨bM,aJ⟩;replace bM:OE w6 b4 [I (a:Int),I ((L.length-a:Nat):Int)] 124:=bM;have cP:Ext w4 w6:=aR.It aJ (λj e=>by omega);have Ll:=Kp.rc (S:=λ_=>False) cP cE iN id;have z46:=cP.size;have l4:=bM.lt;refine Oq$ run_beginRound O cE Ll ?_;rintro w7 h7 ax;have jJ:=ax.On (cP.On dl) ω;have ba:=ax.On bM ω;refine Ou$ Oz O$ qV ((OB U3 O O jJ O))$ OL QX O$ qV ((OB U3 O O ba O))$ PL O ?_;rw[show(0:Int)+((L.length-a:Nat):Int)=((L.length-a:Nat):Int) by omega];refine OJ O (Qw PH O O O jJ ξ) ?_;rintro w8 ⟨mQ,aP⟩;have h8:=Kp.rc aP cE h7 ω;refine Oq$ Om$ Sf cE h8 ?_;intro w9 h9 aK;have kj:Kp (λk=>k=l\/k=b3) w4 w9:=((cP.kp.trans (ax.OA λk e=> .inl e)).trans (aP.OA λk e=> .inr e)).trans (aK.OA λk e=> .inl e);exact .inl ⟨rfl,⟨h9,aK.On mQ ω,aC.kp.trans kj⟩,kj.On (aC.On (dT.On ld)) ω,((kX.ext dT).ext aC).kp kj ω ω⟩
 ·rintro v wz ⟨rfl,iN,Lm,dr⟩;refine⟨_,_,iN,ξ,λwy dR=>?_⟩;have zz:=dr.size;have zy:=dR.size;have Ln:=dR.On Lm ω;have qa:=dR.heap (dr.heap hD ω) ω;refine Om (qN O (qV (OB U3 O O Ln O) (OK O (z4j ξ (Wy qa) func25 O ?_))));have z3:=aj.size;have cC:Kp (λk=>k=w3.heap.size) wy (So [.mk w3.heap.size] wy):=Qi wy w3.heap.size (.deferred none);have Ev:Kp (λk=>k=l\/k=b3\/k=w3.heap.size) w3 (So [.mk w3.heap.size] wy):=((dT.kp.trans (dr.OA λk e=>by omega)).trans (dR.OA λk e=>by omega)).trans (cC.OA λk e=>by omega);exact⟨_,rfl,rfl,cg.It Ev (λk e=>by omega)⟩
end
section
variable {w w':World}{m gi a:Nat}{L:List Bool}{S:Nat->Prop}
theorem z4L (h:Xm w m gi L)(hp:Pre L a){n:Nat}(ce:1<=n)(oU:a+n<=L.length):P9 prog 96 [ptr m 0,I (n:Int)] w λv w'=>v= .tuple #[.agg #[I (a:Int),I (n:Int)],I 0]/\Xm w' m gi (PJ L a n true)/\Kp (λk=>k=gi) w w':=by
 have hn:=h.n
 refine py (e:=[(0,_),(1,_)]) func96 O ntmps96 O O$ qN O$ Oy O O (R9 O (cs:=[ptr m 0]) O) ?_
 rintro _ w1 ⟨b2,rfl,bP,ad,ak⟩
 refine Oy O O (R9 O (cs:=[I (n:Int)]) O) ?_
 rintro _ w2 ⟨b3,rfl,dY,ae,ao⟩
 refine Oy O O (Rq (cs:=[_,_]) QT O) ?_
 rintro _ w3 ⟨b4,rfl,gF,aj,aH⟩
 refine Oy O O (Rq (cs:=[_]) z4w O) ?_
 rintro _ w4 ⟨b5,rfl,fR,aC,aD⟩
 have l2:=ak.lt
 have l3:=ao.lt
 have l4:=aH.lt
 have l5:=aD.lt
 have z1:=ad.size
 have z2:=ae.size
 have z3:=aj.size
 have z4:=aC.size
 have eA:=aC.On (aj.On (ae.On ak))
 have dl:=aC.On (aj.On ao)
 have cy:=aC.On aH
 refine Oq$ Qt$ qN O$ qV ((OB U66 O O eA O))$ qV (PU U66 O O)$ OK O$ Ox O$ qN O$ qV ((OB U3 O O dl O))$ Qv O$ Pu$ OK O$ T2 O$ Om ?_
 refine An$ qN O$ qV ((OB U66 O O eA O))$ OQ zhC O (YB w4 m) ?_
 rintro _ w5 ⟨bm,rfl,ld,nN,aR⟩
 have bL:=(((ad.trans ae).trans aj).trans aC).trans aR
 have rF:=h.ext bL
 have lm:=ld.lt
 have lmm:=h.ltm
 have lmg:=h.ltg
 have z5:=aR.size
 refine Oq$ Ou$ SF (ps:=[17]) (p:=[]) (q:=[_]) O zh0 ?_
 rintro l wl dT fx cH hD Rc cE dZ
 have Eu:=z9Y cE dZ
 have zl:=dT.size
 have xS:=aR.trans dT
 refine P9.mono (Yd (rF.ext dT) hp ω (dT.On ld)
  (λw'=>Rc .done (some .ret) w'/\OE w' b4 [I (a:Int),I (n:Int)] 124/\OE w' b5 [I 0] 45/\Xm w' m gi (PJ L a n true)/\Kp (λk=>k=l\/k=b4\/k=b5\/k=gi) wl w')
  (λw w' h hx=>⟨hx.kp.rc (S:=λ_=>False) cE h.1 id,hx.On h.2.1,hx.On h.2.2.1,h.2.2.2.1.ext hx,h.2.2.2.2.trans hx.kp⟩) ?_) ?_
 ·intro w6 aQ;have iN:=Kp.rc (S:=λ_=>False) aQ cE dZ id;have z6:=aQ.size;refine TA cE iN O O$ Oz O$ Oy O O (Rq (cs:=[_,_]) QT O) ?_;rintro _ w7 ⟨b6,rfl,oD,ci,aT⟩;refine OJ O (Py (news:=[I (a:Int),I ((L.length-a:Nat):Int)]) QT O O O O aT ξ) ?_;rintro w8 ⟨iA,aP⟩;replace iA:OE w8 b6 [I (a:Int),I ((L.length-a:Nat):Int)] 124:=iA;have iq:Ext w6 w8:=ci.It aP (λj e=>by omega);have vN:=Kp.rc (S:=λ_=>False) iq cE iN id;have z8:=iq.size;have l6:=iA.lt;refine Oq$ run_beginRound O cE vN ?_;rintro w9 h9 aK;have qc:=(xS.trans aQ).trans iq;have tZ:=aK.On (qc.On dl) ω;have u5:=aK.On (qc.On eA) ω;have iB:=aK.On iA ω;have Lo:=((((rF.ext dT).ext aQ).ext iq).kp aK ω ω);refine Ou (qN O (OL QX O (qV ((OB U3 O O iB O)) (qV ((OB U3 O O tZ O)) (TE O (Rf (Oq (OI O (qN O (qV ((OB U3 O O tZ O)) (OL QX O (OJ O (Qw PH O O O iB ξ) ?_))))))))))));rintro w10 ⟨i5,aA⟩;replace i5:OE w10 b6 [I (a:Int),I (n:Int)] 124:=i5;have yT:=aA.On u5 ω;have Ew:=Lo.kp aA ω ω;have i6:=Kp.rc aA cE h9 ω;refine qM O$ qV (OB U66 O O yT O)$ qV (Pa (news:=[I (a:Int),I (n:Int)]) WY O QT O (OE.cells (n:=2) i5 O) O)$ OQ zdJ O (z2i Ew a n true oU) ?_;rintro _ w11 ⟨rfl,Ex,bz⟩;have yU:=bz.On i5 ω;have yV:=bz.On (aA.On (aK.On (qc.On cy) ω) ω) ω;have yW:=bz.On (aA.On (aK.On (qc.On aD) ω) ω) ω;have oE:=Kp.rc bz cE i6 ω;refine Oq$ P8.qb (e:=[(4,_),(5,_),(6,_)]) ?_;refine qN O (qV (Pa (news:=[I (a:Int),I (n:Int)]) WY O QT O (OE.cells (n:=2) yU O) O) (OJ O (Py (news:=[I (a:Int),I (n:Int)]) QT O O O O yV ξ) ?_));rintro w12 ⟨yX,bj⟩;refine OJ O (Qw z4w O O O (bj.On yW ω) ξ) ?_;rintro w13 ⟨yY,di⟩;have yZ:=Kp.rc di cE (Kp.rc bj cE oE ω) ω;refine Oq ?_
  -- AT: Code.ret
  refine VA cE yZ ?_;intro w14 Lp cF
  exact .inr ⟨rfl,Lp,cF.On (di.On yX ω) ω,cF.On yY ω,((Ex.kp bj ω ω).kp di ω ω).kp cF ω ω,
   (((((((aQ.kp.trans iq.kp).trans (aK.OA λk e=>by omega)).It aA (λk e=>by omega)).trans (bz.OA λk e=>by omega)).trans (bj.OA λk e=>by omega)).trans (di.OA λk e=>by omega)).trans (cF.OA λk e=>by omega))⟩
 ·rintro v wz ⟨rfl,iN,Ey,Ez,Lq,dr⟩;refine⟨_,_,iN,ξ,λwy dR=>?_⟩;have zz:=dr.size;have zy:=dR.size;have EA:=dR.On Ey ω;have EB:=dR.On Ez ω;have qa:=dR.heap (dr.heap hD ω) ω;have cC:=Qi wy w5.heap.size (.deferred none);have Lr:=cC.On EA ω;have EC:=cC.On EB ω;refine Vj ξ (Wy qa) func96 (.cell WY O QT O (OE.cells (n:=2) Lr (news:=[_,_]) O) O (.cell1 U45 O O ((EC).cell _) .nil)) ?_;have u7:Kp (λk=>k=gi) w (So [.mk w5.heap.size] wy):=((((bL.kp.trans dT.kp).It dr (λk e=>by omega)).It dR (λk e=>by omega)).It cC (λk e=>by omega));exact⟨_,rfl,rfl,(Lq.kp dR ω ω).kp cC ω ω,u7⟩
end
section
variable {w w':World}{m gi:Nat}{L:List Bool}
def z8Y (h:Xm w m gi L)(s n:Nat)(ce:1<=n)(dg:2<=s)(j9:s+n<=L.length):P9 prog 146 [ptr m 0,.agg #[I (s:Int),I (n:Int)]] w λv w'=>v= .bool true/\Ext w w':=by
 have hn:=h.n
 refine py (e:=[(0,_),(1,_)]) func146 O ntmps146 O O$ qN O$ Oy O O (R9 O (cs:=[I (s:Int),I (n:Int)]) O) ?_
 rintro _ w1 ⟨b3,rfl,dY,ad,ao⟩
 have hg:=Ext.OT w1
 have ub:=(h.ext ad).On
 refine OK O$ An$ R8 (λw'=>Ext w1 w') O$ Ow 0 O (Pk QX O) hg$ qT 1 O (λ_ h=>(OB U3 O O (h.On ao) O)) hg$ Ow 2 O (yge O O) hg$ TH$ OR 3 O O (hg)$ Ow 4 O (Pk QJ O) hg$ qT 5 O (λ_ h=>(OB U3 O O (h.On ao) O)) hg$ OR 6 O O (hg)$ Ow 7 O (Q8 O) hg$ Ow 8 O (Pk z6Y O) hg$ qT 9 O (λ_ h=>(OB U3 O O (h.On ub) O)) hg ?_
 refine Ow 10 O (yge O O) hg$ TH$ Ow 11 O (UT O O) hg$ OR 12 O O (hg)$ Ow 13 O (Pk QJ O) hg$ qT 14 O (λ_ h=>(OB U3 O O (h.On ao) O)) hg$ OR 15 O O (hg)$ Ow 16 O (Q8 O) hg$ Ow 17 O (Pk UF O) hg$ qT 18 O (λ_ h=>(OB Vq O O (h.On ub) O)) hg$ Ow 19 O (St Vq O) hg$ Ow 20 O (ylt O O) hg$ TH$ Ow 21 O (UT O O) hg ?_
 refine OR 22 O O (hg)$ Ow 23 O (Pk QX O) hg$ qT 24 O (λ_ h=>(OB U3 O O (h.On ao) O)) hg$ OR 25 O O (hg)$ Ow 26 O (Q8 O) hg$ Ow 27 O (Pk UF O) hg$ qT 28 O (λ_ h=>(OB Vq O O (h.On ub) O)) hg$ Ow 29 O (St Vq O) hg$ Ow 30 O (Pk QJ O) hg$ qT 31 O (λ_ h=>(OB U3 O O (h.On ao) O)) hg$ Ow 32 O (X8 O O ω) hg$ Ow 33 O (YF O O) hg$ TH$ Ow 34 O (UT O O) hg ?_
 refine Ow 35 O (Rr O) hg$ qE$ P8.qb (e:=[(4,_)]) ?_
 refine Oo func146 O ?_
 exact⟨_,rfl,rfl,ad.trans hg⟩
def z5Y {b5:Nat}(c d:Bool)(hB:OE w b5 [stV d] 185)(wc:c=d):P9 prog 181 [stV c,ptr b5 0] w λv w'=>v= .bool false/\w'=w:=by
 subst wc
 cases c with
 | true =>
   replace hB:OE w b5 [.int .u8 1] 185:=hB;show P9 prog 181 [.int .u8 1,ptr b5 0] w _;refine py (e:=[(0,_),(1,_)]) func181 O ntmps181 O O$ qN O$ QO O$ qV (OB za0 O O hB O)$ Ql O$ Pu$ OK O$ Oo func181 O ?_
   exact⟨_,rfl,rfl,rfl⟩
 | false =>
   replace hB:OE w b5 [.int .u8 0] 185:=hB;show P9 prog 181 [.int .u8 0,ptr b5 0] w _;refine py (e:=[(0,_),(1,_)]) func181 O ntmps181 O O$ qN O$ QO O$ qV (OB za0 O O hB O)$ Ql O$ Pu$ OK O$ Oo func181 O ?_;exact⟨_,rfl,rfl,rfl⟩
def z8C {b5 b o n cap:Nat}(hn:n<=4096)(c:Bool)(hB:OE w b5 [stV c] 185)(hR:Rd w (.slice (some ⟨b,o,none⟩) n cap) 1 n (List.replicate n (stV c))):
  P9 prog 208 [.slice (some ⟨b,o,none⟩) n cap,.func (.func 181) #[] #[ptr b5 0]] w λv w'=>v=I (-1)/\w'=w:=by
 refine py (e:=[(0,_),(1,_)]) func208 O ntmps208 O O$ QB O$ Pz O$ Ro Vq O$ OC O$ Oq$ Ou$ Rw (α:=Nat) (0) (λi=>[(0,.slice (some ⟨b,o,none⟩) n cap),(1,.func (.func 181) #[] #[ptr b5 0]),(7,I (n:Int)),(8,I (i:Int))]) (λi w'=>w'=w/\i<=n) (λi=>n-i) ?hI ?hround
 case hI=>exact⟨rfl,Nat.zero_le _⟩
 case hround=>
  rintro i w1 ⟨rfl,hi⟩ ih
  try dsimp only
  refine qN O$ Qv O$ Oq$ An$ OH O (λh0=>?_)$ λh0=>?_
  ·refine Ot (Qt (P7 O (QL O (OX O (OC O (qV (PK Vq z1S O O ω) (qV (Pc (v:=stV c) za0 O O (PM hR (by rw[List.getElem?_replicate,if_pos ω]))) ?_)))))));refine Qy O O (RY zfh O O) (z5Y c c hB O) ?_;rintro _ w1 ⟨rfl,rfl⟩;refine PX O$ Om$ Oz O$ PL O$ OC O$ Oq ?_;exact(ih (i+1) _ ⟨rfl,ω⟩ ω).qb
  ·refine OD O$ QB O$ Oo func208 O ?_;exact⟨_,rfl,rfl,rfl⟩
def z8n {b5 b o n cap:Nat}(hn:n<=4096)(c:Bool)(hB:OE w b5 [stV c] 185)(hR:Rd w (.slice (some ⟨b,o,none⟩) n cap) 1 n (List.replicate n (stV c))):
  P9 prog 180 [.slice (some ⟨b,o,none⟩) n cap,.func (.func 181) #[] #[ptr b5 0]] w λv w'=>v= .bool false/\w'=w:=by
 refine py (e:=[(0,_),(1,_)]) func180 O ntmps180 O O$ qN O$ QL O$ OX O$ OQ zhm O (z8C hn c hB hR) ?_
 rintro _ w ⟨rfl,rfl⟩
 refine TE O$ Pu$ OK O$ Oo func180 O ?_
 exact⟨_,rfl,rfl,rfl⟩
def z8O (h:Xm w m gi L)(s n:Nat)(c:Bool)(ce:1<=n)(j9:s+n<=L.length)(hc:∀i,s<=i->i<s+n->L[i]? =some c):P9 prog 147 [ptr m 0,.agg #[I (s:Int),I (n:Int)],stV c] w λv w'=>v= .bool true/\Ext w w':=by
 have hn:=h.n
 refine py (e:=[(0,_),(1,_),(2,_)]) func147 O ntmps147 O O$ qN O$ Oy O O (R9 O (cs:=[I (s:Int),I (n:Int)]) O) ?_
 rintro _ w1 ⟨b4,rfl,gF,ad,aH⟩
 refine Oy O O (R9 O (cs:=[stV c]) (by cases c<;>rfl)) ?_
 rintro _ w2 ⟨b5,rfl,fR,ae,aD⟩
 have hg:=Ext.OT w2
 have aL:=ad.trans ae
 have ub:=(h.ext aL).On
 have bq:=ae.On aH
 have dQ:=(h.ext aL).ext hg
 refine OK O$ An$ R8 (λw'=>Ext w2 w') O$ OR 0 O O (hg)$ Ow 1 O (Q8 O) hg$ Ow 2 O (Pk UF O) hg$ qT 3 O (λ_ h=>(OB Vq O O (h.On ub) O)) hg$ Ow 4 O (Pk QJ O) hg$ qT 5 O (λ_ h=>(OB U3 O O (h.On bq) O)) hg$ Ow 6 O (Pk QJ O) hg$ qT 7 O (λ_ h=>(OB U3 O O (h.On bq) O)) hg$ Ow 8 O (Pk QX O) hg$ qT 9 O (λ_ h=>(OB U3 O O (h.On bq) O)) hg$ Ow 10 O (Uw O O ω) hg ?_
 refine Ow 12 O (ymf (first:=[]) (caps:=[.tmp 5]) O O) hg ?_
 rw[show(s:Int)+(n:Int)=((s+n:Nat):Int) by omega]
 refine Ow 11 O (zes (i:=s) (j:=s+n) Vq z1S O O O ω ω) hg ?_
 rw[show s+n-s=n by omega]
 have hR:Rd w2.drew (.slice (some ⟨gi,0+s*1,none⟩) n (L.length-s)) 1 n (List.replicate n (stV c)):=by
  have h1:=UA (Tw dQ.sl.rd (i:=s) ω (Nat.le_refl _)) (i:=n) ω;rw[if_neg ω] at h1
  have e:((L.map stV).drop s).take n=List.replicate n (stV c):=by
   apply List.ext_getElem?;intro i;rw[List.getElem?_take,List.getElem?_drop,List.getElem?_map,List.getElem?_replicate];by_cases hi:i<n
   ·rw[if_pos hi,if_pos hi,hc (s+i) ω ω];rfl
   ·rw[if_neg hi,if_neg hi]
  rw[e] at h1
  have e2:(some (⟨gi,0,none⟩:Addr)).map (λx=>x.add (s*1))=some ⟨gi,0+s*1,none⟩:=by
   show some (Addr.add _ _)=_;unfold Addr.add;split
   ·rename_i h0;rw[h0]
   ·rfl
  rw[e2] at h1;exact h1
 refine SH 13 O zg7 O (z8n ω c ((hg.On aD)) hR) ?_
 rintro _ w3 ⟨rfl,rfl⟩
 refine⟨hg,?_⟩
 refine Ow 14 O ((S1 O)) hg$ Ow 15 O (Rr O) hg$ qE$ Oo func147 O ?_
 exact⟨_,rfl,rfl,aL.trans hg⟩
def z5W (h:Xm w m gi L)(s n:Nat)(ce:1<=n)(dg:2<=s)(j9:s+n<=L.length)(hc:∀i,s<=i->i<s+n->L[i]? =some true):P9 prog 109 [ptr m 0,.agg #[I (s:Int),I (n:Int)]] w λv w'=>v=I 0/\Xm w' m gi (PJ L s n false)/\Kp (λk=>k=gi) w w':=by
 refine py (e:=[(0,_),(1,_)]) func109 O ntmps109 O O$ qN O$ Oy O O (R9 O (cs:=[I (s:Int),I (n:Int)]) O) ?_
 rintro _ w1 ⟨b3,rfl,dY,ad,ao⟩
 have h1:=h.ext ad
 have l3:=ao.lt
 have lg:=h.ltg
 refine OK O$ Qt$ P7 O$ qV (PU U66 O O)$ OK O$ Ox O$ P7 O$ qV (Pa (news:=[I (s:Int),I (n:Int)]) WY O QT O (OE.cells (n:=2) ao O) O)$ OQ zh4 O (z8Y h1 s n ce dg j9) ?_
 rintro _ w2 ⟨rfl,ae⟩
 have h2:=h1.ext ae
 have df:=ae.On ao
 refine qV ((S1 O))$ OX O$ qV (Pa (news:=[I (s:Int),I (n:Int)]) WY O QT O (OE.cells (n:=2) df O) O)$ OQ zfI O (z8O h2 s n true ce j9 hc) ?_
 rintro _ w3 ⟨rfl,aj⟩
 have h3:=h2.ext aj
 have ez:=aj.On df
 have ub:=h3.On
 refine qV ((S1 O))$ PC O$ OK O$ Ox O$ P7 O$ Pb O$ OL zc6 O$ qV (OB U4 O O ub O)$ OK O$ Ox O ?_
 have ez:=aj.On df
 refine R0 O$ qV (Pa (news:=[I (s:Int),I (n:Int)]) WY O QT O (OE.cells (n:=2) ez O) O)$ OQ zdJ O (z2i h3 s n false j9) ?_
 rintro _ w4 ⟨rfl,h4,aq⟩
 refine Oq$ P8.qb (e:=[(4,_)]) ?_
 refine Om$ QB O$ Oo func109 O ?_
 exact⟨_,rfl,rfl,h4,((ad.trans ae).trans aj).kp.trans aq⟩
end
structure Dev where
 due:Int
 Sn:List Int
 zcy:Int
 mask:UInt8
 B:Nat
 N:Nat
 sf:Int->Option Ov
 cache:List (Int×Ov)
 down:Bool
 calls:Int
 reads:Int
def zeros (n:Nat):Ov:=List.replicate n 0
def Dev.kept (D:Dev)(n:Int):Ov:=(D.sf n).getD (zeros (512*D.N))
def Wk (l:List (Int×Ov))(n:Int):Option Ov:=(l.reverse.find? λx=>x.1==n).map (·.2)
def Dev.now (D:Dev)(n:Int):Ov:=(Wk D.cache n).getD (D.kept n)
def Dev.has (D:Dev)(n:Int):Bool:=decide (0<=n/\n<(D.B:Int))
def Dev.count (D:Dev):Dev:={D with calls:=D.calls+1,due:=if D.due=0 then 0 else D.due-1}
structure Dev.Ok (D:Dev):Prop where
 hB:16<=D.B/\D.B<=4096
 hN:1<=D.N/\D.N<=8
 due:0<=D.due/\D.due<=9223372036854775807
 sf:∀n s,D.sf n=some s->0<=n/\n<(D.B:Int)/\s.length=512*D.N
 cache:∀x∈D.cache,0<=x.1/\x.1<(D.B:Int)/\x.2.length=512*D.N
 len:0<=D.calls
 reads:True
def Dev.Bd (D:Dev):Prop:=D.calls<1000000000000/\D.cache.length<1000000000000/\True
def wr (x:Int×Ov):List Value:=[I x.1,S x.2]
def wrs (l:List (Int×Ov)):List Value:=l.flatMap wr
@[simp] theorem wrs_length (l:List (Int×Ov)):(wrs l).length=l.length*2:=by
 induction l with
 |nil=>rfl
 |cons x r ih=>simp[wrs,wr,List.flatMap_cons] at ih⊢;omega
def Ym (kp ca:Value)(m:Nat)(D:Dev):List Value:=[I D.due,kp,I D.zcy,Tg D.mask,I (D.B:Int),I (D.N:Int),.map (some m),ca,.bool D.down,I D.calls,I D.reads]
@[simp] theorem devCs_length (kp ca:Value) (m:Nat) (D:Dev):(Ym kp ca m D).length=11:=rfl
abbrev KI:Int->Value:=λz=> .int .i64 z
structure RK (w:World)(p m:Nat)(kp ca:Value)(D:Dev):Prop where
 On:OE w p (Ym kp ca m D) 132
 map:∃kv,Wi KI w m kv/\∀n,R1 kv n=(D.sf n).map S
 cache:Sl w ca 336 2 D.cache.length (wrs D.cache)
 Sn:Sl w kp 3 1 D.Sn.length (D.Sn.map I)
 ok:D.Ok
def fpD (p m:Nat)(kp ca:Value):Nat->Prop:=λk=>k=p\/k=m\/ca.ownBlock=some k\/kp.ownBlock=some k
def VS (w:World)(p:Nat)(D:Dev)(F:Nat->Prop):Prop:=∃m kp ca,RK w p m kp ca D/\∀k,F k↔fpD p m kp ca k
def Upd (F F':Nat->Prop)(w w':World):Prop:=Kp F w w'/\∀k,F' k->F k\/w.heap.size<=k
theorem Upd.trans {F F' F'':Nat->Prop}{a b c:World}(h:Upd F F' a b)(k:Upd F' F'' b c):Upd F F'' a c:=
 ⟨h.1.It k.1 λi hi=>(h.2 i hi).symm,λi hi=>by
  rcases k.2 i hi with h'|h'
  ·exact h.2 i h'
  ·exact .inr (Nat.le_trans h.1.size h')⟩
theorem Ext.Zb {F:Nat->Prop}{w w':World}(h:Ext w w'):Upd F F w w':=⟨h.kp,λ_ h=> .inl h⟩
theorem RK.pm {w:World}{p m:Nat}{kp ca:Value}{D:Dev}(h:RK w p m kp ca D):¬p=m:=λe=>by
 obtain⟨kv,⟨⟨es,c,hh,-⟩,-⟩,-⟩:=h.map
 obtain⟨fz,hb,-⟩:=h.On
 rw[e] at hb;rw[hb] at hh;cases hh
def Td {w:World}{v:Value}{e size n:Nat}{cs:List Value}{b:Nat}(h:Sl w v e size n cs)(hb:v.ownBlock=some b):∃xs fz,w.heap[b]? =some (.cells xs e fz):=by
 rcases h.2 with⟨hz,-⟩|⟨g,cap,cur,hv,-,hg,-⟩
 ·rw[hz] at hb;cases hb
 ·rw[hv] at hb;cases hb;exact⟨_,_,hg⟩
def RK.kp {S:Nat->Prop}{w w':World}{p m:Nat}{kp ca:Value}{D:Dev}(h:RK w p m kp ca D)(k:Kp S w w')(hn:∀i,fpD p m kp ca i->¬S i):RK w' p m kp ca D:=
 ⟨k.On h.On (hn p (.inl O)),let ⟨kv,h1,h2⟩:=h.map;⟨kv,k.map h1 (hn m (.inr (.inl O))),h2⟩,h.cache.kp k λg hg=>hn g (.inr (.inr (.inl hg))),h.Sn.kp k λg hg=>hn g (.inr (.inr (.inr hg))),h.ok⟩
def RK.ext {w w':World}{p m:Nat}{kp ca:Value}{D:Dev}(h:RK w p m kp ca D)(k:Ext w w'):RK w' p m kp ca D:=h.kp k λ_ _=>id
theorem Dev.Ok.count {D:Dev}(h:D.Ok):D.count.Ok:=by
 have:=h.due
 have:=h.len
 refine⟨h.hB,h.hN,?_,h.sf,h.cache,?_,h.reads⟩
 ·simp only[Dev.count];split<;>omega
 ·simp only[Dev.count];omega
def RK.turn {w w':World}{p m:Nat}{kp ca:Value}{D D':Dev}(h:RK w p m kp ca D)(hb:OE w' p (Ym kp ca m D') 132)(k:Kp (λi=>i=p) w w')(h1:D'.sf=D.sf)(h2:D'.cache=D.cache)(h3:D'.Sn=D.Sn)(h4:D'.N=D.N)(aw:D'.Ok):RK w' p m kp ca D':=by
 obtain⟨fz,hp,-⟩:=h.On
 refine⟨hb,let ⟨kv,hm,hs⟩:=h.map;⟨kv,k.map hm λe=>h.pm e.symm,by rw[h1];exact hs⟩,?_,?_,aw⟩
 ·rw[h2];refine h.cache.kp k λg hg qd=>?_;obtain⟨xs,fz',hx⟩:=Td h.cache hg;rw[qd,hp] at hx;cases hx
 ·rw[h3];refine h.Sn.kp k λg hg qd=>?_;obtain⟨xs,fz',hx⟩:=Td h.Sn hg;rw[qd,hp] at hx;cases hx
def Zb (f:Int->Option Ov)(n:Int)(s:Ov):Int->Option Ov:=λx=>if x=n then some s else f x
def z95 (c:Ov)(i:Nat)(x:Ov):Ov:=c.take i++x++c.drop (i+x.length)
def mixN (mask:UInt8)(a b:Ov):Nat->Ov
 |0=>a
 |s+1=>if mask.toNat / 2^s%2=1 then z95 (mixN mask a b s) (512*s) ((b.drop (512*s)).take 512) else mixN mask a b s
theorem z4c (c x:Ov)(i:Nat)(h:i+x.length<=c.length):(z95 c i x).length=c.length:=by
 simp[z95];omega
def Wa (mask:UInt8)(a b:Ov)(N:Nat)(ha:a.length=512*N)(hb:b.length=512*N):∀s,s<=N->(mixN mask a b s).length=512*N
 |0,_=>ha
 | s + 1, h => by
   have ih:=Wa mask a b N ha hb s ω;simp only[mixN];split
   ·rw[z4c _ _ _ (by simp[ih];omega),ih]
   ·exact ih
def Dev.fallTo (D:Dev)(l:List Int)(tn:Int)(mk:UInt8):Nat->(Int->Option Ov)
 |0=>D.sf
 | i + 1 => match D.cache[i]? with
   |none=>D.fallTo l tn mk i
   | some x => if (i : Int) = tn then Zb (D.fallTo l tn mk i) x.1 (mixN mk (((D.fallTo l tn mk i) x.1).getD (zeros (512 * D.N))) x.2 D.N)
     else if(i:Int)∈l then Zb (D.fallTo l tn mk i) x.1 x.2 else D.fallTo l tn mk i
def Dev.zal (D:Dev)(l:List Int)(tn:Int)(mk:UInt8):Dev:=
 {D with sf:=D.fallTo l tn mk D.cache.length,cache:=[],due:=0,Sn:=[],zcy:=0,mask:=0,down:=true}
theorem Dev.Ok.put {D:Dev}(h:D.Ok){n:Int}{s:Ov}(hn:0<=n/\n<(D.B:Int))(hs:s.length=512*D.N):Dev.Ok {D with sf:=Zb D.sf n s}:=
 ⟨h.hB,h.hN,h.due,λx t hx=>by
  simp only[Zb] at hx;split at hx
  ·rename_i e
   cases hx;exact⟨ω,by rw[e];exact hn.2,hs⟩
  ·exact h.sf x t hx,h.cache,h.len,h.reads⟩
theorem Dev.Ok.kept {D:Dev}(h:D.Ok)(n:Int):(D.kept n).length=512*D.N:=by
 unfold Dev.kept
 cases hs:D.sf n with
 |none=>simp[zeros]
 |some s=>exact(h.sf n s hs).2.2
theorem RK.put {w w':World}{p m:Nat}{kp ca:Value}{D:Dev}{kv:List (Int×Value)}{n:Int}{s:Ov}(h:RK w p m kp ca D)(hs:∀n,R1 kv n=(D.sf n).map S)(hm:Wi KI w' m (putL kv n (S s)))(k:Kp (λi=>i=m) w w')
  (aw:Dev.Ok {D with sf:=Zb D.sf n s}):RK w' p m kp ca {D with sf:=Zb D.sf n s}:=by
 obtain⟨kv0,⟨⟨es,c,hh,-⟩,-⟩,-⟩:=h.map
 refine⟨k.On h.On h.pm,⟨_,hm,λx=>?_⟩,?_,?_,aw⟩
 ·rw[z9O,hs x];simp only[Zb];split<;>rfl
 ·refine h.cache.kp k λg hg qd=>?_;obtain⟨xs,fz',hx⟩:=Td h.cache hg;rw[qd,hh] at hx;cases hx
 ·refine h.Sn.kp k λg hg qd=>?_;obtain⟨xs,fz',hx⟩:=Td h.Sn hg;rw[qd,hh] at hx;cases hx
def Rd.kpm {w w':World}{v:Value}{size n m:Nat}{cs:List Value}{kv:List (Int×Value)}(h:Rd w v size n cs)(hm:Wi KI w m kv)(k:Kp (λi=>i=m) w w'):Rd w' v size n cs:=by
 obtain⟨h1,h2⟩:=h
 refine⟨h1,h2.imp id λ⟨b,off,cap,hv,hc⟩=>⟨b,off,cap,hv,λj u hj=>?_⟩⟩
 have Bc:=hc j u hj
 obtain⟨⟨es,c,hh,-⟩,-⟩:=hm
 have br:¬b=m:=λe=>by
  rw[e] at Bc;simp[World.cell?,hh] at Bc
 have aN:b<w.heap.size:=by
  rcases Nat.lt_or_ge b w.heap.size with h'|h'
  ·exact h'
  ·simp[World.cell?,Array.getElem?_eq_none h'] at Bc
 rw[<-Bc]
 simp only[World.cell?,k.block b aN br]
def RK.zhx {w:World}{p m:Nat}{kp ca:Value}{D:Dev}(h:RK w p m kp ca D){g:Nat}(hg:ca.ownBlock=some g):¬g=p/\¬g=m/\¬kp.ownBlock=some g:=by
 obtain⟨xs,fz',hx⟩:=Td h.cache hg
 refine⟨λe=>?_,λe=>?_,λe=>?_⟩
 ·obtain⟨fz,hb,-⟩:=h.On;rw[e,hb] at hx;cases hx
 ·obtain⟨kv,⟨⟨es,c,hh,-⟩,-⟩,-⟩:=h.map;rw[e,hh] at hx;cases hx
 ·obtain⟨ys,fy,hy⟩:=Td h.Sn e;rw[hx] at hy;cases hy
def RK.zfy {w:World}{p m:Nat}{kp ca:Value}{D:Dev}(h:RK w p m kp ca D){g:Nat}(hg:kp.ownBlock=some g):¬g=p/\¬g=m/\¬ca.ownBlock=some g:=by
 obtain⟨xs,fz',hx⟩:=Td h.Sn hg
 refine⟨λe=>?_,λe=>?_,λe=>?_⟩
 ·obtain⟨fz,hb,-⟩:=h.On;rw[e,hb] at hx;cases hx
 ·obtain⟨kv,⟨⟨es,c,hh,-⟩,-⟩,-⟩:=h.map;rw[e,hh] at hx;cases hx
 ·obtain⟨ys,fy,hy⟩:=Td h.cache e;rw[hx] at hy;cases hy
def RK.lt {w:World}{p m:Nat}{kp ca:Value}{D:Dev}(h:RK w p m kp ca D):∀k,fpD p m kp ca k->k<w.heap.size:=by
 intro k hk
 rcases hk with rfl|rfl|hc|hc
 ·exact h.On.lt
 ·obtain⟨kv,hm,-⟩:=h.map;exact hm.lt
 ·exact h.cache.lt hc
 ·exact h.Sn.lt hc
def VS.kp {S F:Nat->Prop}{w w':World}{p:Nat}{D:Dev}(h:VS w p D F)(k:Kp S w w')(hn:∀i,F i->¬S i):VS w' p D F:=by
 obtain⟨m,kp,ca,h1,h2⟩:=h
 exact⟨m,kp,ca,h1.kp k λi hi=>hn i ((h2 i).2 hi),h2⟩
def VS.ext {F:Nat->Prop}{w w':World}{p:Nat}{D:Dev}(h:VS w p D F)(k:Ext w w'):VS w' p D F:=h.kp k λ_ _=>id
def VS.lt {F:Nat->Prop}{w:World}{p:Nat}{D:Dev}(h:VS w p D F):∀k,F k->k<w.heap.size:=by
 obtain⟨m,kp,ca,h1,h2⟩:=h
 intro k hk
 rcases (h2 k).1 hk with rfl|rfl|hc|hc
 ·exact h1.On.lt
 ·obtain⟨kv,hm,-⟩:=h1.map;exact hm.lt
 ·exact h1.cache.lt hc
 ·exact h1.Sn.lt hc
def Zi (n:Nat):((List.replicate n (Value.int .u8 0)).drop 0).take n=(zeros n).map Tg:=by
 simp[zeros,Tg]
section
variable {w:World}{p m:Nat}{kp ca:Value}{D:Dev}
def z5A (h:RK w p m kp ca D):P9 prog 138 [ptr p 0] w λv w'=>v=I (D.B:Int)/\w'=w:=by
 have hM:=h.On
 refine py (e:=[(0,_)]) func138 O ntmps138 O O$ QB O$ Pz O$ qV (PU U26 O O)$ PX O$ P7 O$ Pb O$ OL ZO O$ OL Z3 O$ qV (OB U3 O O hM O)$ OK O$ Oo func138 O ?_
 exact⟨_,rfl,rfl,rfl⟩
def z1e (h:RK w p m kp ca D):P9 prog 95 [ptr p 0] w λv w'=>v=I ((512*D.N:Nat):Int)/\w'=w:=by
 have hM:=h.On
 have hN:=h.ok.hN
 refine py (e:=[(0,_)]) func95 O ntmps95 O O$ QB O$ Pz O$ qV (PU U26 O O)$ PX O$ P7 O$ Pb O$ OL ZO O$ OL YL O$ qV (OB U3 O O hM O)$ qV (X5 O O ω)$ OK O$ Oo func95 O (⟨_,rfl,?_,rfl⟩)
 show I _=I _
 congr 1;omega
def z1E (h:RK w p m kp ca D):P9 prog 194 [ptr p 0] w λv w'=>v=I (if D.down then 8 else 0)/\w'=w:=by
 have hM:=h.On
 refine py (e:=[(0,_)]) func194 O ntmps194 O O$ QB O$ Qt$ P7 O$ qV (PU U26 O O)$ OK O$ Ox O$ P7 O$ Pb O$ OL z38 O$ qV (OB U4 O O hM O)$ OK O$ Q0 O (λhd=>?_)$ λhd=>?_
 ·refine QB O$ Oo func194 O ?_;exact⟨_,rfl,by simp[hd,PS],rfl⟩
 ·refine Ot$ Om$ QB O$ Oo func194 O ?_;exact⟨_,rfl,by simp[hd,PS],rfl⟩
def z77 (n:Int)(h:RK w p m kp ca D):P9 prog 195 [ptr p 0,I n] w λv w'=>v= .bool (D.has n)/\w'=w:=by
 have hM:=h.On
 refine py (e:=[(0,_),(1,_)]) func195 O ntmps195 O O$ qN O$ QO O$ TE O$ Sc (λh1=>?_)$ λh1=>?_
 ·refine OX O$ OC O$ Pb O$ OL ZO O$ OL Z3 O$ qV (OB U3 O O hM O)$ Qv O$ QQ O$ OK O$ Oo func195 O (⟨_,rfl,?_,rfl⟩);simp[Dev.has,h1,PS]
 ·refine OC O$ QI$ QI$ QI$ qS$ PC O$ OK O$ Oo func195 O (⟨_,rfl,?_,rfl⟩);simp[Dev.has,h1,PS]
def z4B (n:Int)(h:RK w p m kp ca D):P9 prog 219 [ptr p 0,I n] w λv w'=>v=S (D.kept n)/\Ext w w':=by
 have hM:=h.On
 have hN:=h.ok.hN
 have fg:maxLen=9223372036854775807:=rfl
 obtain⟨kv,kk,mX⟩:=h.map
 refine py (e:=[(0,_),(1,_)]) func219 O ntmps219 O O$ QB O$ Pz O$ Pb O$ OL z2R O$ qV (OB z9s O O hM O)$ OC O$ qV (zjm (k:=n) (K:=KI) z9s (RT U3) ti9 O O kk) ?_
 rw[mX n]
 cases hs:D.sf n with
 | some s =>
   refine OC O$ Sw O$ Si O$ QO O$ Oq$ OI O$ P7 O$ OK O$ Oo func219 O ?_
   exact⟨_,rfl,by simp[Dev.kept,hs,PS],Ext.refl w⟩
 | none =>
   refine OC O$ Sw O$ Si O$ QO O$ PX O$ P7 O$ OQ zeo O (z1e h) ?_;rintro _ w1 ⟨rfl,rfl⟩;refine Oy O O (pmk (c:=512*D.N) (n:=512*D.N) Qk XN O O O ω ω ω) ?_;rintro _ w1 ⟨b1,rfl,⟨bK,ad,ah⟩,-⟩;refine qV (z8m (l:=zeros (512*D.N)) Qk U5 U9 O ah (Zi _) (by simp[zeros])) ?_;refine OK O$ Oo func219 O ?_;exact⟨_,rfl,by simp[Dev.kept,hs,PS],ad⟩
def z4r (h:RK w p m kp ca D)(hc:D.calls<1000000000000):P9 prog 216 [ptr p 0] w λv w'=>v= .bool (decide (D.due=1))/\RK w' p m kp ca D.count/\Kp (λk=>k=p) w w':=by
 have hM:=h.On
 have qe:=h.ok.due
 have aB:=h.ok.len
 refine py (e:=[(0,_)]) func216 O ntmps216 O O$ qN O$ QO O$ Pb O$ OL z7D O$ qV (OB U3 O O hM O)$ PL O$ Pb O$ OL z7D O$ OJ O (Qw PH O O O hM ξ) ?_
 rintro w1 ⟨cZ,aG⟩
 refine Oq$ Pz O$ Pb O$ OL Wv O$ OL ZS O$ qV (OB U3 O O cZ O)$ QS O$ Oq$ OH O (λh0=>?_)$ λh0=>?_
 ·refine QB O$ Oo func216 O ?_;have e0:(Ym kp ca m D).set (0+9) (I (D.calls+1))=Ym kp ca m D.count:=by simp[Ym,Dev.count,h0]
  rw[e0] at cZ;exact⟨_,rfl,by simp[PS];omega,h.turn cZ aG O O O O h.ok.count,aG⟩
 ·refine Ot (P7 O (Pb O (OL Wv O (OL ZS O (qV (OB U3 O O cZ O) (Ra O (Pb O (OL Wv O (OL ZS O (OJ O (Qw PH O O O cZ ξ) ?_))))))))));rintro w2 ⟨gH,am⟩;refine qM O$ OC O$ Pb O$ OL Wv O$ OL ZS O$ qV (OB U3 O O gH O)$ QS O$ OK O$ P8.qb (e:=[(2,_)]) ?_;refine Oo func216 O ?_;have e0:((Ym kp ca m D).set (0+9) (I (D.calls+1))).set (0+0+0) (I (D.due-1))=Ym kp ca m D.count:=by simp[Ym,Dev.count,h0]
  rw[e0] at gH;exact⟨_,rfl,by simp[PS];omega,h.turn gH (aG.trans am) O O O O h.ok.count,aG.trans am⟩
end
theorem z6P (xs:List (Int×Ov))(j:Nat)(h:j<xs.length):((wrs xs).drop (j*2)).take 2=wr xs[j]:=by
 induction xs generalizing j with
 |nil=>simp at h
 | cons x r ih =>
   cases j with
   |zero=>simp[wrs,wr,List.flatMap_cons]
   | succ j =>
     have e:(wrs (x::r))=I x.1::S x.2::wrs r:=by simp[wrs,wr,List.flatMap_cons]
     rw[e,show(j+1)*2=(j*2)+1+1 by omega]
     simpa using ih j (by simpa using h)
def z0S (a:Option Addr)(n cap:Nat)(w:World):P9 prog 218 [.slice a n cap] w λv w'=>∃b,v= .func (.func 235) #[] #[ptr b 0]/\ZI w b [.slice a n cap] 130 w':=by
 refine py (e:=[(0,_)]) func218 O ntmps218 O O$ qN O$ Oy O O (R9 O O) ?_
 rintro _ w1 ⟨b1,rfl,hN⟩
 refine QL O$ qV (ymf (first:=[]) (caps:=[.tmp 1]) O O)$ OK O$ Oo func218 O ?_
 exact⟨_,rfl,_,rfl,hN⟩
def z2E (l bx:Nat)(ca:Value)(xs:List (Int×Ov))(J:Nat->World->Prop)(Jx:World->Prop)(w:World)(hn:xs.length<4611686018427387904)
  (hJ:∀i w,J i w->(∃T,OE w bx [ca] T)/\Sl w ca 336 2 xs.length (wrs xs))
  (hround:∀i w x,xs.reverse[i]? =some x->J i w->z0W prog l [I ((xs.length:Int)-1-i),.agg (wr x).toArray] w λv w'=>(v= .bool true/\J (i+1) w')\/(v= .bool false/\Jx w')) (h0:J 0 w):
  P9 prog 235 [.func (.yield l) #[] #[],ptr bx 0] w λv w'=>v= .tuple #[]/\(J xs.length w'\/Jx w'):=by
 obtain⟨⟨T,hM⟩,hS⟩:=hJ 0 w h0
 obtain⟨a,cap,rfl,ha⟩:=hS.rd.shape
 refine py (e:=[(0,_),(1,_)]) func235 O ntmps235 O O$ qN O$ qV (OB z0i O O hM O)$ Ro z0i O$ Ra O$ OK O$ Ou ?_
 rw[show(xs.length:Int)-1=(xs.length:Int)-1-((0:Nat):Int) by omega]
 refine Rw (α:=Nat) (0) (λi=>[(0,.func (.yield l) #[] #[]),(1,ptr bx 0),(3,I ((xs.length:Int)-1-i))]) (λi w=>i<=xs.length/\J i w) (λi=>xs.length-i) ?hI ?hround
 case hI=>exact⟨ω,h0⟩
 case hround=>
  rintro i w1 ⟨hi,hj⟩ ih
  try dsimp only
  obtain⟨⟨T1,cZ⟩,jC⟩:=hJ i w1 hj;refine Pz O$ TE O$ Oq$ OH O (λlw=>?_)$ λlw=>?_
  ·have aN:i<xs.length:=by omega
   have Ba:=jC.shape;rcases Ba with⟨-,h⟩|⟨gb,cap',lA,jH⟩
   ·omega
   cases lA;obtain⟨x,hx⟩:∃x,xs.reverse[i]? =some x:=⟨_,List.getElem?_eq_getElem (by simpa using aN)⟩
   have fN:((wrs xs).drop ((xs.length-1-i)*2)).take 2=wr x:=by
    rw[z6P xs _ ω]
    congr 1
    rw[List.getElem?_reverse aN,List.getElem?_eq_getElem ω] at hx;exact Rh hx
   have hz:((xs.length:Int)-1-i)=((xs.length-1-i:Nat):Int):=by omega
   have hy:=hround i w1 x hx hj;rw[hz] at hy⊢;refine Ot (Qt (Qh O (qV (OB z0i O O cZ O) (OC O (qV (PK z0i W5 O O ω) (qV (Pa zib O W5 O (jC.part fN) O) (z5v O O (yy O O) (hy) ?_)))))));rintro v w2 hv;rcases hv with⟨rfl,kL⟩|⟨rfl,ae⟩
   ·refine qV ((S1 O))$ PX O$ Om$ R0 O$ Ra O$ OK O ?_;rw[show((xs.length-1-i:Nat):Int)-1=(xs.length:Int)-1-((i+1:Nat):Int) by omega];exact(ih (i+1) w2 ⟨ω,kL⟩ ω).qb
   ·refine qV ((S1 O))$ Oq$ OI O$ Oo func235 O ?_;exact⟨_,rfl,rfl,.inr ae⟩
  ·refine OD O$ PQ func235 O ?_;have:i=xs.length:=by omega
   subst this;exact⟨_,rfl,rfl,.inl hj⟩
theorem z5u (xs:List (Int×Ov))(n:Int)(i:Nat):(∀j x,j<i->xs.reverse[j]? =some x->x.1≠n)->∀x,xs.reverse[i]? =some x->x.1=n->Wk xs n=some x.2:=by
 intro fj x hx he
 have aN:i<xs.reverse.length:=by
  rcases Nat.lt_or_ge i xs.reverse.length with h| h
  ·exact h
  ·rw[List.getElem?_eq_none h] at hx;cases hx
 have:xs.reverse.find? (λx=>x.1==n)=some x:=by
  rw[List.find?_eq_some_iff_getElem];refine⟨by simp[he],i,aN,?_,λj hj=>?_⟩
  ·rw[List.getElem?_eq_getElem aN] at hx;exact Rh hx
  ·have:=fj j _ hj (List.getElem?_eq_getElem ω)
   simpa using this
 simp[Wk,this]
theorem z6p (xs:List (Int×Ov))(n:Int):(∀j x,j<xs.length->xs.reverse[j]? =some x->x.1≠n)->Wk xs n=none:=by
 intro fj
 have:xs.reverse.find? (λx=>x.1==n)=none:=by
  rw[List.find?_eq_none];intro x hx;obtain⟨j,hj,rfl⟩:=List.getElem_of_mem hx;have:=fj j _ (by simpa using hj) (List.getElem?_eq_getElem hj)
  simpa using this
 simp[Wk,this]
def zbD {w:World}{p m:Nat}{kp ca:Value}{D:Dev}(n:Int)(h:RK w p m kp ca D)(hc:D.cache.length<1000000000000):
  P9 prog 196 [ptr p 0,I n] w λv w'=>v=S (D.now n)/\Ext w w':=by
 have hM:=h.On
 have aB:=h.ok.len
 have fJ:=hc
 obtain⟨a,cap,rfl,ha⟩:=h.cache.rd.shape
 refine py (e:=[(0,_),(1,_)]) func196 O ntmps196 O O$ qN O$ Oy O O (R9 O O) ?_
 rintro _ w1 ⟨b3,rfl,dY,ad,ao⟩
 refine Oy O O (Rq (cs:=[_]) ti9 O) ?_
 rintro _ w2 ⟨b4,rfl,gF,ae,aH⟩
 replace h:=(h.ext ad).ext ae
 have gH:=h.On
 refine Oq$ Pz O$ Pb O$ OL XV O$ qV (OB z0i O O gH O)$ OQ zi0 O (z0S a D.cache.length cap _) ?_
 rintro _ w3 ⟨bx,rfl,fF,aj,iR⟩
 replace h:=h.ext aj
 replace ao:=aj.On (ae.On ao)
 replace aH:=aj.On aH
 refine Oq$ Ou$ SF (ps:=[12,13]) (p:=[]) (q:=[_]) O zfQ ?_
 rintro l w4 aC hl cH hD Rc cE dZ
 have I9:=z9Y cE dZ
 have h3:=h
 replace h:=h.ext aC
 replace ao:=aC.On ao
 replace aH:=aC.On aH
 have ED:=iR.lt
 have mB:=ao.lt
 have dN:=ad.size
 have dg:=ae.size
 have oN:=aj.size
 have Ls:bx<w3.heap.size:=iR.lt
 replace iR:=aC.On iR
 refine P9.mono (z2E l bx (.slice a D.cache.length cap) D.cache
  (λi w'=>Rc .ready none w'/\Kp (λk=>k=l) w4 w'/\∀j x,j<i->D.cache.reverse[j]? =some x->x.1≠n)
  (λw'=>Rc .done (some .ret) w'/\Kp (λk=>k=l\/k=b4) w4 w'/\OE w' b4 [S (D.now n)] 9) w4 ω ?_ ?_ ⟨dZ,Kp.refl _ _,ω⟩) ?_
 ·rintro i w' ⟨h1,h2,-⟩;refine⟨⟨_,h2.On iR ω⟩,h.cache.kp h2 λg hg eZ=>?_⟩;have:=h3.cache.lt hg;omega
 ·rintro i w' x hx ⟨h1,h2,fj⟩;refine TA cE h1 O O ?_;have xV:=h2.size;refine Oz O$ Oy O O (Rq (cs:=[_,_]) W5 O) ?_;rintro _ w5 ⟨b6,rfl,oD,aR,aT⟩;refine OJ O (Py W5 O O O O aT ξ) ?_;rintro w6 ⟨mP,aJ⟩;have aQ:=aR.It aJ (λi hi=>by omega);replace h1:=aQ.rc cE h1 id;replace h2:=h2.trans aQ.kp;have EE:=aR.size;have Lt:=mP.lt;refine Oq$ run_beginRound O cE h1 ?_;rintro w7 h7 ax;have bZ:=ax.On mP ω;have kl:=(h2.trans ax).On ao ω;refine Ou$ qN O$ OL z00 O$ qV ((OB U3 O O bZ O))$ qV ((OB U3 O O kl O))$ QS O$ Oq$ OH O (λdO=>?_)$ λdO=>?_
  ·have eY:=(h2.trans ax).On aH ω;refine qN O (OL z2V O (qV ((OB U9 O O bZ O)) (OJ O (Qw ti9 O O O eY ξ) ?_)));rintro w8 ⟨bY,aP⟩;refine Oq (VA cE (aP.rc cE h7 ω) ?_);intro w9 h9 aK;refine .inr ⟨rfl,h9,((h2.trans ax).OA λ_ h=> .inl h).trans ((aP.OA λ_ h=> .inr h).trans (aK.OA λ_ h=> .inl h)),?_⟩
   have EF:D.now n=x.2:=by
    unfold Dev.now;rw[z5u D.cache n i fj x hx dO]
    rfl
   rw[EF];exact aK.On bY ω
  ·refine Ot$ Om$ Sf cE h7 ?_;intro w9 h9 aK;refine .inl ⟨rfl,h9,(h2.trans ax).trans aK,λj y hj hy=>?_⟩;rcases Nat.lt_or_ge j i with rv|rv
   ·exact fj j y rv hy
   ·have:j=i:=by omega
    subst this;rw[hx] at hy;cases hy;exact dO
 ·rintro v w' ⟨rfl,⟨h1,h2,fj⟩|⟨h1,h2,hB⟩⟩
  ·refine⟨_,_,h1,ξ,λw5 h5=>?_⟩;have ai:=h2.trans h5;have aR:Ext w3 w5:=aC.It ai (λi hi=>by omega);replace h3:=h3.ext aR;have kl:=ai.On ao ω;have eY:=ai.On aH ω;have ud:=ai.heap hD ω;refine Om$ P7 O$ qV (OB U3 O O kl O)$ OQ zdS O (z4B n h3) ?_;rintro _ w6 ⟨rfl,aQ⟩;replace eY:=aQ.On eY;replace ud:=aQ.heap ud id;refine OJ O (Qw ti9 O O O eY ξ) ?_;rintro w7 ⟨bZ,ax⟩;replace ud:=ax.heap ud ω;have bY:=(Qi w7 w3.heap.size (.deferred none)).On bZ ω;refine Oq (Vj ξ (Wy ud) func196 (.cell1 U9 O O ((bY).cell _) .nil) ?_);refine⟨_,rfl,?_,?_⟩
   ·simp[Dev.now,z6p D.cache n fj,PS]
   ·exact((((ad.trans (ae.trans aj)).trans aR).trans aQ).It ax (λi hi=>by omega)).It (Qi w7 w3.heap.size (.deferred none)) (λi hi=>by omega)
  ·refine⟨_,_,h1,ξ,λw5 h5=>?_⟩;have ud:=(h2.trans (h5.OA λ_ h=> .inl h)).heap hD ω;have aD:=h5.On hB ω;have bY:=(Qi w5 w3.heap.size (.deferred none)).On aD ω;refine Vj ξ (Wy ud) func196 (.cell1 U9 O O ((bY).cell _) .nil) ?_;refine⟨_,rfl,rfl,?_⟩;exact(((ad.trans (ae.trans (aj.trans aC))).It h2 (λi hi=>by omega)).It h5 (λi hi=>by omega)).It (Qi w5 w3.heap.size (.deferred none)) (λi hi=>by omega)
section
variable {w:World}{p m:Nat}{kp ca:Value}{D:Dev}
def z9D (h:RK w p m kp ca D):P9 prog 154 [ptr p 0] w λv w'=>v= .bool D.down/\w'=w:=by
 have hM:=h.On
 refine py (e:=[(0,_)]) func154 O ntmps154 O O$ qN O$ QO O$ qV (PU U26 O O)$ OX O$ Pb O$ OL z38 O$ qV (OB U4 O O hM O)$ PC O$ OK O$ Oo func154 O ?_
 exact⟨_,rfl,rfl,rfl⟩
end
def z8r (v:Value)(l:List Int)(x:Int)(w:World)(hl:l.length<=17592186044416)(hr:Rd w v 1 l.length (l.map I)):
  P9 prog 206 [v,I x] w λu w'=>(∃k,u=I k/\(0<=k↔x∈l))/\w'=w:=by
 obtain⟨a,cap,rfl,ha⟩:=hr.shape
 refine py (e:=[(0,_),(1,_)]) func206 O ntmps206 O O$ QB O$ Pz O$ Ro Rl O$ OC O$ Oq$ Ou$ Rw (α:=Nat) (0) (λi=>[(0,.slice a l.length cap),(1,I x),(7,I (l.length:Int)),(8,I (i:Int))]) (λi w'=>w'=w/\i<=l.length/\∀j,j<i->l[j]?≠some x) (λi=>l.length-i) ?hI ?hround
 case hI=>exact⟨rfl,ω,ω⟩
 case hround =>
  rintro i _ ⟨rfl,hi,fj⟩ ih
  try dsimp only
  refine qN O$ Qv O$ Oq$ An$ OH O (λaN=>?_)$ λaN=>?_
  ·have fT:i<l.length:=by omega
   rcases hr.2 with⟨c,-,h⟩|⟨b,off,cap',lA,aY⟩
   ·omega
   cases lA;refine Ot (Qt (P7 O (QL O (OX O (OC O (qV (PK Rl PH O O ω) (qV (Pc U3 O O (aY (i*1) (I l[i]) (by simp[fT]))) ?_)))))));refine QS O$ Oq$ OH O (λdO=>?_)$ λdO=>?_
   ·refine P7 O$ OK O$ Oo func206 O (⟨_,rfl,⟨(i:Int),rfl,?_⟩,rfl⟩);constructor
    ·intro _;rw[dO];exact List.getElem_mem fT
    ·intro _;omega
   ·refine Ot$ Om$ Oz O$ PL O$ OC O$ Oq ?_
    exact(ih (i+1) _ ⟨rfl,ω,λj hj=>by
     rcases Nat.lt_or_ge j i with h| h
     ·exact fj j h
     ·have:j=i:=by omega
      subst this;rw[List.getElem?_eq_getElem fT]
      exact λh=>dO (Rh h).symm⟩ ω).qb
  ·refine OD O$ QB O$ Oo func206 O (⟨_,rfl,⟨-1,rfl,?_⟩,rfl⟩);constructor
   ·intro h;omega
   ·intro h;obtain⟨j,hj,e⟩:=List.getElem_of_mem h;exact absurd (by rw[List.getElem?_eq_getElem hj,e]) (fj j ω)
def z2P (v:Value)(l:List Int)(x:Int)(w:World)(hl:l.length<=17592186044416)(hr:Rd w v 1 l.length (l.map I)):
  P9 prog 234 [v,I x] w λu w'=>u= .bool (decide (x∈l))/\w'=w:=by
 refine py (e:=[(0,_),(1,_)]) func234 O ntmps234 O O$ qN O$ QL O$ OX O$ OQ zdE O (z8r v l x w hl hr) ?_
 rintro _ w1 ⟨⟨k,rfl,hk⟩,rfl⟩
 refine TE O$ OK O$ Oo func234 O (⟨_,rfl,?_,rfl⟩)
 simp only[PS,hk]
theorem z5J (c x:Ov)(rest:List Value)(i:Nat)(h:i+x.length<=c.length):Qu (c.map Tg++rest) i (x.map Tg)=(z95 c i x).map Tg++rest:=by
 unfold Qu z95
 rw[List.take_append_of_le_length (by simp;omega),List.drop_append_of_le_length (by simp;omega)]
 simp
theorem Za {D:Dev}{l:List Int}{tn:Int}{mk:UInt8}{i:Nat}{x:Int×Ov}(hx:D.cache[i]? =some x):D.fallTo l tn mk (i+1)=
  if(i:Int)=tn then Zb (D.fallTo l tn mk i) x.1 (mixN mk (((D.fallTo l tn mk i) x.1).getD (zeros (512*D.N))) x.2 D.N)
   else if(i:Int)∈l then Zb (D.fallTo l tn mk i) x.1 x.2 else D.fallTo l tn mk i:=by
 simp only[Dev.fallTo,hx]
def z9N {w:World}{p m:Nat}{kp ca cv:Value}{D:Dev}(h:RK w p m kp ca D)(l:List Int)(tn:Int)(mk:UInt8)(hl:l.length<=17592186044416)(hr:Rd w cv 1 l.length (l.map I))(fJ:D.cache.length<2000000000000):
  P9 prog 217 [ptr p 0,.agg #[cv,I tn,Tg mk]] w λv w'=>v= .tuple #[]/\RK w' p m (.slice none 0 0) (.slice none 0 0) (D.zal l tn mk)/\Kp (λk=>k=p\/k=m) w w':=by
 have aB:=h.ok.len
 have hN:=h.ok.hN
 have Lu:=mk.toNat_lt
 have Lv:=h.pm
 have EG:=h.lt m (.inr (.inl O))
 have Ia:∀{w':World},Ext w w'->w.heap.size<=w'.heap.size:=λh=>h.size
 obtain⟨a,cap,rfl,ha⟩:=h.cache.rd.shape
 obtain⟨ac,capc,rfl,NX⟩:=hr.shape
 refine py (e:=[(0,_),(1,_)]) func217 O ntmps217 O O$ qN O$ Oy O O (R9 O O) ?_
 rintro _ w1 ⟨b3,rfl,dY,ad,ao⟩
 have h0:=h.ext ad
 have dN:=ad.size
 replace hr:=hr.ext ad
 have ED:=ao.lt
 have hM:=h0.On
 refine Oq$ Pz O$ Pb O$ OL XV O$ qV (OB z0i O O hM O)$ Ro z0i O$ OC O$ Oq$ Ou$ Rw (α:=Nat) (0) (λi=>[(0,ptr p 0),(3,ptr b3 0),(11,.slice a D.cache.length cap),(12,I (D.cache.length:Int)),(13,I (i:Int))]) (λi wi=>i<=D.cache.length/\RK wi p m kp (.slice a D.cache.length cap) {D with sf:=D.fallTo l tn mk i}/\Rd wi (.slice ac l.length capc) 1 l.length (l.map I)/\OE wi b3 [.slice ac l.length capc,I tn,Tg mk] 127/\Kp (λk=>k=m) w1 wi) (λi=>D.cache.length-i) ?hI ?hround
 case hI=>exact⟨ω,h0,hr,ao,Kp.refl _ _⟩
 case hround =>
  rintro i wi ⟨hi,hd,lV,gx,sx⟩ ih
  try dsimp only
  have Lw:=sx.size;refine qN O$ Qv O$ Oq$ An$ OH O (λaN=>?_)$ λaN=>?_
  ·have fT : i < D.cache.length := by omega
   have nQ:=hd.cache;rcases nQ.shape with⟨-,h⟩|⟨gb,cap',lA,jH⟩
   ·exact absurd h (by show ¬D.cache.length=0;omega)
   cases lA;obtain⟨x,hx⟩:∃x,D.cache[i]? =some x:=⟨_,List.getElem?_eq_getElem fT⟩;have Hc:D.cache[i]=x:=by rw[List.getElem?_eq_getElem fT] at hx;exact Rh hx
   have fN:((wrs D.cache).drop (i*2)).take 2=wr x:=by rw[z6P _ _ fT,Hc]
   have iD:=hd.ok.cache x (List.mem_of_getElem? hx);simp only at iD;have kS:=nQ.part fN;refine Ot (Qt (P7 O (qV (PK z0i W5 O O ω) (qV (Pa zib O W5 O kS O) (Oy O O (Rq (cs:=[_,_]) W5 O) ?_)))));rintro _ w2 ⟨b5,rfl,fR,ae,aD⟩;refine Si O (OJ O (Py W5 O O O O aD ξ) ?_);rintro w3 ⟨ev,ar⟩;replace ev:OE w3 b5 [I x.1,S x.2] 336:=ev;have aj:Ext wi w3:=ae.It ar (λj hj=>by omega);have Lx:=ev.lt;replace hd:=hd.ext aj;have lJ:=hd.lt;replace lV:=lV.ext aj;have qf:=lV;replace gx:=aj.On gx;have mB:=gx.lt;have bU:Kp (λk=>k=m) w1 w3:=sx.trans aj.kp;have Ly:=aj.size;have Ib:¬b3=b5:=by have:=ae.size;have:=gx;omega
   refine Oq$ Ou$ P7 O$ OL zbI O$ qV ((OB U3 O O gx O))$ QS O$ OK O$ OH O (λBe=>?_)$ λBe=>?_
   ·refine P7 O$ OL z00 O$ qV ((OB U3 O O ev O))$ OQ zdS O (z4B x.1 hd) ?_;rintro _ w4 ⟨rfl,aC⟩;obtain⟨k0,gU⟩:∃k0,Dev.kept {D with sf:=D.fallTo l tn mk i} x.1=k0:=⟨_,rfl⟩;have m8:k0.length=512*D.N:=by rw[<-gU];exact hd.ok.kept x.1
    rw[gU];refine Oy O O (zbw U9 Qk U5 O) ?_;rintro _ w5 ⟨bb,capb,rest,rfl,⟨wu,aR,Bf⟩,Ic⟩;have dx:=aC.trans aR;replace hd:=hd.ext dx;replace lV:=lV.ext dx;replace gx:=dx.On gx;replace ev:=dx.On ev;have Lz:=Bf.lt;have qg:=hd.On;have Id:=dx.size;have LA:=aC.size;have LB:=hd.On.lt;refine OK O$ Pz O$ Pb O$ OL ZO O$ OL YL O$ qV (OB U3 O O qg O)$ OC O$ Oq$ Ou$ Rw (α:=Nat) (0) (λs=>[(0,ptr p 0),(3,ptr b3 0),(5,ptr b5 0),(6,.slice (some ⟨bb,0,none⟩) k0.length capb),(11,.slice (some ⟨gb,0,none⟩) D.cache.length cap),(12,I (D.cache.length:Int)),(13,I (i:Int)),(32,I (D.N:Int)),(33,I (s:Int))]) (λs ws=>s<=D.N/\OE ws bb ((mixN mk k0 x.2 s).map Tg++rest) 5/\Kp (λk=>k=bb) w5 ws) (λs=>D.N-s) ?hI ?hround
    case hI=>exact⟨ω,Bf,Kp.refl _ _⟩
    case hround=>
     rintro s ws ⟨hs,m9,eL⟩ ihs
     try dsimp only
     have zd:=eL.On gx ω;have zh:=eL.On ev ω;have fg:=Wa mk k0 x.2 D.N m8 iD.2.2 s hs;refine qN O$ Qv O$ Oq$ An$ OH O (λkJ=>?_)$ λkJ=>?_
     ·have LC:s<D.N:=by omega
      obtain⟨q,hq⟩:∃q,mk.toNat / 2^s=q:=⟨_,rfl⟩;have NY:q<256:=by rw[<-hq];exact Nat.lt_of_le_of_lt (Nat.div_le_self _ _) Lu
      refine Ot (Qt (P7 O (QL O (OL zcw O (qV (OB U5 O O zd O) (OC O (qV (Uk s (2^s) O O (by simp only[IntKind.bits];omega) O) ?_)))))));rw[hq];refine qV (zj0 O O ω ω) ?_;rw[Nat.and_one_is_mod];refine QS O$ Oq$ OH O (λnC=>?_)$ λnC=>?_
      ·have nR:q%2=1:=by omega
       refine R8 (λw'=>Kp (λk=>k=bb) ws w') O (OR 0 O O ((Kp.refl _ ws).drew) (OR 1 O O ((Kp.refl _ ws).drew) (Ow 2 O (X5 O O ω) ((Kp.refl _ ws).drew) (OR 3 O O ((Kp.refl _ ws).drew) (Ow 4 O (Uw O O ω) ((Kp.refl _ ws).drew) (Ow 5 O (X5 O O ω) ((Kp.refl _ ws).drew) (Ow 7 O (Pk z2V O) ((Kp.refl _ ws).drew) (qT 8 O (λ_ h=>OB U9 O O (h.On zh ω) O) ((Kp.refl _ ws).drew) (OR 9 O O ((Kp.refl _ ws).drew) (Ow 10 O (X5 O O ω) ((Kp.refl _ ws).drew) (Ow 11 O (z0Q U9 O O ω) ((Kp.refl _ ws).drew) (Ow 6 O (zes (i:=s*512) (j:=(s+1)*512) Qk XN O O O ω ω) ((Kp.refl _ ws).drew) (qO 12 ?_)))))))))))));refine ZC (i:=12) O O O (zjv Qk XN O O ((Ext.OT ws).On m9) (by simp[fg];omega)) ?_;rintro _ w6 ⟨rfl,aT,aJ⟩;refine⟨(Kp.refl _ ws).drew.trans aJ,?_⟩
       have e6:((x.2.drop (s*512)).take ((s+1)*512-s*512)).map Tg=((x.2.drop (512*s)).take 512).map Tg:=by
        rw[show(s+1)*512-s*512=512 by omega,Nat.mul_comm]
       rw[e6,show 0+s*512*1=512*s by omega,z5J _ _ _ _ (by simp[fg,iD.2.2];omega)] at aT
       have em:mixN mk k0 x.2 (s+1)=z95 (mixN mk k0 x.2 s) (512*s) ((x.2.drop (512*s)).take 512):=by
        simp only[mixN,hq,nR,if_true]
       rw[<-em] at aT;refine qE$ Om$ Oz O$ PL O$ OC O$ Oq ?_;exact(ihs (s+1) w6 ⟨ω,aT,eL.trans ((Kp.refl _ ws).drew.trans aJ)⟩ ω).qb
      ·have nR:¬q%2=1:=by omega
       have em:mixN mk k0 x.2 (s+1)=mixN mk k0 x.2 s:=by simp only[mixN,hq,nR,if_false]
       rw[<-em] at m9;refine Ot$ Om$ Oz O$ PL O$ OC O$ Oq ?_;exact(ihs (s+1) ws ⟨ω,m9,eL⟩ ω).qb
     ·have CW:s=D.N:=by omega
      subst CW;have zi:=hd.kp eL λk hk cS=>by have:=lJ k hk;omega
      obtain⟨kv,kk,mX⟩:=zi.map;have LD:=zi.On;have Ie:Ext w3 ws:=dx.It eL (λj hj=>by omega);have ue:=qf.ext Ie;refine OD O (R8 (λw'=>Kp (λk=>k=m) ws w') O (OR 0 O O ((Kp.refl _ ws).drew) (Ow 1 O (Q8 O) ((Kp.refl _ ws).drew) (Ow 2 O (Pk z2R O) ((Kp.refl _ ws).drew) (qT 3 O (λ_ h=>(OB z9s O O (h.On LD zi.pm) O)) ((Kp.refl _ ws).drew) (Ow 4 O (Pk z00 O) ((Kp.refl _ ws).drew) (qT 5 O (λ_ hS=>(OB U3 O O (hS.On zh ω) O)) ((Kp.refl _ ws).drew) (OR 6 O O ((Kp.refl _ ws).drew) (qT 7 O (λ_ h=>z8m (l:=mixN mk k0 x.2 D.N) Qk U5 U9 O (h.On m9 ω) (z4n _ _ _ ω) ω) ((Kp.refl _ ws).drew) (qO 8 (Pt (i:=8) O O (zmu (k:=x.1) (K:=KI) z9s (RT U3) O O O (Ext.map (Ext.OT ws) kk)) ?_)))))))))));rintro w7 ⟨gy,ax⟩;refine⟨(Kp.refl _ ws).drew.trans ax,?_⟩;have iE:=(Kp.refl (λi=>i=m) ws).drew.trans ax;have rG:=zi.put mX gy iE (zi.ok.put ⟨iD.1,iD.2.1⟩ (Wa mk k0 x.2 D.N m8 iD.2.2 D.N (Nat.le_refl _)))
      have ef:Zb (D.fallTo l tn mk i) x.1 (mixN mk k0 x.2 D.N)=D.fallTo l tn mk (i+1):=by
       rw[Za hx,if_pos Be,<-gU];rfl
      simp only[ef] at rG;refine qE$ Om$ Om$ Oz O$ PL O$ OC O$ Oq ?_;exact(ih (i+1) w7 ⟨ω,rG,ue.kpm kk iE,iE.On zd ω,bU.trans (Ie.kp.trans iE)⟩ ω).qb
   ·have EH:=hd.On;refine qN O$ OL zbW O$ qV ((OB Rl O O gx O))$ OC O$ OQ zhS O (z2P (.slice ac l.length capc) l (i:Int) w3 hl qf) ?_;rintro _ w4 ⟨rfl,rfl⟩;refine OK O$ OH O (λaO=>?_)$ λaO=>?_
    ·obtain⟨kv,kk,mX⟩:=hd.map;refine R8 (λw'=>Kp (λk=>k=m) w4 w') O (OR 0 O O ((Kp.refl _ w4).drew) (Ow 1 O (Q8 O) ((Kp.refl _ w4).drew) (Ow 2 O (Pk z2R O) ((Kp.refl _ w4).drew) (qT 3 O (λ_ h=>(OB z9s O O (h.On EH hd.pm) O)) ((Kp.refl _ w4).drew) (Ow 4 O (Pk z00 O) ((Kp.refl _ w4).drew) (qT 5 O (λ_ hS=>(OB U3 O O (hS.On ev ω) O)) ((Kp.refl _ w4).drew) (Ow 6 O (Pk z2V O) ((Kp.refl _ w4).drew) (qT 7 O (λ_ hS=>(OB U9 O O (hS.On ev ω) O)) ((Kp.refl _ w4).drew) (qO 8 (Pt (i:=8) O O (zmu (k:=x.1) (K:=KI) z9s (RT U3) O O O (Ext.map (Ext.OT w4) kk)) ?_))))))))));rintro w7 ⟨gy,ax⟩;refine⟨(Kp.refl _ w4).drew.trans ax,?_⟩;have iE:=(Kp.refl (λi=>i=m) w4).drew.trans ax;have rG:=hd.put mX gy iE (hd.ok.put ⟨iD.1,iD.2.1⟩ iD.2.2)
     have ef:Zb (D.fallTo l tn mk i) x.1 x.2=D.fallTo l tn mk (i+1):=by
      rw[Za hx,if_neg Be,if_pos aO]
     simp only[ef] at rG;refine qE$ Om$ Om$ Oz O$ PL O$ OC O$ Oq ?_;exact(ih (i+1) w7 ⟨ω,rG,qf.kpm kk iE,iE.On gx ω,bU.trans iE⟩ ω).qb
    ·have ef:D.fallTo l tn mk i=D.fallTo l tn mk (i+1):=by
      rw[Za hx,if_neg Be,if_neg aO]
     rw[ef] at hd;refine Ot$ Om$ Om$ Oz O$ PL O$ OC O$ Oq ?_;exact(ih (i+1) w4 ⟨ω,hd,qf,gx,bU⟩ ω).qb
  ·have aO:i=D.cache.length:=by omega
   subst aO;have EH:=hd.On;refine OD O (P7 O (Pb O (OL XV O (OJ O (Qw z7w O O O EH ξ) ?_))));rintro w5 ⟨aD,ai⟩;refine qM O (OC O (qV (Sa (cs:=[_,_,_,_]) z7x O zft O O) (Pb O (OL Wv O (OJ O (Py z7x O O O O aD ξ) ?_)))));rintro w6 ⟨aT,aJ⟩;replace aT:OE w6 p [I 0,.slice none 0 0,I 0,Tg 0,I (D.B:Int),I (D.N:Int),.map (some m),.slice none 0 0,.bool D.down,I D.calls,I D.reads] 132:=aT;refine Oq (R0 O (Pb O (OL z38 O (OJ O (Qw US O O O aT ξ) ?_))));rintro w7 ⟨bZ,ax⟩;refine Oq$ PQ func217 O ?_;have zj:=(ai.trans aJ).trans ax;obtain⟨kv,kk,mX⟩:=hd.map;refine⟨_,rfl,rfl,⟨bZ,⟨kv,zj.map kk λe=>hd.pm e.symm,mX⟩,Sl.nil w7 _ _,Sl.nil w7 _ _,?_⟩,?_⟩
   ·exact⟨hd.ok.hB,hd.ok.hN,by simp[Dev.zal],hd.ok.sf,λx hx=>by simp[Dev.zal] at hx,by have:=aB;simp[Dev.zal];omega,hd.ok.reads⟩
   ·exact((Ext.kp ad).trans (sx.OA λ_ h=> .inr h)).trans (zj.OA λ_ h=> .inl h)
end Go.Proofs.YtbihggbffaigjaaGreatDoor
