/- Merged by program. -/
import Derived.Test.YtffbidffdbpcoaaGreatDoorZr4
import Derived.WideLaws
set_option linter.all false
set_option maxRecDepth 1000000
set_option maxHeartbeats 16000000
namespace Go.Proofs.YtffbidffdbpcoaaGreatDoor
open Go Go.RowKit Go.Proofs.Tryz
def WJ (p:Qq)(g:List (List Nat))(E:List (Nat×Nat)):∀(d i:Nat),(Qz p g E i).length<=(Qz p g E (i+d)).length
 |0,i=>Nat.le_refl _
 | d + 1, i => by
   have h:=WJ p g E d i;rw[<-Nat.add_assoc,Ta,List.length_append];omega
def z7P (p:Qq)(g:List (List Nat))(E:List (Nat×Nat))(n:Nat):Nof (Wi p g E n):=by
 unfold Wi Nof
 rw[List.pairwise_map]
 refine List.pairwise_lt_range.imp fun {i j} gL=>?_
 have:=WJ p g E (j-i) i
 rwa [show i+(j-i)=j by omega] at this
def z0s (p:Qq)(g:List (List Nat))(E:List (Nat×Nat)){n i:Nat}(h:i<=n):(Wi p g E n)[i]? =some (Qz p g E i).length:=by
 unfold Wi
 rw[List.getElem?_map,List.getElem?_range ω];rfl
def zeR (p:Qq)(g:List (List Nat))(E:List (Nat×Nat))(n:Nat):∀v∈Wi p g E n,v<=(Qz p g E n).length:=λv hv=>by
 unfold Wi at hv
 obtain⟨j,hj,rfl⟩:=List.mem_map.1 hv
 have h1:=List.mem_range.1 hj
 have:=WJ p g E (n-j) j
 rwa [show j+(n-j)=n by omega] at this
def z3X {l:List Nat}(df:1<=l.length)(hn:l.length<=64)(mC:Nof l){z:Nat}(hz:l[l.length-1]? =some z):(YK l (TT l.length (z+1))).length=(TT l.length (z+1)).size:=by
 have h1:=z1G (TT l.length (z+1)).width mC hz
 have h2:=Uy (TT l.length (z+1)).width l
 have h3:(Sf (TT l.length (z+1)).width l).length=32:=by
  cases l with
  |nil=>simp at df
  |cons v l=>simp[Sf]
 have h4:(TT l.length (z+1)).bits=z / 2^(TT l.length (z+1)).width+l.length:=by
  show(z+1-1) / _+_=_;rw[Nat.add_sub_cancel]
  rfl
 unfold YK Fm.size Fm.UL Fm.high
 rw[List.length_append,List.length_append,List.length_append,PE,PE,PE,PE,List.length_append,bitsN_length,bitsN_length,h1,h2,h3,h4]
 show _=12+(l.length*_+7) / 8+_+4*((l.length+63) / 64)
 have h5:(l.length+63) / 64=1:=by omega
 rw[h5]
def Xt (p:Qq)(g:List (List Nat))(E:List (Nat×Nat)):OO:=
 hdT ⟨g.length,PX g,p,(Qz p g E g.length).length⟩++Pp (Qz p g E g.length)++YK (Wi p g E g.length) (TT (g.length+1) ((Qz p g E g.length).length+1))
structure zaA (p:Qq)(g:List (List Nat))(E:List (Nat×Nat)):Prop where
 el:E.length=g.length
 ok:zdC p g E
 bits:(Qz p g E g.length).length<=2688000
def z6x {w:World}{p:Qq}(hp:p.Qx){g:List (List Nat)}(hg:S7 g)(bh:1<=g.length){ga:Option Addr}{gc:Nat}(jR:GrM w (.slice ga g.length gc) g)(hG:OU w 1 (Sq .gamma) 294)(hU:OU w 2 (Sq .unary) 294):
  Ps prog 47 [.slice ga g.length gc,bpV p] w λu w'=>∃E,zaA p g E/\u= .tuple #[S (Xt p g E),I 0]/\Ext w w':=by
 have hn:=hg.n
 have ur:=TU hg g.length
 rw[List.take_length] at ur
 refine py (e:=[(0,_),(1,_)]) func47 O ntmps47 O O$ qN O$ OP O O (R6 O (cs:=Vj p) O) ?_
 rintro _ w1 ⟨b3,rfl,dI,ad,au⟩
 refine SH O$ R3 O$ qV (Pv (news:=Vj p) U75 O RE O (au.cells (n:=5) O) O)$ Pb zkv O (z90 hp hg (jR.ext ad) (ad.OH hG) (ad.OH hU)) ?_
 rintro _ w2 ⟨E,v,rfl,sg,Li,wj,dc,sZ,ae⟩
 have aF:=ad.trans ae
 have aa:=Ext.Pa w2
 obtain⟨va,vc,rfl,-⟩:=dc.rd.shape
 have yn:=z7P p g E g.length
 have j4:=zeR p g E g.length
 have aJ:=z2V p g E g.length
 have sj:=z0s p g E (Nat.le_refl g.length)
 obtain⟨vb,vc2,e5⟩:∃b c,Value.slice va (g.length+1) vc= .slice (some ⟨b,0,none⟩) (g.length+1) c:=by
  rcases dc.shape with⟨-,h0⟩|⟨b,c,e,hc⟩
  ·omega
  ·exact⟨b,c,e⟩
 cases e5
 refine OT O$ qV (Ry (v:=S (Pp (Qz p g E g.length))) O O)$ qV (Ry (v:= .slice (some ⟨vb,0,none⟩) (g.length+1) vc) O O)$ qV (Ry (v:=I 0) O O)$ SH O$ Qr O$ PR O$ QF O$ Qm O$ An ?_
 have Lj:PHd.Qx ⟨g.length,PX g,p,(Qz p g E g.length).length⟩:=⟨bh,(by show g.length<=_;omega),(by show PX g<=_;omega),(by show(Qz p g E g.length).length<=_;omega),hp⟩
 refine R0 (λw'=>Ext w2 w') O$ P8 0 O O (aa)$ OM 1 O (SI U23 O) aa$ P8 2 O O (aa)$ P8 5 O O (aa)$ P8 6 O O (aa)$ OM 7 O (SI U23 O) aa$ OM 8 O (Qc U34 Tm O O ω) aa$ qT 4 O (λ_ hS=>Pv (news:=Vj p) U75 O RE O ((hS.OH (ae.OH au)).cells (n:=5) O) O) aa$ qT 9 O (λ_ hS=>PC Rw O O (PY (dc.ext hS).rd (show((Wi p g E g.length).map P7)[g.length]? =some (P7 (Qz p g E g.length).length) by rw[List.getElem?_map,sj];rfl))) aa ?_
 refine OM 10 O (PQ O Rw U3 ω) aa$ S1 3 O zky O (z5V ((jR.ext aF).ext aa) hg) ?_
 rintro _ w3 ⟨rfl,rfl⟩
 refine⟨aa,?_⟩
 refine OM 11 O (Sh (cs:=[_,_,_,_,_,_,_,_]) TW O zef O O) aa$ S1 12 O zjr O (z8C ⟨g.length,PX g,p,(Qz p g E g.length).length⟩ Lj _) ?_
 rintro _ w3 ⟨rfl,ah⟩
 refine⟨aa.trans ah,?_⟩
 have et:=aa.trans ah
 refine P8 13 O O (aa.trans ah)$ qT 14 O (λ_ hS=>Ry (v:=S (hdT ⟨g.length,PX g,p,(Qz p g E g.length).length⟩)) O O) (aa.trans ah)$ OM 16 O (Rv O) (aa.trans ah)$ OM 15 O (Ry (v:=I 0) O O) (aa.trans ah)$ OM 17 O (Rv O) (aa.trans ah)$ qE$ Pu.qb (e:=[(4,_),(5,_),(6,_),(7,_),(8,_),(9,_)]) ?_
 refine PR O$ QF O ?_
 have Ec:Rd w3 (.slice (some ⟨vb,0,none⟩) (Wi p g E g.length).length vc) 1 (Wi p g E g.length).length ((Wi p g E g.length).map P7):=by rw[aJ];exact(dc.ext et).rd
 have hz:(Wi p g E g.length)[(Wi p g E g.length).length-1]? =some (Qz p g E g.length).length:=by rw[aJ];exact sj
 have CB:=z3L ω ω yn (λv hv=>by have:=j4 v hv;omega) Ec hz
 have un:=z3X ω ω yn hz
 have Lk:(TT (Wi p g E g.length).length ((Qz p g E g.length).length+1)).size<=40000000:=by
  have h1:=z3e (n:=(Wi p g E g.length).length) (u:=(Qz p g E g.length).length+1) ω ω ω ω;have h2:=Fm.WK h1;obtain⟨h3,h4,h5⟩:=h1;unfold Fm.size Fm.UL;omega
 rw[aJ] at CB un Lk
 have pI:=Xh ⟨g.length,PX g,p,(Qz p g E g.length).length⟩
 have gE:=PE (Qz p g E g.length)
 refine Qm O$ Pt O$ Pb zk6 O (CB) ?_
 rintro _ w4 ⟨rfl,aG⟩
 refine OT O$ qV (Ry (v:=S (YK (Wi p g E g.length) (TT (g.length+1) ((Qz p g E g.length).length+1)))) O O)$ qV (Ry (v:=I 0) O O)$ SH O$ QW O$ Pl O$ qV (Yb O O (by first|omega|(simp;done)|(simp;omega))) ?_
 refine OT O$ qV (Yb O O (by first|omega|(simp;done)|(simp;omega))) ?_
 refine OT O$ Qr O$ OI func47 O ?_
 exact⟨_,rfl,E,⟨sg,Li,wj⟩,rfl,(aF.trans et).trans aG⟩
/-! ### Bytes of a word, the least first -/
def PZ:List Nat->Nat
 |[]=>0
 |b::r=>b+256*PZ r
def VC {s a b c d:Nat}(hb:b<2^s)(hd:d<2^s):(b+2^s*a)&&&(d+2^s*c)=(b&&&d)+2^s*(a&&&c):=by
 apply Nat.eq_of_testBit_eq
 intro j
 have wj:b&&&d<2^s:=Nat.lt_of_le_of_lt Nat.and_le_left hb
 rw[Nat.testBit_and,Nat.add_comm b,Nat.add_comm d,Nat.add_comm (b&&&d),Nat.testBit_two_pow_mul_add _ hb,Nat.testBit_two_pow_mul_add _ hd,Nat.testBit_two_pow_mul_add _ wj]
 by_cases h:j<s
 ·simp only[if_pos h,Nat.testBit_and]
 ·simp only[if_neg h,Nat.testBit_and]
theorem zcY {s a b m:Nat}(hb:b<2^s)(hm:m<2^s):(b+2^s*a)&&&m=b&&&m:=by
 have:=VC (a:=a) (c:=0) hb hm
 simpa using this
def z0E (m:Nat)(hm:m<256):∀L:List Nat,(∀b∈L,b<256)->PZ L&&&PZ (List.replicate L.length m)=PZ (L.map (·&&&m))
 |[],_=>by simp[PZ]
 | b :: r, h => by
   have ih:=z0E m hm r (λx hx=>h x (List.mem_cons_of_mem b hx));rw[List.length_cons,List.replicate_succ,PZ,PZ,List.map_cons,PZ,<-ih];exact VC (s:=8) (h b List.mem_cons_self) hm
def z3h (s m:Nat)(hs:s<=8)(hm:m<2^(8-s)):∀L:List Nat,(∀b∈L,b<256)->PZ L / 2^s&&&PZ (List.replicate L.length m)=PZ (L.map λb=>b / 2^s&&&m)
 |[],_=>by simp[PZ]
 | b :: r, h => by
   have ih:=z3h s m hs hm r (λx hx=>h x (List.mem_cons_of_mem b hx));have hb:=h b List.mem_cons_self;have e256:256=2^s*2^(8-s):=by rw[<-Nat.pow_add,show s+(8-s)=8 by omega]
   have hp:0<2^s:=Nat.two_pow_pos s;have wv:b / 2^s<2^(8-s):=by rw[Nat.div_lt_iff_lt_mul hp,Nat.mul_comm,<-e256];exact hb
   have e1:(b+256*PZ r) / 2^s=b / 2^s+2^(8-s)*PZ r:=by
    rw[e256,Nat.mul_assoc,Nat.add_mul_div_left _ _ hp]
   have e2:b / 2^s+2^(8-s)*PZ r=(b / 2^s+2^(8-s)*(PZ r%2^s))+2^8*(PZ r / 2^s):=by
    have h1:=Nat.div_add_mod (PZ r) (2^s);have e3:2^8=2^(8-s)*2^s:=by rw[Nat.mul_comm];exact e256
    rw[e3,Nat.mul_assoc,Nat.add_assoc,<-Nat.mul_add,Nat.add_comm (PZ r%2^s),h1]
   have h3:b / 2^s+2^(8-s)*(PZ r%2^s)<2^8:=by
    have h4:PZ r%2^s+1<=2^s:=Nat.mod_lt _ hp;have h5:=Nat.mul_le_mul_left (2^(8-s)) h4;rw[Nat.mul_add,Nat.mul_one] at h5;have e3:2^8=2^(8-s)*2^s:=by rw[Nat.mul_comm];exact e256
    omega
   have Ll:m<2^8:=Nat.lt_of_lt_of_le hm (Nat.pow_le_pow_right ψ ω);rw[List.length_cons,List.replicate_succ,PZ,PZ,List.map_cons,PZ,<-ih,e1,e2];have:=VC (s:=8) (a:=PZ r / 2^s) (c:=PZ (List.replicate r.length m)) h3 Ll;rw[show m+256*PZ (List.replicate r.length m)=m+2^8*PZ (List.replicate r.length m) from rfl,this,zcY wv hm]
theorem z1M (f g:Nat->Nat):∀L:List Nat,PZ (L.map f)+PZ (L.map g)=PZ (L.map λb=>f b+g b)
 |[]=>rfl
 | b :: r => by
   rw[List.map_cons,List.map_cons,List.map_cons,PZ,PZ,PZ,<-z1M f g r,Nat.mul_add];omega
def z5l:∀L:List Nat,(∀c∈L,c / 16<=4/\c%16<=4)->(PZ L / 16+PZ L)&&&PZ (List.replicate L.length 15)=PZ (L.map λc=>c / 16+c%16)/\PZ L%16<=4
 |[],_=>⟨by simp[PZ],by simp[PZ]⟩
 | c :: r, h => by
   obtain⟨ih,ih2⟩:=z5l r (λx hx=>h x (List.mem_cons_of_mem c hx));obtain⟨h1,h2⟩:=h c List.mem_cons_self;have e:(c+256*PZ r) / 16+(c+256*PZ r)=(c / 16+16*(PZ r%16)+c)+2^8*(PZ r / 16+PZ r):=by omega
   have aS:c / 16+16*(PZ r%16)+c<2^8:=by omega
   have Lm:(c / 16+16*(PZ r%16)+c)&&&15=c / 16+c%16:=by
    have:=Nat.and_two_pow_sub_one_eq_mod (c / 16+16*(PZ r%16)+c) 4;rw[show(2:Nat)^4-1=15 from rfl,show(2:Nat)^4=16 from rfl] at this;rw[this];omega
   refine⟨?_,by rw[PZ];omega⟩;rw[List.length_cons,List.replicate_succ,PZ,PZ,List.map_cons,PZ,<-ih,e];have:=VC (s:=8) (a:=PZ r / 16+PZ r) (c:=PZ (List.replicate r.length 15)) aS (by decide:15<2^8);rw[show 15+256*PZ (List.replicate r.length 15)=15+2^8*PZ (List.replicate r.length 15) from rfl,this,Lm]
def z5q:∀L:List Nat,(∀b∈L,b<256)->(Pn (8*L.length) (PZ L)).count true=(L.map λb=>(Pn 8 b).count true).sum
 |[],_=>rfl
 | b :: r, h => by
   have ih:=z5q r (λx hx=>h x (List.mem_cons_of_mem b hx));have hb:=h b List.mem_cons_self;rw[List.length_cons,Nat.mul_add,Nat.mul_one,S4,List.count_append,PZ];have e1:(b+256*PZ r) / 2^8=PZ r:=by omega
   rw[List.map_cons,List.sum_cons,show(Pn 8 (b+256*PZ r))=Pn 8 b from Wl ω,e1,ih];omega
def s1B (b:Nat):Nat:=(b / 2&&&85)+(b&&&85)
def s2B (b:Nat):Nat:=(b / 4&&&51)+(b&&&51)
def z8U:∀b:Fin 256,s1B b<256/\s2B (s1B b)<256/\s2B (s1B b) / 16<=4/\s2B (s1B b)%16<=4/\s2B (s1B b) / 16+s2B (s1B b)%16=(Pn 8 b).count true:=by decide+kernel
def XR {b:Nat}(h:b<256):s1B b<256/\s2B (s1B b)<256/\s2B (s1B b) / 16<=4/\s2B (s1B b)%16<=4/\s2B (s1B b) / 16+s2B (s1B b)%16=(Pn 8 b).count true:=z8U ⟨b,h⟩
def Zt (x:Nat):List Nat:=[x%256,x / 256%256,x / 65536%256,x / 16777216%256,x / 4294967296%256,x / 1099511627776%256,x / 281474976710656%256,x / 72057594037927936%256]
def z7d {x:Nat}(h:x<18446744073709551616):PZ (Zt x)=x:=by
 simp only[Zt,PZ]
 omega
def z8z (x:Nat):∀b∈Zt x,b<256:=λb hb=>by
 simp only[Zt,List.mem_cons,List.not_mem_nil,or_false] at hb
 rcases hb with rfl|rfl|rfl|rfl|rfl|rfl|rfl|rfl<;>exact Nat.mod_lt _ ψ
def z63 {x:Nat}(h:x<18446744073709551616):∃D:List Nat,D.length=8/\(∀d∈D,d<=8)/\
  ((((x / 2&&&6148914691236517205)+(x&&&6148914691236517205)) / 4&&&3689348814741910323)+(((x / 2&&&6148914691236517205)+(x&&&6148914691236517205))&&&3689348814741910323)) / 16+((((x / 2&&&6148914691236517205)+(x&&&6148914691236517205)) / 4&&&3689348814741910323)+(((x / 2&&&6148914691236517205)+(x&&&6148914691236517205))&&&3689348814741910323))&&&1085102592571150095=PZ D/\D.sum=(Pn 64 x).count true:=by
 have hv:=z7d h
 have hl:=z8z x
 have hL:(Zt x).length=8:=rfl
 generalize Zt x=L at hv hl hL
 have m0:6148914691236517205=PZ (List.replicate L.length 85):=by rw[hL];rfl
 have m1:3689348814741910323=PZ (List.replicate L.length 51):=by rw[hL];rfl
 have m2:1085102592571150095=PZ (List.replicate L.length 15):=by rw[hL];rfl
 have f1:=z3h 1 85 ψ ψ L hl
 have f2:=z0E 85 ψ L hl
 rw[show(2:Nat)^1=2 from rfl] at f1
 have jb:∀b∈L.map s1B,b<256:=λb hb=>by
  obtain⟨y,hy,rfl⟩:=List.mem_map.1 hb;exact(XR (hl y hy)).1
 have e1:(x / 2&&&6148914691236517205)+(x&&&6148914691236517205)=PZ (L.map s1B):=by
  rw[m0,<-hv,f1,f2,z1M];rfl
 have f3:=z3h 2 51 ψ ψ (L.map s1B) jb
 have f4:=z0E 51 ψ (L.map s1B) jb
 rw[show(2:Nat)^2=4 from rfl] at f3
 rw[List.length_map] at f3 f4
 have e2:(PZ (L.map s1B) / 4&&&3689348814741910323)+(PZ (L.map s1B)&&&3689348814741910323)=PZ ((L.map s1B).map s2B):=by
  rw[m1,f3,f4,z1M];rfl
 rw[e1,e2]
 have im:∀c∈(L.map s1B).map s2B,c / 16<=4/\c%16<=4:=λc hc=>by
  obtain⟨z,hz,rfl⟩:=List.mem_map.1 hc;obtain⟨y,hy,rfl⟩:=List.mem_map.1 hz;have:=XR (hl y hy);exact⟨this.2.2.1,this.2.2.2.1⟩
 have f5:=(z5l _ im).1
 rw[List.length_map,List.length_map] at f5
 refine⟨((L.map s1B).map s2B).map λc=>c / 16+c%16,by rw[List.length_map,List.length_map,List.length_map];exact hL,λd hd=>?_,by rw[m2];exact f5,?_⟩
 ·obtain⟨c,hc,rfl⟩:=List.mem_map.1 hd;have:=im c hc;omega
 ·have ut:=z5q L hl;rw[hL,hv] at ut;rw[show 8*8=64 from rfl] at ut;rw[ut,List.map_map,List.map_map]
  congr 1
  refine List.map_congr_left λb hb=>?_;exact(XR (hl b hb)).2.2.2.2
def zbo {D:List Nat}(h8:D.length=8)(hd:∀d∈D,d<=8):let x4:=PZ D+PZ D / 256;let x5:=x4+x4 / 65536;let x6:=x5+x5 / 4294967296;PZ D<1152921504606846976/\x6%128=D.sum/\D.sum<=64:=by
 obtain⟨d0,d1,d2,d3,d4,d5,d6,d7,rfl⟩:∃d0 d1 d2 d3 d4 d5 d6 d7,D=[d0,d1,d2,d3,d4,d5,d6,d7]:=by
  match D,h8 with
  |[a,b,c,d,e,f,g,i],_=>exact⟨a,b,c,d,e,f,g,i,rfl⟩
 have k0:=hd d0 ξ
 have k1:=hd d1 ξ
 have k2:=hd d2 ξ
 have k3:=hd d3 ξ
 have k4:=hd d4 ξ
 have k5:=hd d5 ξ
 have k6:=hd d6 ξ
 have k7:=hd d7 ξ
 have h3:PZ [d0,d1,d2,d3,d4,d5,d6,d7] / 256=PZ [d1,d2,d3,d4,d5,d6,d7]:=by
  rw[PZ,Nat.add_mul_div_left _ _ ψ,Nat.div_eq_of_lt ω,Nat.zero_add]
 have h4:PZ [d0,d1,d2,d3,d4,d5,d6,d7]+PZ [d1,d2,d3,d4,d5,d6,d7]=(d0+d1+256*(d1+d2))+65536*((d2+d3)+256*(d3+d4)+65536*((d4+d5)+256*(d5+d6)+65536*((d6+d7)+256*d7))):=by
  simp only[PZ];omega
 have h5:(PZ [d0,d1,d2,d3,d4,d5,d6,d7]+PZ [d1,d2,d3,d4,d5,d6,d7]) / 65536=(d2+d3)+256*(d3+d4)+65536*((d4+d5)+256*(d5+d6)+65536*((d6+d7)+256*d7)):=by
  rw[h4,Nat.add_mul_div_left _ _ ψ,Nat.div_eq_of_lt ω,Nat.zero_add]
 dsimp only
 rw[h3,h5,h4]
 have h6:(d0+d1+256*(d1+d2))+65536*((d2+d3)+256*(d3+d4)+65536*((d4+d5)+256*(d5+d6)+65536*((d6+d7)+256*d7)))+((d2+d3)+256*(d3+d4)+65536*((d4+d5)+256*(d5+d6)+65536*((d6+d7)+256*d7)))=
   ((d0+d1+d2+d3)+256*(d1+d2+d3+d4)+65536*((d2+d3+d4+d5)+256*(d3+d4+d5+d6)))+4294967296*((d4+d5+d6+d7)+256*(d5+d6+d7)+65536*(d6+d7+256*d7)):=by omega
 rw[h6,Nat.add_mul_div_left _ _ ψ,Nat.div_eq_of_lt ω,Nat.zero_add]
 refine⟨by simp only[PZ];omega,?_,by simp only[List.sum_cons,List.sum_nil];omega⟩
 simp only[List.sum_cons,List.sum_nil]
 have h7:(d0+d1+d2+d3)+256*(d1+d2+d3+d4)+65536*((d2+d3+d4+d5)+256*(d3+d4+d5+d6))+4294967296*((d4+d5+d6+d7)+256*(d5+d6+d7)+65536*(d6+d7+256*d7))+((d4+d5+d6+d7)+256*(d5+d6+d7)+65536*(d6+d7+256*d7))=
   (d0+d1+d2+d3+d4+d5+d6+d7)+128*(2*(d1+d2+d3+d4)+512*((d2+d3+d4+d5)+256*(d3+d4+d5+d6))+33554432*((d4+d5+d6+d7)+256*(d5+d6+d7)+65536*(d6+d7+256*d7))+(2*(d5+d6+d7)+512*(d6+d7+256*d7))):=by omega
 rw[h7,Nat.add_mul_mod_self_left,Nat.mod_eq_of_lt ω]
 omega
def zby (x:Nat)(hx:x<18446744073709551616)(w:World):Ps prog 237 [P7 x] w λv w'=>v=I ((Pn 64 x).count true:Int)/\w'=w:=by
 obtain⟨D,h1,h2,h3,h4⟩:=z63 hx
 obtain⟨f1,f2,f3⟩:=zbo h1 h2
 have a1:x / 2&&&6148914691236517205<=6148914691236517205:=Nat.and_le_right
 have a2:x&&&6148914691236517205<=6148914691236517205:=Nat.and_le_right
 rw[<-h4]
 refine py (e:=[(0,_)]) func237 O ntmps237 O O$ qN O$ R3 O$ qV (Us 1 2 O O ψ O)$ qV (Uq O O ω ω)$ OT O$ qV (Uq O O ω ω)$ qV (V7 O O)$ QW O ?_
 rw[Nat.mod_eq_of_lt (show(x / 2&&&6148914691236517205)+(x&&&6148914691236517205)<18446744073709551616 by omega)]
 generalize hy:(x / 2&&&6148914691236517205)+(x&&&6148914691236517205)=y at h3
 have yo:y<18446744073709551616:=by omega
 have a3:y / 4&&&3689348814741910323<=3689348814741910323:=Nat.and_le_right
 have a4:y&&&3689348814741910323<=3689348814741910323:=Nat.and_le_right
 refine OT O$ qV (Us 2 4 O O ψ O)$ qV (Uq O O ω ω)$ OT O$ qV (Uq O O ω ω)$ qV (V7 O O)$ QW O ?_
 rw[Nat.mod_eq_of_lt (show(y / 4&&&3689348814741910323)+(y&&&3689348814741910323)<18446744073709551616 by omega)]
 generalize hz:(y / 4&&&3689348814741910323)+(y&&&3689348814741910323)=z at h3
 have nz:z<=7378697629483820646:=by omega
 refine OT O$ qV (Us 4 16 O O ψ O)$ OT O$ qV (V7 O O) ?_
 rw[Nat.mod_eq_of_lt (show z / 16+z<18446744073709551616 by omega)]
 refine qV (Uq O O ω ω)$ QW O ?_
 rw[h3]
 generalize PZ D=x3 at f1 f2
 refine Pl O$ qV (Us 8 256 O O ψ O)$ qV (V7 O O)$ QW O ?_
 rw[Nat.mod_eq_of_lt (show x3+x3 / 256<18446744073709551616 by omega)]
 generalize aG:x3+x3 / 256=x4 at f2
 have yp:x4<=1157495777000000000:=by omega
 refine Pl O$ qV (Us 16 65536 O O ψ O)$ qV (V7 O O)$ P3 O$ Pu.qb (e:=[(0,_),(2,_)]) ?_
 refine qN O ?_
 rw[Nat.mod_eq_of_lt (show x4+x4 / 65536<18446744073709551616 by omega)]
 generalize aV:x4+x4 / 65536=x5 at f2
 have Ln:x5<=1160000000000000000:=by omega
 refine Pl O$ qV (Us 32 4294967296 O O ψ O)$ qV (V7 O O)$ QW O ?_
 rw[Nat.mod_eq_of_lt (show x5+x5 / 4294967296<18446744073709551616 by omega)]
 generalize aR:x5+x5 / 4294967296=x6 at f2
 have Lo:x6<=1170000000000000000:=by omega
 refine OT O$ qV (PQ O Rw U3 ω)$ qV (XF O O ω ω) ?_
 rw[show x6&&&127=D.sum by rw[<-f2];exact Nat.and_two_pow_sub_one_eq_mod x6 7]
 refine P3 O$ OI func237 O ?_
 exact⟨_,rfl,rfl,rfl⟩
def z9t {x:Nat}(hx:x<18446744073709551616):PU x<=64:=R8 ω
def zc4 (x:Nat)(hx:x<18446744073709551616)(w:World):Ps prog 238 [P7 x] w λv w'=>v=I ((64-PU x:Nat):Int)/\w'=w:=by
 have tc:=z9t hx
 refine py (e:=[(0,_)]) func238 O ntmps238 O O$ qN O$ R3 O$ Pb z2B O (Uk x hx w) ?_
 rintro _ w ⟨rfl,rfl⟩
 refine Rt O ?_
 rw[show(64:Int)-(PU x:Int)=((64-PU x:Nat):Int) by omega]
 refine P3 O$ OI func238 O ?_
 exact⟨_,rfl,rfl,rfl⟩
def methT (P:Program)(t:TypeId)(name:String):Option FuncId:=match P.info? t with
 | some i => match i.methods.toList.find? (·.name == name) with
   | some m => match m.path.toList, m.func with
     | [], some (f, pr) => match P.underlying t with
       |some (.pointer _)=>cond pr (some f) none
       |some _=>cond pr none (some f)
       |none=>none
     |_,_=>none
   |none=>none
 |none=>none
section
variable {P:Program}{e:Env}{d:Option Nat}{ty t t':TypeId}{pos:String}{aft:Array Edge}{g:Option (Nat×Bool)}{x y:Operand}{w:World}{m n:Nat}
theorem TQ {i:TypeInfo}(h:P.info? t=some i):(typeInfo t).run P w= .ok i w:=by simp[typeInfo,program,Sem.run,h]
theorem z9M {f:FuncId}{name:String}{u:Value}(h:methT P t name=some f)(n:Nat):(method (n+1) t u name).run P w= .ok (f,u) w:=by
 unfold methT at h
 split at h<;>try cases h
 rename_i i hi
 split at h<;>try cases h
 rename_i m hm
 split at h<;>try cases h
 rename_i f' pr jt ju
 have o7:i.methods.find? (·.name==name)=some m:=by rw[<-hm,Array.find?_toList]
 split at h<;>try cases h
 ·rename_i el hu
  cases pr<;>simp at h;subst h;simp[method,TQ hi,o7,jt,follow,ju,receiverAt,run_underlying hu,Place.get]
 ·rename_i td IE hu
  cases pr<;>simp at h;subst h;unfold method;simp only[Sem.run_bind,TQ hi,Result.andThen_ok,o7,jt,follow,Sem.run_pure,ju,receiverAt,run_underlying hu,Place.get]
def yci {f:FuncId}{nm:String}{args:List Operand}{ts:Array TypeId}{vs:List Value}{u:Value}(hf:CF P f)(hm:methT P t nm=some f)(hx:look e x=some (.iface t u))(ha:looks e args=some vs):
  Yc P e ⟨d,.call ⟨.invoke x nm,args.toArray,ts⟩,ty,pos,aft,g⟩ f (u::vs) w:=fun ρ hρ=>by
 have Bz:=λw=>z9M (P:=P) (w:=w) (u:=u) hm (P.types.size+(Made.depth-1))
 rw[show P.types.size+(Made.depth-1)+1=P.types.size+Made.depth from rfl] at Bz
 have tO:(program).run P w= .ok P w:=rfl
 have o7:=TH hρ _ _ ha
 have h0:=hρ _ _ hx
 simp[execOp,resolve,o7,h0,Deferred.ofValue,invoke,callMethod,tO,Bz,Tx hf]
def zfp (hx:look e x=some (I (m:Int)))(hy:look e y=some (I 7))(hm:m<2^62):Y P e ⟨d,.binOp .andNot t x y t',ty,pos,aft,g⟩ (I ((m / 8*8:Nat):Int)) w w:=fun ρ hρ=>by
 have h1:m<2^IntKind.i64.bits:=by simp only[IntKind.bits];omega
 have h3:m&&&18446744073709551608=m / 8*8:=by
  have h4:=VC (s:=3) (a:=m / 8) (b:=m%8) (c:=2305843009213693951) (d:=0) (Nat.mod_lt _ ψ) ψ;rw[Nat.and_zero,Nat.zero_add,Nat.zero_add] at h4;have h5:=Nat.and_two_pow_sub_one_eq_mod (m / 8) 61;rw[show(2:Nat)^61-1=2305843009213693951 from rfl,Nat.mod_eq_of_lt ω] at h5;rw[h5,show(2:Nat)^3=8 from rfl,show 8*2305843009213693951=18446744073709551608 from rfl,show m%8+8*(m / 8)=m by omega] at h4;rw[h4];omega
 have h6:(BitVec.ofInt IntKind.i64.bits (m:Int)&&&~~~(BitVec.ofInt IntKind.i64.bits 7)).toNat=m / 8*8:=by
  rw[BitVec.toNat_and,R1 h1,show(~~~(BitVec.ofInt IntKind.i64.bits 7)).toNat=18446744073709551608 by decide,h3]
 simp only[execOp,eqGuard_andNot,binOp_andNot,intBits_andNot,hρ _ _ hx,hρ _ _ hy,pure_bind,Sem.run_pure,bits,h6]
 rw[wrap_i64 ⟨ω,ω⟩]
def zjZ {r v q:Nat}(hr:r<=63)(hv:v<2^r)(hq:2^r=q)(hx:look e x=some (.int .u64 ((q+v:Nat):Int)))(hy:look e y=some (.int .u64 (q:Int))):Y P e ⟨d,.binOp .andNot t x y t',ty,pos,aft,g⟩ (.int .u64 (v:Int)) w w:=fun ρ hρ=>by
 subst hq
 have hp:2^r<=2^63:=Nat.pow_le_pow_right ψ hr
 have tc:2^64=2^r*2^(64-r):=by rw[<-Nat.pow_add,show r+(64-r)=64 by omega]
 have h2:2^(64-r)=2*2^(63-r):=by rw[<-Nat.pow_succ',show 64-r=(63-r)+1 by omega]
 have CQ:0<2^(63-r):=Nat.two_pow_pos _
 have h1:2^r+v<2^IntKind.u64.bits:=by simp only[IntKind.bits];omega
 have h3:2^r<2^IntKind.u64.bits:=by simp only[IntKind.bits];omega
 have h4:(2^r+v)&&&(2^64-1-2^r)=v:=by
  have h5:=VC (s:=r) (a:=1) (b:=v) (c:=2^(64-r)-2) (d:=2^r-1) hv (by have:=Nat.two_pow_pos r;omega);rw[Nat.mul_one,Nat.and_two_pow_sub_one_eq_mod,Nat.mod_eq_of_lt hv,Nat.one_and_eq_mod_two,h2,show(2*2^(63-r)-2)%2=0 by omega,Nat.mul_zero,Nat.add_zero] at h5
  have h6:2^r-1+2^r*(2*2^(63-r)-2)=2^64-1-2^r:=by
   rw[Nat.mul_sub,<-h2,<-tc];have:=Nat.two_pow_pos r;omega
  rw[h6,Nat.add_comm v] at h5;exact h5
 have h6:(BitVec.ofInt IntKind.u64.bits ((2^r+v:Nat):Int)&&&~~~(BitVec.ofInt IntKind.u64.bits ((2^r:Nat):Int))).toNat=v:=by
  rw[BitVec.toNat_and,BitVec.toNat_not,R1 h1,R1 h3];exact h4
 simp only[execOp,eqGuard_andNot,binOp_andNot,intBits_andNot,hρ _ _ hx,hρ _ _ hy,pure_bind,Sem.run_pure,bits,h6]
 rw[z0L (k:= .u64) O (by simp only[IntKind.bits];omega)]
end
structure Src (t:TypeId)(u:Value)(T:OO) where
 inv:(Nat->Prop)->World->Prop
 fl:FuncId
 fr:FuncId
 cl:CF prog fl
 cr:CF prog fr
 ml:methT prog t "Length"=some fl
 mr:methT prog t "ReadAt"=some fr
 ext:∀{X Y:Nat->Prop} {w w':World},inv X w->Ext w w'->(∀k,Y k->X k\/w.heap.size<=k)->inv Y w'
 step:∀{X Y S:Nat->Prop} {w w':World},inv X w->Kp S w w'->(∀k,S k->X k)->(∀k,Y k->X k\/w.heap.size<=k)->inv Y w'
 len:∀{X:Nat->Prop} {w:World},inv X w->Ps prog fl [u] w λv w'=>v=I (T.length:Int)/\Ext w w'
 rd:∀{X:Nat->Prop} {w:World} (off n:Nat),inv X w->(∀k,X k->k<w.heap.size)->off+n<=T.length->Ps prog fr [u,I (off:Int),I (n:Int)] w λv w'=>v= .tuple #[S ((T.drop off).take n),I 0]/\inv X w'/\Kp (λk=>¬X k) w w'
def Src.own {t:TypeId}{u:Value}{T:OO}(R:Src t u T){X S:Nat->Prop}{w w':World}(h:R.inv X w)(hk:Kp S w w')(hS:∀k,S k->X k):R.inv X w':=R.step h hk hS λ_ e=> .inl e
def z1g {s:OO}{i:Nat}{c:UInt8}(h:s[i]? =some c):PF (Pf (s.take (i+1)))=PF (Pf (s.take i))*256+c.toNat:=by
 rw[PK h,Z0,RY,show Pf [c]=Pn 8 c.toNat by simp[Pf],Q5,bitsN_length]
 have:=c.toNat_lt
 omega
def WW (s:OO)(hs:s.length<=8)(w:World):Ps prog 162 [S s] w λv w'=>v=P7 (PF (Pf s))/\Ext w w':=by
 refine py (e:=[(0,_)]) func162 O ntmps162 O O$ qN O$ QW O$ P3 O$ PR O$ OP O O (zb7 U9 SL U5 O) ?_
 rintro _ w1 ⟨b7,c7,rest,rfl,⟨m7,ad,ai⟩,DR⟩
 refine RO SL O$ OT O$ OJ$ OL$ RN (α:=Nat) (0) (λi=>[(3,P7 (PF (Pf (s.take i)))),(7,.slice (some ⟨b7,0,none⟩) s.length c7),(8,I (s.length:Int)),(9,I (i:Int))]) (λi w'=>w'=w1/\i<=s.length) (λi=>s.length-i) ?hI ?hround
 case hI=>exact⟨rfl,Nat.zero_le _⟩
 case hround=>
  rintro i w2 ⟨rfl,hi⟩ ih
  try dsimp only
  refine qN O$ QV O$ OJ$ An$ OX O (λh0=>?_)$ λh0=>?_
  ·obtain⟨c,hc⟩:∃c,s[i]? =some c:=⟨_,List.getElem?_eq_getElem ω⟩;have fF:=c.toNat_lt;have lM:=z1g hc
   have aS:PF (Pf (s.take i))<72057594037927936:=by
    have h1:=R7 (Pf (s.take i));rw[bitsT_length,List.length_take] at h1;have h2:2^(8*min i s.length)<=2^56:=Nat.pow_le_pow_right ψ ω;omega
   have bj:w2.cell? ⟨b7,0+i*1,none⟩=some (Tz c):=by
    rw[ai.cell,Nat.zero_add,Nat.mul_one,List.getElem?_append_left (by rw[List.length_map];omega),List.getElem?_map,hc];rfl
   refine OK$ QO$ qN O$ qV (Qc SL Y9 O O ω)$ qV (PC U5 O O bj) ?_
   generalize PF (Pf (s.take i))=q at lM aS
   refine P3 O$ Rp O$ qV (Rj 8 256 O O ψ O)$ OT O$ qV ((zbx O U5 Rw ψ))$ qV (z1J O O ω ω) ?_
   have pj:(q*256%18446744073709551616 |||c.toNat)=PF (Pf (s.take (i+1))):=by
    rw[lM,Nat.mod_eq_of_lt ω,Nat.mul_comm q];exact(Nat.two_pow_add_eq_or_of_lt (i:=8) fF q).symm
   rw[pj];refine P3 O$ OG$ OQ O$ Q4 O$ OT O$ OJ ?_;exact(ih (i+1) _ ⟨rfl,ω⟩ ω).qb
  ·have dq:i=s.length:=by omega
   subst dq;rw[List.take_length];refine OV O$ Pt O$ P3 O$ OI func162 O ?_;exact⟨_,rfl,rfl,ad⟩
section
variable {P:Program}{e:Env}{d:Option Nat}{ty t t':TypeId}{pos:String}{aft:Array Edge}{g:Option (Nat×Bool)}{x y:Operand}{w:World}
theorem zcs {ms:Array (String×TypeId)}{tx:TypeId}{v:Value}(ht:P.underlying t=some (.interface ms)):(binOp .eql t (.iface tx v) .nilIface).run P w= .ok (.bool false) w:=by
 have h:P.methodsAt t=ms:=by unfold Program.methodsAt;rw[ht]
 exact run_eql_held_nil w t tx v (by rw[h];exact ht)
def zeu {ms:Array (String×TypeId)}{tx:TypeId}{v:Value}(ht:P.underlying t=some (.interface ms))(hx:look e x=some (.iface tx v))(hy:look e y=some .nilIface):Y P e ⟨d,.binOp .eql t x y t',ty,pos,aft,g⟩ (.bool false) w w:=fun ρ hρ=>by
 have hg:∀a b,(eqGuard .eql t a b (.iface tx v) .nilIface).run P w= .ok () w:=λa b=>rfl
 simp only[execOp,hρ _ _ hx,hρ _ _ hy,Sem.run_bind,hg,Result.andThen_ok,zcs ht,Sem.run_pure]
def zg7 {tx:TypeId}{v:Value}(hx:look e x=some (.iface tx v)):Y P e ⟨d,.nilCheck x,ty,pos,aft,g⟩ (.iface tx v) w w:=fun ρ hρ=>by simp[execOp,hρ _ _ hx]
end
structure Vq (l:List Nat)(f:Fm)(z:Nat):Prop where
 n1:1<=l.length
 n2:l.length<=64
 nof:Nof l
 last:l[l.length-1]? =some z
 zb:z<=999999998
 fe:f=TT l.length (z+1)
def Vq.small {l:List Nat}{f:Fm}{z:Nat}(h:Vq l f z):f.small:=by
 rw[h.fe]
 exact z3e h.n1 (by have:=h.n2;omega) ω (by have:=h.zb;omega)
theorem Vq.len {l:List Nat}{f:Fm}{z:Nat}(h:Vq l f z):(YK l f).length=f.size:=by
 rw[h.fe]
 exact z3X h.n1 h.n2 h.nof h.last
theorem Vq.n {l:List Nat}{f:Fm}{z:Nat}(h:Vq l f z):f.n=l.length:=by rw[h.fe];rfl
theorem Vq.u {l:List Nat}{f:Fm}{z:Nat}(h:Vq l f z):f.u=z+1:=by rw[h.fe];rfl
def Vq.size_le {l:List Nat}{f:Fm}{z:Nat}(h:Vq l f z):f.size<=40000000/\12<=f.size:=by
 have h1:=h.small
 have h2:=Fm.WK h1
 obtain⟨h3,h4,h5⟩:=h1
 unfold Fm.size Fm.UL
 have:12<=f.high:=by unfold Fm.high;omega
 omega
def piece {A B C:OO}{off n o:Nat}(h:off=A.length+o)(hn:o+n<=B.length):((A++B++C).drop off).take n=(B.drop o).take n:=by
 rw[h,List.append_assoc,List.drop_length_add_append,List.drop_append_of_le_length ω,List.take_append_of_le_length (by rw[List.length_drop];omega)]
def Td (f:Fm):List Bool:=Pn 32 f.n++Pn 64 f.u
theorem z2i (f:Fm):Pf (Pp (Td f))=Td f:=by
 obtain⟨z,h1,h2,h3⟩:=Sn (Td f)
 have hl:(Td f).length=96:=by simp[Td]
 have hz:z=0:=by omega
 rw[h1,hz,List.replicate_zero,List.append_nil]
theorem Uv (f:Fm):(Pp (Td f)).length=12:=by
 rw[PE];simp[Td]
def zfD (f:Fm)(hn:f.n<4294967296):PF (Pf ((Pp (Td f)).take 4))=f.n:=by
 rw[UI,z2i]
 unfold Td
 rw[List.take_left' ξ,Q5]
 exact Nat.mod_eq_of_lt hn
def zff (f:Fm)(hu:f.u<18446744073709551616):PF (Pf ((Pp (Td f)).drop 4))=f.u:=by
 rw[TG,z2i]
 unfold Td
 rw[List.drop_left' ξ,Q5]
 exact Nat.mod_eq_of_lt hu
theorem zc2 (l:List Nat)(f:Fm):((YK l f).drop 0).take 12=Pp (Td f):=by
 have h:=piece (A:=[]) (B:=Pp (Td f)) (C:=Pp (Sv f.width l)++(Pp (hiB f.width 0 0 l)++Pp (Sf f.width l))) (off:=0) (n:=12) (o:=0) O (by rw[Uv];omega)
 rw[List.nil_append] at h
 unfold YK
 rw[List.append_assoc,List.append_assoc]
 refine h.trans ?_
 rw[List.drop_zero,List.take_of_length_le (by rw[Uv];omega)]
def elC (f:Fm)(t:TypeId)(u:Value):List Value:=[I (f.n:Int),P7 f.u,I (f.width:Int),I (f.bits:Int),.iface t u]
def z6U {t:TypeId}{u:Value}{l:List Nat}{f:Fm}{z:Nat}(he:Vq l f z)(R:Src t u (YK l f)){X:Nat->Prop}{w:World}(hI:R.inv X w)(hX:∀k,X k->k<w.heap.size):
  Ps prog 130 [.iface t u] w λv w'=>∃x,v= .tuple #[ptr x 0,I 0]/\OU w' x (elC f t u) 277/\w.heap.size<=x/\R.inv (λk=>X k\/k=x) w'/\Kp (λk=>¬X k) w w':=by
 obtain⟨ee,dt⟩:=he.size_le
 have aJ:=he.len
 have qm:=he.n
 have Bw:=he.u
 have jM:=he.n2
 have df:=he.n1
 have wW:=he.zb
 refine py (e:=[(0,_)]) func130 O ntmps130 O O$ qN O$ Qr O$ QO$ Pt O$ qV (zeu z6C O O)$ P3 O$ OR O$ Pt O$ Qw O O (yci R.cl R.ml O O) (R.len hI) ?_
 rintro _ w1 ⟨rfl,ad⟩
 rw[aJ]
 have mE:=R.ext hI ad (λk hk=> .inl hk)
 have dl:∀k,X k->k<w1.heap.size:=λk hk=>by have:=hX k hk;have:=ad.size;omega
 refine QV O$ PO$ P3 O$ SO O$ OG$ Pt O$ Qw O O (yci R.cr R.mr O O) (R.rd 0 12 mE dl (by rw[aJ];omega)) ?_
 rintro _ w2 ⟨rfl,cT,am⟩
 rw[zc2]
 have dF:Kp (λk=>¬X k) w w2:=ad.kp.trans am
 have eO:∀k,X k->k<w2.heap.size:=λk hk=>by have:=dl k hk;have:=am.size;omega
 have pI:=Uv f
 have uh:((Pp (Td f)).take 4).length<=8:=by rw[List.length_take];omega
 have nF:((Pp (Td f)).drop 4).length<=8:=by rw[List.length_drop];omega
 have uu:=zfD f ω
 have IF:=zff f ω
 generalize Pp (Td f)=hb at pI uh nF uu IF
 have aa:=Ext.Pa w2
 refine OT O$ SM O$ Qr O$ PR O$ QF O$ Qm O$ An$ R0 (λw'=>Ext w2 w') O$ P8 0 O O (aa)$ OM 1 O (z57 U9 O O ω) aa$ P8 3 O O (aa)$ OM 4 O (z1n U9 O O ω) aa$ S1 2 O z7i O (WW (hb.take 4) uh _) ?_
 rintro _ w3 ⟨rfl,ah⟩
 refine⟨aa.trans ah,?_⟩
 refine S1 5 O z7i O (WW (hb.drop 4) nF _) ?_
 rintro _ w4 ⟨rfl,aG⟩
 refine⟨(aa.trans ah).trans aG,?_⟩
 have dP:=(aa.trans ah).trans aG
 rw[uu,IF]
 have jv:=R.ext cT dP (λk hk=> .inl hk)
 refine OM 6 O (Rv O) ((aa.trans ah).trans aG)$ OM 7 O (Rv O) ((aa.trans ah).trans aG)$ qE$ Pu.qb (e:=[(0,_),(2,_),(3,_),(6,_),(7,_)]) ?_
 refine PR O$ QD O$ PO$ Pl O$ QD O$ PO$ PT O$ Pl O$ Rk O$ PO$ OT O$ Rk O$ PO$ qV (zed O O U4) ?_
 refine PT O$ Qm O$ Pt O$ qV (PQ O Rw U3 ω)$ OT O ?_
 have Lp:TT f.n f.u=f:=by rw[qm,Bw];exact he.fe.symm
 have jO:=XJ f.n f.u ω ω ω ω w4
 rw[Lp] at jO
 refine Pb zac O (jO) ?_
 rintro _ w5 ⟨rfl,aV⟩
 refine OP O O (Rz (cs:=[_,_,_,_]) Tr O) ?_
 rintro _ w6 ⟨b8,rfl,j3,aR,cu⟩
 refine OY O (PL (news:=fmC f) Tr O O O O cu ξ) ?_
 rintro w7 ⟨qH,aB⟩
 replace qH:OU w7 b8 (fmC f) 220:=qH
 have gX:Ext w5 w7:=aR.It aB (λi e=>by omega)
 have yr:=aV.trans gX
 have me:=R.ext jv yr (λk hk=> .inl hk)
 refine OJ$ An$ qN O$ qV (Pv (news:=fmC f) z4X O Tr O (qH.cells (n:=4) O) O)$ Pb zee O (z2A f he.small _) ?_
 rintro _ w8 ⟨rfl,cR⟩
 have Ed:=R.ext me cR (λk hk=> .inl hk)
 refine OT O$ Qw O O (yci R.cl R.ml O O) (R.len Ed) ?_
 rintro _ w9 ⟨rfl,fH⟩
 rw[aJ]
 have gT:=R.ext Ed fH (λk hk=> .inl hk)
 have iK:=cR.trans fH
 have yt:=(dP.trans yr).trans iK
 refine QF O$ PO$ OJ$ Pu.qb (e:=[(0,_),(2,_),(3,_),(8,_),(51,_)]) ?_
 refine SO O$ qN O$ qV (Pv (news:=fmC f) z4X O Tr O ((iK.OH qH).cells (n:=4) O) O)$ OT O$ qV (Sh (cs:=[_,_,_,_,_]) zfN O zi3 O O)$ OP O O (R6 O (cs:=elC f t u) O) ?_
 rintro _ w10 ⟨x,rfl,hx,bP,fG⟩
 refine Qr O$ OI func130 O ?_
 exact⟨_,rfl,x,rfl,fG,by have:=dF.size;have:=yt.size;omega,R.ext gT bP (λk hk=>hk.imp id λe=>by omega),dF.trans (yt.trans bP).kp⟩
def z9a {t:TypeId}{u:Value}{f:Fm}{x:Nat}{w:World}(hB:OU w x (elC f t u) 277):Ps prog 131 [ptr x 0] w λv w'=>v=I (f.n:Int)/\w'=w:=by
 replace hB:OU w x [I (f.n:Int),P7 f.u,I (f.width:Int),I (f.bits:Int),.iface t u] 277:=hB
 refine py (e:=[(0,_)]) func131 O ntmps131 O O$ QN O$ PR O$ qV (Qb z3k O O)$ Qm O$ Pt O$ Pw O$ P4 SC O$ P4 YT O$ qV (OS U3 O O hB O)$ P3 O$ OI func131 O ?_
 exact⟨_,rfl,rfl,rfl⟩
theorem zb0 (k:Nat)(a b:List Nat):Sv k (a++b)=Sv k a++Sv k b:=by simp[Sv]
def zdo {k i v:Nat}{l:List Nat}(h:l[i]? =some v)(rest:List Bool):((Sv k l++rest).drop (i*k)).take k=Pn k (v%2^k):=by
 have hi:=(List.getElem?_eq_some_iff.1 h).1
 have e:l=l.take i++(v::l.drop (i+1)):=by
  conv=>lhs;rw[<-List.take_append_drop i l]
  congr 1
  rw[List.drop_eq_getElem_cons hi,(List.getElem?_eq_some_iff.1 h).2]
 have hl:(Sv k (l.take i)).length=i*k:=by rw[Uy,List.length_take,Nat.min_eq_left ω]
 rw[e,zb0,List.append_assoc,List.drop_left' hl]
 show((Pn k (v%2^k)++Sv k (l.drop (i+1)))++rest).take k=_
 rw[List.append_assoc,List.take_left' ξ]
def z1U {B:OO}{o n a m:Nat}(h:a+m<=8*n):((Pf ((B.drop o).take n)).drop a).take m=((Pf B).drop (8*o+a)).take m:=by
 rw[UI,TG,List.drop_take,List.drop_drop,List.take_take,Nat.min_eq_left ω]
def zc8 (l:List Nat)(f:Fm){o n:Nat}(h:o+n<=(Pp (Sv f.width l)).length):((YK l f).drop (12+o)).take n=((Pp (Sv f.width l)).drop o).take n:=by
 unfold YK
 rw[List.append_assoc (Pp (Pn 32 f.n++Pn 64 f.u)++Pp (Sv f.width l))]
 exact piece (by rw[show Pp (Pn 32 f.n++Pn 64 f.u)=Pp (Td f) from rfl,Uv]) h
def z9X {t:TypeId}{u:Value}{l:List Nat}{f:Fm}{z:Nat}(he:Vq l f z)(R:Src t u (YK l f)){X:Nat->Prop}{w:World}(hI:R.inv X w)(hX:∀k,X k->k<w.heap.size){x:Nat}(hx:X x)(hB:OU w x (elC f t u) 277){i v:Nat}(hv:l[i]? =some v):
  Ps prog 229 [ptr x 0,I (i:Int)] w λr w'=>r= .tuple #[P7 (v%2^f.width),I 0]/\R.inv X w'/\Kp (λk=>¬X k) w w':=by
 have dq:=(List.getElem?_eq_some_iff.1 hv).1
 have aJ:=he.len
 obtain⟨xA,yu⟩:=he.size_le
 have jM:=he.n2
 have wo:f.width<=30:=by rw[he.fe];exact Zo (by have:=he.zb;omega)
 replace hB:OU w x [I (f.n:Int),P7 f.u,I (f.width:Int),I (f.bits:Int),.iface t u] 277:=hB
 refine py (e:=[(0,_),(1,_)]) func229 O ntmps229 O O$ qN O$ Qr O$ PR O$ Pw O$ P4 SC O$ P4 Tp O$ qV (OS U3 O O hB O)$ Rk O$ OJ$ OX O (λh0=>?_)$ λh0=>?_
 ·have nL:f.width=0:=by omega
  refine qN O$ Qr O$ OI func229 O (⟨_,rfl,?_,hI,Kp.refl _ _⟩);rw[nL,Nat.pow_zero,Nat.mod_one]
  rfl
 ·have Ih:1<=f.width:=by omega
  have Lq:i*f.width<=64*30:=Nat.mul_le_mul ω wo;have IG:(i+1)*f.width=i*f.width+f.width:=by rw[Nat.add_mul,Nat.one_mul]
  have fA:(i+1)*f.width<=l.length*f.width:=Nat.mul_le_mul_right _ dq;have e1:((i*f.width:Nat):Int)=(i:Int)*(f.width:Int):=Int.natCast_mul _ _;have e2:(((i+1)*f.width:Nat):Int)=((i:Int)+1)*(f.width:Int):=Int.natCast_mul _ _;have hg:=Ext.Pa w;refine OK$ An$ R0 (λw'=>Ext w w') O$ P8 0 O O (hg)$ P8 1 O O (hg)$ OM 2 O (Qd O) hg$ OM 3 O (Px SC O) hg$ OM 4 O (Px Tp O) hg$ qT 5 O (λ_ h=>OS U3 O O (h.OH hB) O) hg$ P8 7 O O (hg)$ OM 8 O (UN O O ω) hg$ P8 9 O O (hg)$ OM 10 O (Qd O) hg$ OM 11 O (Px SC O) hg ?_;refine OM 12 O (Px Tp O) hg$ qT 13 O (λ_ h=>OS U3 O O (h.OH hB) O) hg$ OM 6 O (Y8 O O (by rw[<-e1];omega)) hg ?_;rw[<-e1];refine OM 15 O (Rv O) hg$ OM 14 O (Y8 O O (by rw[<-e2];omega)) hg ?_;rw[<-e2,IG];refine OM 16 O (Rv O) hg$ qE$ Pu.qb (e:=[(0,_),(4,_),(5,_),(6,_),(7,_)]) ?_;refine Pt O$ Pw O$ P4 z2O O$ qV (OS z6C O O hB O)$ OT O$ qV (WX O O ω)$ Q4 O$ OT O$ Q4 O$ qV (WX O O ω)$ OT O$ qV (WX O O ω)$ Rt O ?_;have uv:=hg.OH hB;have Lr:=R.ext hI hg (λk hk=> .inl hk);have Ls:∀k,X k->k<w.drew.heap.size:=λk hk=>by have:=hX k hk;have:=hg.size;omega
  have Ee:(Pp (Sv f.width l)).length=(l.length*f.width+7) / 8:=by rw[PE,Uy]
  have Ef:=zdo (k:=f.width) hv;have qd:∀rest,((Sv f.width l++rest).drop (i*f.width)).take f.width=Pn f.width (v%2^f.width):=Ef;rw[IG] at fA
  generalize i*f.width=fr at Lq fA qd e1
  rw[show(12:Int)+(fr:Int) / 8=((12+fr / 8:Nat):Int) by omega,show((fr+f.width:Nat):Int)+7=((fr+f.width+7:Nat):Int) by omega,show((fr+f.width+7:Nat):Int) / 8-(fr:Int) / 8=(((fr+f.width+7) / 8-fr / 8:Nat):Int) by omega];have uw:fr / 8+((fr+f.width+7) / 8-fr / 8)<=(Pp (Sv f.width l)).length:=by rw[Ee];omega
  have lX:=zc8 l f uw
  have ux:12+fr / 8+((fr+f.width+7) / 8-fr / 8)<=(YK l f).length:=by
   have e:(YK l f).length=12+(Pp (Sv f.width l)).length+(Pp (hiB f.width 0 0 l)).length+(Pp (Sf f.width l)).length:=by
    unfold YK;rw[List.length_append,List.length_append,List.length_append,show Pp (Pn 32 f.n++Pn 64 f.u)=Pp (Td f) from rfl,Uv]
   omega
  refine Qw O O (yci R.cr R.mr O O) (R.rd (12+fr / 8) ((fr+f.width+7) / 8-fr / 8) Lr Ls ux) ?_;rintro _ w1 ⟨rfl,mE,az⟩;rw[lX];have dx:Kp (λk=>¬X k) w w1:=hg.kp.trans az;have ai:=dx.OH hB (λe=>e hx)
  have gE:(((Pp (Sv f.width l)).drop (fr / 8)).take ((fr+f.width+7) / 8-fr / 8)).length=(fr+f.width+7) / 8-fr / 8:=by
   rw[List.length_take,List.length_drop];omega
  obtain⟨zz,nz,-,-⟩:=Sn (Sv f.width l);have bZ:=z1U (B:=Pp (Sv f.width l)) (o:=fr / 8) (n:=(fr+f.width+7) / 8-fr / 8) (a:=fr%8) (m:=f.width) ω;rw[show 8*(fr / 8)+fr%8=fr by omega,nz,qd] at bZ
  generalize ((Pp (Sv f.width l)).drop (fr / 8)).take ((fr+f.width+7) / 8-fr / 8)=pt at gE bZ
  refine OT O$ SM O$ Qr O$ PR O$ QF O$ OJ$ Pu.qb (e:=[(0,_),(4,_),(5,_),(6,_),(8,_),(9,_),(52,_)]) ?_;refine SO O$ Pt O$ Pb z8j O (Xf pt ω w1) ?_;rintro _ w2 ⟨r,rfl,dg,ae,dm⟩;refine QW O$ Pl O$ qV (XF O O ω ω) ?_;rw[show fr&&&7=fr%8 from Nat.and_two_pow_sub_one_eq_mod fr 3];refine Pb zaN O (Zs dg (fr%8) ω) ?_;rintro _ w3 ⟨rfl,lN,av⟩;have aZ:Ext w1 w3:=ae.It av (λi e=>by omega);have au:=aZ.OH ai;refine qM O$ Pl O$ Pw O$ P4 SC O$ P4 Tp O$ qV (OS U3 O O au O)$ Pb z4q O (Vt lN f.width ω) ?_;rintro v4 w4 vW
  have jg:v4= .tuple #[P7 (v%2^f.width),I 0]/\Kp (λk=>k=r) w3 w4:=by
   rcases vW with⟨-,e,-,hk⟩|⟨e,-,-⟩
   ·rw[bZ,Q5,Nat.mod_mod] at e;exact⟨e,hk⟩
   ·omega
  obtain⟨rfl,ar⟩:=jg;have eR:Ext w1 w4:=aZ.It ar (λi e=>by omega);refine OT O$ SM O$ Qr O$ Pu.qb (e:=[(4,_),(5,_),(11,_)]) ?_;refine Pt O$ Qr O$ OI func229 O ?_;exact⟨_,rfl,rfl,R.ext mE eR (λk hk=> .inl hk),dx.trans eR.kp⟩
theorem z0K (n:Nat):PF (List.replicate n false)=0:=by
 rw[<-VV,Q5];simp
theorem z4n (b:List Bool)(k:Nat):PF (b++List.replicate k false)=PF b*2^k:=by
 rw[RY,z0K,List.length_replicate,Nat.add_zero]
theorem z2x (b:List Bool)(k:Nat):PF (List.replicate k false++b)=PF b:=by
 rw[RY,z0K];simp
theorem z1I {D:List Bool}{a b m:Nat}(ha:m<=D.length+a)(hb:m<=D.length+b):(D++List.replicate a false).take m=(D++List.replicate b false).take m:=by
 rw[List.take_append,List.take_append,List.take_replicate,List.take_replicate,Nat.min_eq_left ω,Nat.min_eq_left ω]
def wdB (H:List Bool)(a:Nat):List Bool:=List.replicate (a%8) false++(H.drop a++List.replicate 64 false).take (64-a%8)
def z8b (H:List Bool)(a:Nat):(wdB H a).length=64:=by
 unfold wdB
 rw[List.length_append,List.length_replicate,List.length_take,List.length_append,List.length_replicate]
 omega
def z9o {H:List Bool}{fq n:Nat}(hf:8*fq<H.length)(hn:n=min 8 ((H.length+7) / 8-fq)):
  Pf (((Pp H).drop fq).take n)++List.replicate (64-8*n) false=(H.drop (8*fq)++List.replicate 64 false).take 64:=by
 obtain⟨z,h1,h2,h3⟩:=Sn H
 rw[UI,TG,h1,List.drop_append_of_le_length ω]
 have hD:(H.drop (8*fq)).length=H.length-8*fq:=List.length_drop
 generalize H.drop (8*fq)=D at hD
 rcases Nat.lt_or_ge n 8 with h| h
 ·have e:8*n=D.length+z:=by omega
  rw[List.take_of_length_le (by rw[List.length_append,List.length_replicate];omega),List.append_assoc,List.replicate_append_replicate];rw[z1I (a:=64) (b:=z+(64-8*n)) ω ω,List.take_of_length_le (by rw[List.length_append,List.length_replicate];omega)]
 ·have e:n=8:=by omega
  subst e;rw[show 64-8*8=0 from rfl,List.replicate_zero,List.append_nil];exact z1I ω ω
def z8K {W:List Bool}(hW:W.length=64){d:Nat}(hd:d<=64):PF W%2^(64-d)=PF (List.replicate d false++W.drop d):=by
 have h1:=RY (W.take d) (W.drop d)
 rw[List.take_append_drop,List.length_drop,hW] at h1
 have h2:=R7 (W.drop d)
 rw[List.length_drop,hW] at h2
 rw[z2x,h1,Nat.add_comm,Nat.add_mul_mod_self_right,Nat.mod_eq_of_lt h2]
def z9i {H:List Bool}{a:Nat}(ha:a<H.length):List.replicate (a%8) false++((H.drop (8*(a / 8))++List.replicate 64 false).take 64).drop (a%8)=wdB H a:=by
 unfold wdB
 congr 1
 have hd:a%8<=(H.drop (8*(a / 8))).length:=by rw[List.length_drop];omega
 rw[List.drop_take,List.drop_append_of_le_length hd,List.drop_drop,show 8*(a / 8)+a%8=a by omega]
def zbV {H:List Bool}{a r:Nat}(ha:a<H.length)(hr:a / 8*8+64=H.length+r):∃q,PF (wdB H a)=q*2^r:=by
 have hD:(H.drop a).length=H.length-a:=List.length_drop
 refine⟨PF (List.replicate (a%8) false++H.drop a),?_⟩
 rw[<-z4n]
 congr 1
 unfold wdB
 rw[List.append_assoc,z1I (a:=64) (b:=r) ω ω,List.take_of_length_le (by rw[List.length_append,List.length_replicate];omega)]
theorem z9m {d:Nat}(hd:d<=64):18446744073709551615 / 2^d=2^(64-d)-1:=by
 have hp:0<2^d:=Nat.two_pow_pos d
 have h1:2^64=2^d*2^(64-d):=by rw[<-Nat.pow_add,show d+(64-d)=64 by omega]
 have h2:0<2^(64-d):=Nat.two_pow_pos _
 have h3:18446744073709551615=(2^d-1)+2^d*(2^(64-d)-1):=by
  rw[Nat.mul_sub,<-h1,Nat.mul_one];have h4:2^d<=2^64:=Nat.pow_le_pow_right ψ hd;omega
 rw[h3,Nat.add_mul_div_left _ _ hp,Nat.div_eq_of_lt ω,Nat.zero_add]
def z81 {b:List Bool}(h:b.length=64):PF b<18446744073709551616:=by
 have:=R7 b
 rw[h] at this
 exact this
def zfC (l:List Nat)(f:Fm)(hf:f.high=12+(Pp (Sv f.width l)).length){o n:Nat}(h:o+n<=(Pp (hiB f.width 0 0 l)).length):((YK l f).drop (f.high+o)).take n=((Pp (hiB f.width 0 0 l)).drop o).take n:=by
 unfold YK
 exact piece (by rw[List.length_append,show Pp (Pn 32 f.n++Pn 64 f.u)=Pp (Td f) from rfl,Uv,hf]) h
theorem Vq.high {l:List Nat}{f:Fm}{z:Nat}(he:Vq l f z):f.high=12+(Pp (Sv f.width l)).length:=by
 unfold Fm.high
 rw[PE,Uy,he.n]
theorem Vq.bits {l:List Nat}{f:Fm}{z:Nat}(he:Vq l f z):f.bits=(hiB f.width 0 0 l).length:=by
 rw[z1G f.width he.nof he.last]
 rw[he.fe]
 show(z+1-1) / _+_=_
 rw[Nat.add_sub_cancel]
 rfl
def z6G {t:TypeId}{u:Value}{l:List Nat}{f:Fm}{z:Nat}(he:Vq l f z)(R:Src t u (YK l f)){X:Nat->Prop}{w:World}(hI:R.inv X w)(hX:∀k,X k->k<w.heap.size){x b3 b8 v0:Nat}(hx:X x)(h3:X b3)(h8:X b8)(t8:b8≠x/\b8≠b3)(hB:OU w x (elC f t u) 277)(au:OU w b3 [ptr x 0] 137)(cu:OU w b8 [P7 v0] 39){a:Nat}(ha:a<f.bits):
  Ps prog 236 [I (a:Int),ptr b3 0,ptr b8 0] w λr w'=>r=I 0/\R.inv X w'/\Kp (λk=>¬X k\/k=b8) w w'/\OU w' b8 [P7 (PF (wdB (hiB f.width 0 0 l) a))] 39:=by
 have aJ:=he.len
 obtain⟨xA,yu⟩:=he.size_le
 have uy:=he.small
 have pI:=Fm.WK uy
 have fi:=uy.2.2
 have bZ:=he.bits
 have yv:=he.high
 have gE:(Pp (hiB f.width 0 0 l)).length=(f.bits+7) / 8:=by rw[PE,bZ]
 replace hB:OU w x [I (f.n:Int),P7 f.u,I (f.width:Int),I (f.bits:Int),.iface t u] 277:=hB
 refine py (e:=[(0,_),(1,_),(2,_)]) func236 O ntmps236 O O$ qN O$ R3 O$ qV (zfp O O ω)$ QW O$ qV ((OS z3k O O au O))$ Pw O$ P4 SC O$ P4 Yn O$ qV ((OS U3 O O hB O))$ Q4 O$ qV (WX O O ω)$ OT O$ qV (WX O O ω) ?_
 refine Rt O ?_
 rw[show((f.bits:Int)+7) / 8-((a / 8*8:Nat):Int) / 8=(((f.bits+7) / 8-a / 8:Nat):Int) by omega]
 refine qV (ymi O O) ?_
 rw[show min (8:Int) (((f.bits+7) / 8-a / 8:Nat):Int)=((min 8 ((f.bits+7) / 8-a / 8):Nat):Int) by omega]
 obtain⟨n,hn⟩:∃n,n=min 8 ((f.bits+7) / 8-a / 8):=⟨_,rfl⟩
 rw[<-hn]
 have hg:=Ext.Pa w
 refine P3 O$ An$ R0 (λw'=>Kp (λk=>¬X k) w w') O$ qT 0 O (λ_ hS=>(OS z3k O O (hS.OH au (λe=>e h3)) O)) (hg.kp)$ OM 1 O (Qd O) (hg.kp)$ OM 2 O (Px z2O O) (hg.kp)$ qT 3 O (λ_ hS=>(OS z6C O O (hS.OH hB (λe=>e hx)) O)) (hg.kp)$ qT 4 O (λ_ hS=>(OS z3k O O (hS.OH au (λe=>e h3)) O)) (hg.kp)$ OM 5 O (Qd O) (hg.kp)$ OM 6 O (Px SC O) (hg.kp)$ P8 9 O O (hg.kp)$ OM 10 O (WX O O ω) (hg.kp)$ P8 12 O O (hg.kp)$ qT 7 O (λ_ hS=>Pv (news:=fmC f) z4X O Tr O ((hS.OH hB (λe=>e hx)).cells (n:=4) O) O) (hg.kp) ?_
 refine OM 13 O (zg7 O) (hg.kp)$ P8 14 O O (hg.kp)$ S1 8 O zdB O (z4C f uy _) ?_
 rintro _ w1 ⟨rfl,ad⟩
 refine⟨(hg.trans ad).kp,?_⟩
 have ce:=hg.trans ad
 refine OM 11 O (UN O O ω) ((hg.trans ad).kp) ?_
 rw[show(f.high:Int)+((a / 8*8:Nat):Int) / 8=((f.high+a / 8:Nat):Int) by omega]
 have mE:=R.ext hI ce (λk hk=> .inl hk)
 have dl:∀k,X k->k<w1.heap.size:=λk hk=>by have:=hX k hk;have:=ce.size;omega
 have uw:a / 8+n<=(Pp (hiB f.width 0 0 l)).length:=by rw[gE];omega
 have ux:f.high+a / 8+n<=(YK l f).length:=by
  rw[aJ];have e:f.size=f.UL+4*((f.n+63) / 64):=rfl;have e2:f.UL=f.high+(f.bits+7) / 8:=rfl;omega
 have lX:=zfC l f yv uw
 have og:=z9o (H:=hiB f.width 0 0 l) (fq:=a / 8) (n:=n) ω (by rw[<-bZ];exact hn)
 refine qO 15$ W7 (i:=15) O O O (yci R.cr R.mr O O) (R.rd (f.high+a / 8) n mE dl ux) ?_
 rintro _ w2 ⟨rfl,cT,am⟩
 refine⟨ce.kp.trans am,?_⟩
 rw[lX]
 have dF:Kp (λk=>¬X k) w w2:=ce.kp.trans am
 have ak:=dF.OH hB (λe=>e hx)
 have dr:=dF.OH au (λe=>e h3)
 have uf:=dF.OH cu (λe=>e h8)
 have Eg:(((Pp (hiB f.width 0 0 l)).drop (a / 8)).take n).length=n:=by rw[List.length_take,List.length_drop];omega
 generalize ((Pp (hiB f.width 0 0 l)).drop (a / 8)).take n=pt at og Eg
 refine P8 16 O O (ce.kp.trans am)$ OM 17 O (Ry O O) (ce.kp.trans am)$ OM 18 O (Ry O O) (ce.kp.trans am)$ OM 19 O (Rv O) (ce.kp.trans am)$ OM 20 O (Rv O) (ce.kp.trans am)$ qE$ Pu.qb (e:=[(0,_),(1,_),(2,_),(4,_),(5,_),(6,_),(7,_),(8,_)]) ?_
 refine Pt O$ Pb z7i O (WW pt ω w2) ?_
 rintro _ w3 ⟨rfl,ah⟩
 refine OT O$ qV (Y8 O O ω)$ Rt O ?_
 rw[show(64:Int)-8*(n:Int)=((64-8*n:Nat):Int) by omega]
 refine qV (Rj (64-8*n) (2^(64-8*n)) O O ω O) ?_
 have Eh:=z4n (Pf pt) (64-8*n)
 rw[og] at Eh
 have Lt:((hiB f.width 0 0 l).drop (8*(a / 8))++List.replicate 64 false).take 64=((hiB f.width 0 0 l).drop (8*(a / 8))++List.replicate 64 false).take 64:=rfl
 obtain⟨W0,yw⟩:∃W0,W0=((hiB f.width 0 0 l).drop (8*(a / 8))++List.replicate 64 false).take 64:=⟨_,rfl⟩
 have yx:W0.length=64:=by rw[yw,List.length_take,List.length_append,List.length_replicate];omega
 have IH:=z9i (H:=hiB f.width 0 0 l) (a:=a) ω
 rw[<-yw] at Eh IH
 have fA:=z8K yx (d:=a%8) ω
 rw[IH] at fA
 have uz:=z81 yx
 rw[<-Eh,Nat.mod_eq_of_lt uz]
 refine OY O (QP Tm O O O (ah.OH uf) ξ) ?_
 rintro w4 ⟨eQ,ar⟩
 replace eQ:OU w4 b8 [P7 (PF W0)] 39:=eQ
 have aM:=ar.OH (ah.OH ak) (λe=>t8.1 e.symm)
 have ev:=ar.OH (ah.OH dr) (λe=>t8.2 e.symm)
 have jv:=R.own (R.ext cT ah (λk hk=> .inl hk)) ar (λk e=>by rw[e];exact h8)
 have af:=Ext.Pa w4
 refine OJ$ An$ Pk [6] (λw'=>Ext w4 w') (by kernel_rfl) O$ qL 0 O (λ_ h=>OS Rw O O (h.OH eQ) O) af$ PW 1 O O (af)$ PW 2 O O (af)$ Pr 3 O (XG O O ω) af ?_
 rw[show(a:Int)-((a / 8*8:Nat):Int)=((a%8:Nat):Int) by omega]
 refine Pr 4 O (Us (m:=18446744073709551615) (a%8) (2^(a%8)) O O (by show a%8<=64;omega) O) af ?_
 rw[z9m (d:=a%8) ω]
 have Lu:2^(64-a%8)<=2^64:=Nat.pow_le_pow_right ψ ω
 refine Pr 5 O (Uq O O ω ω) af ?_
 rw[Nat.and_two_pow_sub_one_eq_mod,fA]
 refine Ty [6]$ qO 6$ PJ (i:=6) O O (QP Tm O O O (af.OH eQ) ξ) ?_
 rintro w5 ⟨bI,aj⟩
 refine⟨trivial,?_⟩
 replace bI:OU w5 b8 [P7 (PF (wdB (hiB f.width 0 0 l) a))] 39:=bI
 have aK:=aj.OH (af.OH aM) (λe=>t8.1 e.symm)
 have cU:=aj.OH (af.OH ev) (λe=>t8.2 e.symm)
 have kB:=R.own (R.ext jv af (λk hk=> .inl hk)) aj (λk e=>by rw[e];exact h8)
 have di:Kp (λk=>¬X k\/k=b8) w w5:=(((dF.ON λk e=> .inl e).trans ah.kp).trans (ar.ON λk e=> .inr e)).trans (af.kp.trans (aj.ON λk e=> .inr e))
 have Ei:=z81 (z8b (hiB f.width 0 0 l) a)
 refine qE$ PR O$ Q4 O$ qV ((OS z3k O O cU O))$ Pw O$ P4 SC O$ P4 Yn O$ qV ((OS U3 O O aK O))$ Rt O$ P3 O$ Pu.qb (e:=[(2,_),(4,_),(8,_),(9,_)]) ?_
 refine Pt O$ QD O$ OJ$ OX O (λh0=>?_)$ λh0=>?_
 ·obtain⟨r,hr⟩:∃r,a / 8*8+64=f.bits+r:=⟨a / 8*8+64-f.bits,ω⟩;obtain⟨q,hq⟩:=zbV (H:=hiB f.width 0 0 l) (a:=a) (r:=r) ω ω;rw[show((a / 8*8:Nat):Int)+64-(f.bits:Int)=(r:Int) by omega];have hp:=Nat.two_pow_pos r
  have yz:PF (wdB (hiB f.width 0 0 l) a) / 2^r*2^r%18446744073709551616=PF (wdB (hiB f.width 0 0 l) a):=by
   rw[Nat.mod_eq_of_lt (Nat.lt_of_le_of_lt (Nat.div_mul_le_self _ _) Ei),hq,Nat.mul_div_cancel _ hp]
  refine OQ O$ qV (OS Rw O O bI O)$ OT O$ qV (Us r (2^r) O O (by show r<=64;omega) O) ?_;refine OT O$ qV (Rj r (2^r) O O ω O) ?_;rw[yz];refine OY O (QP Tm O O O bI ξ) ?_;rintro w6 ⟨kL,aN⟩;refine qM O$ OT O$ P3 O$ OI func236 O ?_;exact⟨_,rfl,rfl,R.own kB aN (λk e=>by rw[e];exact h8),di.trans (aN.ON λk e=> .inr e),kL⟩
 ·refine OK$ Pt O$ P3 O$ OI func236 O ?_;exact⟨_,rfl,rfl,kB,di,bI⟩
def z3M:∀{W:List Bool} {k p:Nat},Rx W k=some p->∃z r,W=List.replicate z false++true::r
 |true::W,k,p,h=>⟨0,W,rfl⟩
 | false :: W, k, p, h => by
   simp only[Rx,Option.map_eq_some_iff] at h;obtain⟨q,hq,-⟩:=h;obtain⟨z,r,e⟩:=z3M hq
   exact⟨z+1,r,by rw[e,List.replicate_succ];rfl⟩
 |[],k,p,h=>by simp[Rx] at h
theorem z6q (z:Nat)(r:List Bool)(k:Nat):Rx (List.replicate z false++true::r) (k+1)=Rx (List.replicate (z+1) false++r) k:=by
 rw[UF,UF,Rx,Option.map_map]
 congr 1
 funext j;show j+1+z=j+(z+1);omega
theorem z8L (z:Nat)(r:List Bool):Rx (List.replicate z false++true::r) 0=some z:=by
 rw[UF,Rx];simp
def z6i (z:Nat)(r:List Bool):PU (PF (List.replicate z false++true::r))=r.length+1:=by
 rw[XM]
 have:=R7 r
 exact z8n ω (by rw[Nat.pow_succ];omega)
theorem z2G (n:Nat):(List.replicate n false).count true=0:=by
 rw[List.count_replicate];rfl
theorem z2I (H:List Bool)(a:Nat):(wdB H a).count true=((H.drop a).take (64-a%8)).count true:=by
 unfold wdB
 rw[List.count_append,z2G,Nat.zero_add,List.take_append,List.count_append,List.take_replicate,z2G];omega
def zd3 {W:List Bool}(h:W.length=64):(Pn 64 (PF W)).count true=W.count true:=by
 have:=z0X W
 rw[h] at this
 rw[this]
def zdq {H:List Bool}{a k q:Nat}(h:Rx (H.drop a) k=some q)(hk:k<(wdB H a).count true):Rx (wdB H a) k=some (a%8+q):=by
 rw[z2I] at hk
 have h1:=Ww ((H.drop a).take (64-a%8)) ((H.drop a).drop (64-a%8)) k
 rw[List.take_append_drop,if_pos hk,h] at h1
 unfold wdB
 rw[UF,List.take_append,Ww,if_pos hk,<-h1]
 show some (q+a%8)=_
 rw[Nat.add_comm]
def z9O {H:List Bool}{a k q:Nat}(h:Rx (H.drop a) k=some q)(hk:(wdB H a).count true<=k):64-a%8<=q/\Rx (H.drop (a / 8*8+64)) (k-(wdB H a).count true)=some (q-(64-a%8)):=by
 rw[z2I] at hk⊢
 have h1:=Ww ((H.drop a).take (64-a%8)) ((H.drop a).drop (64-a%8)) k
 rw[List.take_append_drop,if_neg ω,h] at h1
 obtain⟨p,hp,Lv⟩:=Option.map_eq_some_iff.1 h1.symm
 have h2:=(z0x hp).1
 rw[List.length_drop] at h2
 rw[List.length_take,Nat.min_eq_left ω] at Lv
 rw[List.drop_drop,show a+(64-a%8)=a / 8*8+64 by omega] at hp
 exact⟨ω,by rw[hp];congr 1;omega⟩
def z8F {t:TypeId}{u:Value}{l:List Nat}{f:Fm}{z:Nat}(he:Vq l f z)(R:Src t u (YK l f)){X:Nat->Prop}{w:World}(hI:R.inv X w)(hX:∀k,X k->k<w.heap.size){x:Nat}(hx:X x)(hB:OU w x (elC f t u) 277){p k q:Nat}(az:k<=1000000)(hq:Rx ((hiB f.width 0 0 l).drop p) k=some q):
  Ps prog 228 [ptr x 0,I (p:Int),I (k:Int)] w λr w'=>r= .tuple #[I ((p+q:Nat):Int),I 0]/\R.inv X w'/\Kp (λj=>¬X j) w w':=by
 have bZ:=he.bits
 have fi:=he.small.2.2
 have cE:=hX x hx
 refine py (e:=[(0,_),(1,_),(2,_)]) func228 O ntmps228 O O$ qN O$ OP O O (R6 O (cs:=[ptr x 0]) O) ?_
 rintro _ w1 ⟨b3,rfl,dI,ad,au⟩
 refine SH O$ QW O$ OP O O (Rz (cs:=[_]) Tm O) ?_
 rintro _ w2 ⟨b8,rfl,j3,ae,cu⟩
 have z1:=ad.size
 have z2:=ae.size
 have l3:=au.lt
 have l8:=cu.lt
 have aI:=ad.trans ae
 have cT:R.inv (λj=>X j\/j=b3\/j=b8) w2:=R.ext hI aI (λj hj=>by rcases hj with e|e|e;exact .inl e;exact .inr ω;exact .inr ω)
 replace cu:OU w2 b8 [P7 0] 39:=cu
 refine qM O$ qV (ZR (first:=[]) (caps:=[.tmp 3,.tmp 8]) O O)$ P3 O$ PR O$ P3 O$ OL$ RN (α:=Nat×Nat×Nat×Nat) ((p,k,q,0)) (λy=>[(2,I (y.2.1:Int)),(3,ptr b3 0),(8,ptr b8 0),(9,.func (.func 236) #[] #[ptr b3 0,ptr b8 0]),(10,I (y.1:Int))]) (λy w'=>R.inv (λj=>X j\/j=b3\/j=b8) w'/\Kp (λj=>¬X j) w w'/\w2.heap.size<=w'.heap.size/\OU w' x (elC f t u) 277/\OU w' b3 [ptr x 0] 137/\OU w' b8 [P7 y.2.2.2] 39/\Rx ((hiB f.width 0 0 l).drop y.1) y.2.1=some y.2.2.1/\y.1+y.2.2.1=p+q/\y.2.1<=1000000) (λy=>f.bits-y.1) ?hI ?hround
 case hI=>exact⟨cT,aI.kp,Nat.le_refl _,aI.OH hB,ae.OH au,cu,hq,rfl,az⟩
 case hround =>
  rintro⟨a,k4,q4,v4⟩ w4 ⟨jv,ar,II,aM,ev,eQ,cG,Dz,yA⟩ ih;dsimp only at jv ar II aM ev eQ cG Dz yA;have yB:=(z0x cG).1;rw[List.length_drop] at yB;have pL:a<f.bits:=by omega
  have Ej:∀j,(X j\/j=b3\/j=b8)->j<w4.heap.size:=λj hj=>by
   rcases hj with e|e| e
   ·have:=hX j e;omega
   ·omega
   ·omega
  have fu:OU w4 x [I (f.n:Int),P7 f.u,I (f.width:Int),I (f.bits:Int),.iface t u] 277:=aM
  try dsimp only
  refine PR O$ qV ((OS z3k O O ev O))$ Pw O$ P4 SC O$ P4 Yn O$ qV ((OS U3 O O fu O))$ QV O$ OJ$ OX O (λh0=>?_)$ λh0=>?_
  ·refine OK$ QO$ An$ QI O$ Qw O O (RW zia O O) (z6G he R jv Ej (.inl hx) (.inr (.inl O)) (.inr (.inr O)) ⟨ω,ω⟩ aM ev eQ pL) ?_;rintro _ w5 ⟨rfl,kB,aj,bI⟩;have z5:=aj.size;have di:Kp (λj=>¬X j) w w5:=ar.It aj (λj hj=>by rcases hj with e|e;exact .inr (λh=>e (.inl h));exact .inl ω);have aK:=aj.OH aM (λe=>by rcases e with e|e;exact e (.inl hx);omega);have cU:=aj.OH ev (λe=>by rcases e with e|e;exact e (.inr (.inl O));omega);have yC:=z8b (hiB f.width 0 0 l) a;have yD:=z81 yC;have BA:=zd3 yC;have nq:=λh=>zdq (H:=hiB f.width 0 0 l) cG h;have IJ:=λh=>z9O (H:=hiB f.width 0 0 l) cG h
   generalize wdB (hiB f.width 0 0 l) a=W at yC yD BA nq IJ bI
   have fF:W.count true<=64:=by rw[<-yC];exact List.count_le_length
   refine R3 O$ QF O$ Qm O$ An$ qN O$ qV (OS Rw O O bI O)$ Pb zhC O (zby (PF W) yD w5) ?_;rintro _ w5 ⟨rfl,rfl⟩;rw[BA];refine QW O$ Pl O$ zle O$ OJ$ OX O (λh1=>?_)$ λh1=>?_
   ·obtain⟨ee,dt⟩:=IJ ω;refine QI O$ Rt O$ P3 O$ OV O$ Rp O ?_;rw[show(k4:Int)-((W.count true:Nat):Int)=((k4-W.count true:Nat):Int) by omega];refine qV (zfp O O ω)$ Q4 O$ P3 O ?_;rw[show((a / 8*8:Nat):Int)+64=((a / 8*8+64:Nat):Int) by omega];exact(ih (a / 8*8+64,k4-W.count true,q4-(64-a%8),PF W) _ ⟨kB,di,ω,aK,cU,bI,dt,by dsimp only;omega,by dsimp only;omega⟩ (by dsimp only;omega)).qb
   ·have sd:=nq ω;refine OK$ QO$ RN (α:=List Bool×Nat) ((W,k4)) (λy=>[(2,I (y.2:Int)),(8,ptr b8 0),(10,I (a:Int))]) (λy w'=>R.inv (λj=>X j\/j=b3\/j=b8) w'/\Kp (λj=>¬X j) w w'/\OU w' b8 [P7 (PF y.1)] 39/\y.1.length=64/\Rx y.1 y.2=some (a%8+q4)/\y.2<=1000000) (λy=>y.2) ?hI ?hround
    case hI=>exact⟨kB,di,bI,yC,sd,yA⟩
    case hround=>
     rintro⟨W6,k6⟩ w6 ⟨qf,aN,kL,m8,pM,Ek⟩ ih2;dsimp only at qf aN kL m8 pM Ek;obtain⟨zz,r,rfl⟩:=z3M pM;have BB:=z6i zz r;have Lw:=XM zz r;have sk:=R7 r;have yE:=z81 m8;rw[List.length_append,List.length_replicate,List.length_cons] at m8
     try dsimp only
     refine PR O$ QD O$ OJ$ OX O (λh2=>?_)$ λh2=>?_
     ·obtain⟨k7,rfl⟩:∃k7,k6=k7+1:=⟨k6-1,ω⟩;rw[z6q] at pM;have dL:=Ext.Pa w6;refine OK$ QO$ Pk [6] (λw'=>Ext w6 w') (by kernel_rfl) O$ qL 0 O (λ_ h=>OS Rw O O (h.OH kL) O) dL$ qL 1 O (λ_ h=>OS Rw O O (h.OH kL) O) dL$ Rf (i:=2) (by kernel_rfl)$ S0 (i:=2) O O O (yc zec O) (zc4 _ yE _) ?_;rintro _ w7 ⟨rfl,rfl⟩;refine⟨dL,?_⟩;rw[BB];refine Pr 3 O (XG O O ω) dL ?_;rw[show(63:Int)-((64-(r.length+1):Nat):Int)=(r.length:Int) by omega];refine Pr 4 O (Rj r.length (2^r.length) O O ω O) dL ?_;have gE:2^r.length<=2^63:=Nat.pow_le_pow_right ψ ω;rw[show 1*2^r.length%18446744073709551616=2^r.length by rw[Nat.one_mul];exact Nat.mod_eq_of_lt ω];rw[Lw];refine Pr 5 O (zjZ ω sk O O O) dL$ Ty [6]$ qO 6$ PJ (i:=6) O O (QP Tm O O O (dL.OH kL) ξ) ?_;rintro w8 ⟨uA,aL⟩;refine⟨trivial,?_⟩;replace uA:OU w8 b8 [P7 (PF r)] 39:=uA;refine qE$ OG$ Rp O$ Rt O$ P3 O ?_;rw[show((k7+1:Nat):Int)-1=(k7:Int) by omega];refine(ih2 (List.replicate (zz+1) false++r,k7) _ ⟨R.own (R.ext qf dL (λj hj=> .inl hj)) aL (λj e=> .inr (.inr e)),(aN.trans dL.kp).It aL (λj e=> .inl ω),?_,?_,pM,by dsimp only;omega⟩ (by dsimp only;omega)).qb
      ·dsimp only;rw[z2x];exact uA
      ·dsimp only;rw[List.length_append,List.length_replicate];omega
     ·have El:k6=0:=by omega
      subst El;rw[z8L] at pM;have O0:zz=a%8+q4:=RB pM;refine OV O$ Pt O$ qV (zfp O O ω)$ qV (OS Rw O O kL O)$ Pb zec O (zc4 _ yE _) ?_;rintro _ w7 ⟨rfl,rfl⟩;rw[BB];refine Q4 O ?_;rw[show((a / 8*8:Nat):Int)+((64-(r.length+1):Nat):Int)=((p+q:Nat):Int) by omega];refine Qr O$ OI func228 O ?_;exact⟨_,rfl,rfl,R.ext qf (Ext.refl _) (λj hj=> .inl (.inl hj)),aN⟩
  ·omega
def zab (l:List Nat)(f:Fm)(hf:f.UL=12+(Pp (Sv f.width l)).length+(Pp (hiB f.width 0 0 l)).length)(h4:(Pp (Sf f.width l)).length=4):((YK l f).drop f.UL).take 4=Pp (Sf f.width l):=by
 have h:=piece (A:=Pp (Pn 32 f.n++Pn 64 f.u)++Pp (Sv f.width l)++Pp (hiB f.width 0 0 l)) (B:=Pp (Sf f.width l)) (C:=[]) (off:=f.UL) (n:=4) (o:=0) (by rw[List.length_append,List.length_append,show Pp (Pn 32 f.n++Pn 64 f.u)=Pp (Td f) from rfl,Uv,hf];omega) ω
 have h2:((Pp (Sf f.width l)).drop 0).take 4=Pp (Sf f.width l):=by rw[List.drop_zero];exact List.take_of_length_le ω
 rw[List.append_nil] at h
 exact h.trans h2
def zbF {k:Nat}{l:List Nat}{y:Nat}(h:l[0]? =some y)(hy:y<4294967296):PF (Pf (Pp (Sf k l)))=y / 2^k/\(Pp (Sf k l)).length=4:=by
 obtain⟨r,rfl⟩:∃r,l=y::r:=by
  cases l with
  |nil=>simp at h
  |cons a r=>simp at h;subst h;exact⟨r,rfl⟩
 have hr:Sf k (y::r)=Pn 32 (y / 2^k):=rfl
 obtain⟨z,h1,h2,h3⟩:=Sn (Pn 32 (y / 2^k))
 rw[bitsN_length] at h2
 have hz:z=0:=by omega
 rw[hr,h1,hz,List.replicate_zero,List.append_nil,Q5,PE,bitsN_length]
 have:=Nat.div_le_self y (2^k)
 exact⟨Nat.mod_eq_of_lt ω,rfl⟩
def z2c {t:TypeId}{u:Value}{l:List Nat}{f:Fm}{z:Nat}(he:Vq l f z)(R:Src t u (YK l f)){X:Nat->Prop}{w:World}(hI:R.inv X w)(hX:∀k,X k->k<w.heap.size){x:Nat}(hx:X x)(hB:OU w x (elC f t u) 277){i v:Nat}(hv:l[i]? =some v):
  Ps prog 222 [ptr x 0,I (i:Int)] w λr w'=>r= .tuple #[P7 v,I 0]/\R.inv X w'/\Kp (λj=>¬X j) w w':=by
 have dq:=(List.getElem?_eq_some_iff.1 hv).1
 have aJ:=he.len
 have jM:=he.n2
 have qm:=he.n
 have wW:=he.zb
 have wo:f.width<=30:=by rw[he.fe];exact Zo ω
 have uy:=he.small
 have sn:∀j y k y2,l[j]? =some y->l[k]? =some y2->j<=k->y<=y2:=λj y k y2 hj hk Em=>by
  obtain⟨a1,a2⟩:=List.getElem?_eq_some_iff.1 hj;obtain⟨b1,b2⟩:=List.getElem?_eq_some_iff.1 hk;rcases Nat.lt_or_ge j k with h| h
  ·have:=List.pairwise_iff_getElem.1 he.nof j k a1 b1 h
   rwa [a2,b2] at this
  ·have e:j=k:=Nat.le_antisymm Em h;subst e;rw[hj] at hk;cases hk;exact Nat.le_refl _
 have Iw:v<=z:=sn i v _ z hv he.last ω
 obtain⟨y0,En⟩:∃y,l[0]? =some y:=⟨_,List.getElem?_eq_getElem ω⟩
 have Eo:y0<=v:=sn 0 y0 i v En hv (Nat.zero_le _)
 obtain⟨Lx,ia⟩:=zbF (k:=f.width) En ω
 have yF:=zab l f (by
  have e:f.UL=f.high+(f.bits+7) / 8:=rfl
  rw[e,he.high,PE (hiB f.width 0 0 l),he.bits]) ia
 have df:=z1s f.width l 0 0 0 y0 he.nof En (λy _=>Nat.zero_le _)
 have ww:=z1s f.width l 0 0 i v he.nof hv (λy _=>Nat.zero_le _)
 simp only[Nat.add_zero,Nat.sub_zero] at df ww
 have eU:=Zv (hiB f.width 0 0 l) 0 (y0 / 2^f.width) i df
 rw[Nat.zero_add,ww] at eU
 have IK:y0 / 2^f.width<=v / 2^f.width:=Nat.div_le_div_right Eo
 have sq:f.UL+4<=(YK l f).length:=by
  rw[aJ];have e:f.size=f.UL+4*((f.n+63) / 64):=rfl;rw[e,qm];omega
 have fL:f.UL<=40000000:=by have:=he.size_le.1;rw[aJ] at sq;omega
 replace hB:OU w x [I (f.n:Int),P7 f.u,I (f.width:Int),I (f.bits:Int),.iface t u] 277:=hB
 refine py (e:=[(0,_),(1,_)]) func222 O ntmps222 O O$ qN O$ Qr O$ QO$ Pt O$ qV (Qb z3k O O)$ P3 O$ OR O$ Pt O$ QV O$ PO$ Pl O$ OT O$ Pw O ?_
 refine P4 SC O$ P4 YT O$ qV (OS U3 O O hB O)$ Uh O$ PO$ PT O$ P3 O$ SO O$ OG$ An ?_
 have hg:=Ext.Pa w
 refine R0 (λw'=>Kp (λk=>¬X k) w w') O$ P8 0 O O (hg.kp)$ OM 1 O (Qd O) (hg.kp)$ OM 2 O (Px z2O O) (hg.kp)$ qT 3 O (λ_ h=>OS z6C O O (h.OH hB (λe=>e hx)) O) (hg.kp)$ P8 4 O O (hg.kp)$ OM 5 O (Qd O) (hg.kp)$ OM 6 O (Px SC O) (hg.kp)$ P8 9 O O (hg.kp)$ OM 10 O (WX O O ω) (hg.kp)$ OM 11 O (Y8 O O ω) (hg.kp)$ qT 7 O (λ_ hS=>Pv (news:=fmC f) z4X O Tr O ((hS.OH hB (λe=>e hx)).cells (n:=4) O) O) (hg.kp)$ OM 13 O (zg7 O) (hg.kp)$ P8 14 O O (hg.kp) ?_
 refine S1 8 O zdZ O (z43 f uy _) ?_
 rintro _ w1 ⟨rfl,ad⟩
 refine⟨(hg.trans ad).kp,?_⟩
 have ce:=hg.trans ad
 have mE:=R.ext hI ce (λk hk=> .inl hk)
 have dl:∀k,X k->k<w1.heap.size:=λk hk=>by have:=hX k hk;have:=ce.size;omega
 refine OM 12 O (UN O O ω) ((hg.trans ad).kp) ?_
 rw[show(f.UL:Int)+4*((i:Int) / 64)=((f.UL:Nat):Int) by omega]
 refine qO 15$ W7 (i:=15) O O O (yci R.cr R.mr O O) (R.rd f.UL 4 mE dl sq) ?_
 rintro _ w2 ⟨rfl,cT,am⟩
 refine⟨ce.kp.trans am,?_⟩
 rw[yF]
 have dF:Kp (λk=>¬X k) w w2:=ce.kp.trans am
 refine P8 16 O O (ce.kp.trans am)$ OM 17 O (Ry O O) (ce.kp.trans am)$ OM 18 O (Ry O O) (ce.kp.trans am)$ OM 19 O (Rv O) (ce.kp.trans am)$ OM 20 O (Rv O) (ce.kp.trans am)$ qE$ Pu.qb (e:=[(0,_),(1,_),(4,_),(5,_),(6,_),(7,_)]) ?_
 refine PR O$ QF O$ Qm O$ QI O$ Pb z7i O (WW (Pp (Sf f.width l)) ω w2) ?_
 rintro _ w3 ⟨rfl,ah⟩
 rw[Lx]
 have cq:Kp (λk=>¬X k) w w3:=dF.trans ah.kp
 have Ep:=R.ext cT ah (λk hk=> .inl hk)
 have pF:∀k,X k->k<w3.heap.size:=λk hk=>by have:=hX k hk;have:=cq.size;omega
 have au:=cq.OH hB (λe=>e hx)
 have Ly:y0 / 2^f.width<=y0:=Nat.div_le_self _ _
 have Lz:v / 2^f.width<=v:=Nat.div_le_self _ _
 have pj:v / 2^f.width*2^f.width%18446744073709551616 |||v%2^f.width=v:=by
  have h1:=Nat.div_mul_le_self v (2^f.width);rw[Nat.mod_eq_of_lt ω,Nat.mul_comm,<-Nat.two_pow_add_eq_or_of_lt (Nat.mod_lt _ (Nat.two_pow_pos _))];exact Nat.div_add_mod v (2^f.width)
 have ip:v%2^f.width<=v:=Nat.mod_le _ _
 generalize LA:v / 2^f.width=vq at eU IK Lz pj
 generalize y0 / 2^f.width=yq at eU IK Ly
 refine qV (PQ O Rw U3 ω)$ OT O$ qV (yre O O ω) ?_
 rw[show(i:Int)%64=(i:Int) by omega]
 refine Pb zje O (z8F he R Ep pF hx au (k:=i) ω eU) ?_
 rintro _ w4 ⟨rfl,jv,ar⟩
 rw[show yq+(vq+i-yq)=vq+i by omega]
 have fN:=cq.trans ar
 have Ej:∀k,X k->k<w4.heap.size:=λk hk=>by have:=hX k hk;have:=fN.size;omega
 have aM:=fN.OH hB (λe=>e hx)
 refine OT O$ SM O$ Qr O$ PR O$ QF O$ Qm O$ QI O$ Pb ziX O (z9X he R jv Ej hx aM hv) ?_
 rintro _ w5 ⟨rfl,kB,aj⟩
 have di:=fN.trans aj
 have aK:=di.OH hB (λe=>e hx)
 have Bw:=he.u
 refine OT O$ SM O$ Qr O$ Pu.qb (e:=[(0,_),(1,_),(4,_),(5,_),(7,_),(8,_),(9,_)]) ?_
 refine PR O$ QF O$ Qm O$ QI O$ Rt O ?_
 rw[show((vq+i:Nat):Int)-(i:Int)=(vq:Int) by omega]
 refine qV ((Qg O U3 Rw ω))$ OT O$ Pw O$ P4 SC O$ P4 Tp O$ qV (OS U3 O O aK O)$ qV (Rj f.width (2^f.width) O O ω O)$ OT O ?_
 have BC:=Nat.mod_lt (vq*2^f.width) (show 0<18446744073709551616 by decide)
 refine qV (z1J O O ω ω) ?_
 rw[pj]
 refine P3 O$ An$ QI O$ QV O$ PO$ Pl O$ OT O$ Pw O$ P4 SC O$ P4 zcp O$ qV (OS Rw O O aK O)$ Uh O$ PO$ PT O ?_
 refine OJ$ Pu.qb (e:=[(4,_),(5,_),(10,_),(93,_)]) ?_
 refine SO O$ Pt O$ Qr O$ OI func222 O ?_
 exact⟨_,rfl,rfl,kB,di⟩
def zbO (a b:OO)(w:World)(hl:(a++b).length<=100000000000):Ps prog 137 [S (a++b),S a] w λu w'=>u= .bool true/\w'=w:=by
 rw[List.length_append] at hl
 have jK:(a++b).length=a.length+b.length:=List.length_append
 have ht:(a++b).take a.length=a:=List.take_left
 refine py (e:=[(0,_),(1,_)]) func137 O ntmps137 O O$ qN O$ R3 O$ qV (Wh U9 O)$ OT O$ qV (Wh U9 O)$ Uh O$ RP$ Pl O$ OT O$ qV (Wh U9 O)$ qV (z57 U9 O O ω)$ OT O ?_
 rw[ht]
 refine qV (zkq O O)$ RP$ Ra O$ P3 O$ OI func137 O ?_
 exact⟨_,rfl,rfl,rfl⟩
def zbX (a b:OO)(w:World)(hl:(a++b).length<=100000000000):Ps prog 186 [S (a++b),S a] w λu w'=>u= .tuple #[S b,.bool true]/\w'=w:=by
 have jK:(a++b).length=a.length+b.length:=List.length_append
 have hd:(a++b).drop a.length=b:=List.drop_left
 refine py (e:=[(0,_),(1,_)]) func186 O ntmps186 O O$ qN O$ Qr O$ An$ QI O$ Pb zgI O (zbO a b w hl) ?_
 rintro _ w ⟨rfl,rfl⟩
 refine qV ((S5 O))$ Qm O$ QI O$ qV (Wh U9 O)$ qV (z1n U9 O O ω) ?_
 rw[hd]
 refine Qr O$ OI func186 O ?_
 exact⟨_,rfl,rfl,rfl⟩
def z78 (a b:OO)(w:World)(hl:(a++b).length<=100000000000):Ps prog 157 [S (a++b),S a] w λu w'=>u= .tuple #[S b,.bool true]/\w'=w:=by
 refine py (e:=[(0,_),(1,_)]) func157 O ntmps157 O O$ qN O$ SH O$ QW O$ Pl O$ Pb zj8 O (zbX a b w hl) ?_
 rintro _ w ⟨rfl,rfl⟩
 refine SM O$ Qr O$ OI func157 O ?_
 exact⟨_,rfl,rfl,rfl⟩
def T8 {w:World}{r a b6 b7:Nat}{s:OO}(h:TS w r s a)(aX:OU w b6 [ptr r 0] 273)(bR:OU w b7 [.bool false] 4)(h6:b6≠r/\b7≠r/\b6≠b7)(n v:Nat)(hn:n<=64)(hv:v<2^n)(nh:v<=134217728)(rest:List Bool)(hb:(Pf s).drop a=Pn n v++rest):
  Ps prog 159 [I (n:Int),ptr b6 0,ptr b7 0] w λu w'=>u=I (v:Int)/\TS w' r s (a+n)/\OU w' b6 [ptr r 0] 273/\OU w' b7 [.bool false] 4/\Kp (λk=>k=r\/k=b7) w w':=by
 have aJ:a+n<=8*s.length:=by
  have e:=congrArg List.length hb;rw[List.length_drop,bitsT_length,List.length_append,bitsN_length] at e;have:=h.2.1;omega
 have Er:PF (((Pf s).drop a).take n)=v:=by
  rw[hb,List.take_left' ξ,Q5];exact Nat.mod_eq_of_lt hv
 refine py (e:=[(0,_),(1,_),(2,_)]) func159 O ntmps159 O O$ qN O$ QW O$ qV (OS Vf O O aX O)$ OT O$ Pb z4q O (Vt h n hn) ?_
 rintro v1 w1 fI
 have jg:v1= .tuple #[P7 v,I 0]/\TS w1 r s (a+n)/\Kp (λk=>k=r) w w1:=by
  rcases fI with⟨-,e,h1,hk⟩|⟨e,-,-⟩
  ·rw[Er] at e;exact⟨e,h1,hk⟩
  ·omega
 obtain⟨rfl,h1,az⟩:=jg
 have yG:=az.OH bR h6.2.1
 have Es:=az.OH aX h6.1
 refine OT O$ SM O$ SH O$ QW O$ qV (OS U4 O O yG O)$ Pl O$ QF O$ PT O$ Pl O$ QD O$ PO$ PT O$ OY O (QP UH O O O yG ξ) ?_
 rintro w2 ⟨er,am⟩
 refine qM O$ OT O$ qV (Uq O O ω ω) ?_
 rw[show v&&&268435455=v from(Nat.and_two_pow_sub_one_eq_mod v 28).trans (Nat.mod_eq_of_lt ω)]
 refine qV (PQ O Rw U3 ω)$ P3 O$ OI func159 O ?_
 exact⟨_,rfl,rfl,⟨am.OH h1.1 (λe=>h6.2.1 e.symm),h1.2⟩,am.OH Es h6.2.2,er,(az.ON λk e=> .inl e).trans (am.ON λk e=> .inr e)⟩
def T7 {s:List Bool}{n v a:Nat}{rest:List Bool}(h:s.drop a=Pn n v++rest):s.drop (a+n)=rest:=by
 rw[<-List.drop_drop,h,List.drop_left' ξ]
def zcx (h:PHd):Pf (Pp (Rn (Z2 h)))=Pn 32 h.n++(Pn 32 h.m++(Pn 8 h.p.Pm++(Pn 8 h.p.chain++(Pn 8 h.p.interval++(Pn 8 h.p.zeta++(Pn 32 h.p.most++(Pn 64 h.bits++[]))))))):=by
 obtain⟨z,h1,h2,h3⟩:=Sn (Rn (Z2 h))
 have hl:=UB h
 have hz:z=0:=by omega
 rw[h1,hz,List.replicate_zero,List.append_nil]
 rfl
def z8x (h:PHd)(hh:h.Qx)(w:World):Ps prog 128 [S (hdT h)] w λu w'=>u= .tuple #[hdV h,I 0]/\Ext w w':=by
 obtain⟨g1,g2,g3,g4,g5⟩:=id hh
 obtain⟨q1,q2,q3⟩:=id g5
 obtain⟨r1,r2,r3,r4⟩:=id q1
 have r1':h.p.Pm<=16:=r1
 have r2':h.p.interval<=64:=by
  have:h.p.interval=0\/2<=h.p.interval/\h.p.interval<=64:=r2;omega
 have r4':h.p.zeta<=16:=r4
 have LB:=Xh h
 have qI:=zcx h
 rw[show Pf (Pp (Rn (Z2 h)))=(Pf (Pp (Rn (Z2 h)))).drop 0 from List.drop_zero.symm] at qI
 have gE:(Pp (Rn (Z2 h))).length=24:=by rw[PE,UB]
 refine py (e:=[(0,_)]) func128 O ntmps128 O O$ qN O$ OP O O (Rz (cs:=[_,_,_,_,_,_,_,_]) TW O) ?_
 rintro _ w1 ⟨b2,rfl,bN,ad,ak⟩
 refine R3 O$ Qw O O (yc (args:=[.tmp 11,.const (Value.string (⟨#[119,116,108,49]⟩))]) ziz O) (z78 z8p (Pp (Rn (Z2 h))) _ (by rw[show z8p++Pp (Rn (Z2 h))=hdT h from rfl];omega)) ?_
 rintro _ w1 ⟨rfl,rfl⟩
 refine OT O$ SM O$ Qr O$ PR O$ qV ((S5 O))$ Pl O$ qV (Wh U9 O)$ QV O$ PO$ PT O$ Qm O$ Pt O ?_
 generalize Pp (Rn (Z2 h))=pt at qI gE
 refine Pb z8j O (Xf pt ω w1) ?_
 rintro _ w2 ⟨r,rfl,dg,ae,dm⟩
 refine OP O O (Rz (cs:=[_]) z2g O) ?_
 rintro _ w3 ⟨b6,rfl,nD,ah,aX⟩
 refine OY O (QP z2g O O O aX ξ) ?_
 rintro w4 ⟨qK,ar⟩
 replace qK:OU w4 b6 [ptr r 0] 273:=qK
 refine qM O$ OP O O (Rz (cs:=[_]) UH O) ?_
 rintro _ w5 ⟨b7,rfl,m7,aV,bR⟩
 refine OY O (QP UH O O O bR ξ) ?_
 rintro w6 ⟨qP,aN⟩
 replace qP:OU w6 b7 [.bool false] 4:=qP
 have z1:=ad.size
 have z2:=ae.size
 have z3:=ah.size
 have z4:=ar.size
 have z5:=aV.size
 have lr:=dg.1.lt
 have l6:=qK.lt
 have l2:=ak.lt
 have uB:=aN.OH (aV.OH qK) ω
 have ie:TS w6 r pt 0:=⟨aN.OH (aV.OH (ar.OH (ah.OH dg.1) ω)) ω,dg.2⟩
 have bA:Ext w1 w6:=(((ae.trans ah).It ar (λi e=>by omega)).trans aV).It aN (λi e=>by omega)
 refine qM O$ qV (ZR (first:=[]) (caps:=[.tmp 6,.tmp 7]) O O)$ R3 O$ Qw O O (RW z05 O O) (T8 ie uB qP ⟨ω,ω,ω⟩ 32 h.n ψ ω ω _ qI) ?_
 rintro _ v0 ⟨rfl,Et,yH,yI,yJ⟩
 have yK:=T7 qI
 refine OT O$ Qw O O (RW z05 O O) (T8 Et yH yI ⟨ω,ω,ω⟩ 32 h.m ψ ω ω _ yK) ?_
 rintro _ v1 ⟨rfl,yL,yM,yN,yO⟩
 have yP:=T7 yK
 refine qV (Sh (cs:=[_,_,_,_,_,_,_,_]) TW O zef O O)$ OP O O (Rz (cs:=[_,_,_,_,_,_,_,_]) TW O) ?_
 rintro _ w7 ⟨b9,rfl,ir,cm,cK⟩
 have zv1:=yJ.size
 have zv2:=yO.size
 have z7:=cm.size
 have z6:=aN.size
 have l9:=cK.lt
 refine OY O (PL (news:=[I (h.n:Int),I (h.m:Int),I 0,I 0,I 0,I 0,I 0,I 0]) TW O O O O cK ξ) ?_
 rintro w8 ⟨uC,aL⟩
 replace uC:OU w8 b9 [I (h.n:Int),I (h.m:Int),I 0,I 0,I 0,I 0,I 0,I 0] 134:=uC
 have l7:=qP.lt
 have cR:Ext v1 w8:=cm.It aL (λi e=>by omega)
 have mW:TS w8 r pt (0+32+32):=⟨cR.OH yL.1,yL.2⟩
 have dZ:=cR.OH yM
 have Eu:=cR.OH yN
 have pA:Kp (λk=>k=r\/k=b7) w6 w8:=(yJ.trans yO).trans cR.kp
 refine OJ$ Pu.qb (e:=[(2,_),(3,_),(7,_),(8,_),(9,_)]) ?_
 refine Pt O$ Qw O O (RW z05 O O) (T8 mW dZ Eu ⟨ω,ω,ω⟩ 8 h.p.Pm ψ ω ω _ yP) ?_
 rintro _ v2 ⟨rfl,Ev,yQ,yR,Ew⟩
 have yS:=T7 yP
 refine OT O$ Qw O O (RW z05 O O) (T8 Ev yQ yR ⟨ω,ω,ω⟩ 8 h.p.chain ψ ω ω _ yS) ?_
 rintro _ v3 ⟨rfl,Ex,yT,yU,Ey⟩
 have yV:=T7 yS
 refine OT O$ Qw O O (RW z05 O O) (T8 Ex yT yU ⟨ω,ω,ω⟩ 8 h.p.interval ψ ω ω _ yV) ?_
 rintro _ v4 ⟨rfl,Ez,yW,yX,EA⟩
 have yY:=T7 yV
 refine OT O$ Qw O O (RW z05 O O) (T8 Ez yW yX ⟨ω,ω,ω⟩ 8 h.p.zeta ψ ω ω _ yY) ?_
 rintro _ v5 ⟨rfl,EB,yZ,zf,EC⟩
 have zg:=T7 yY
 refine OT O$ Qw O O (RW z05 O O) (T8 EB yZ zf ⟨ω,ω,ω⟩ 32 h.p.most ψ ω ω _ zg) ?_
 rintro _ v6 ⟨rfl,zh,zi,zj,ED⟩
 have zk:=T7 zg
 have jk:Kp (λk=>k=r\/k=b7) w8 v6:=(((Ew.trans Ey).trans EA).trans EC).trans ED
 have EE:=jk.OH uC ω
 refine qV (Sh (cs:=[_,_,_,_,_]) RE O zcG O O)$ P4 YE O$ OY O (PL (news:=Vj h.p) RE O O O O EE ξ) ?_
 rintro w9 ⟨uD,aw⟩
 replace uD:OU w9 b9 [I (h.n:Int),I (h.m:Int),I (h.p.Pm:Int),I (h.p.chain:Int),I (h.p.interval:Int),I (h.p.zeta:Int),I (h.p.most:Int),I 0] 134:=uD
 have pp:TS w9 r pt (0+32+32+8+8+8+8+32):=⟨aw.OH zh.1 ω,zh.2⟩
 have iL:=aw.OH zi ω
 have EF:=aw.OH zj ω
 refine qM O$ OT O$ Qw O O (RW z05 O O) (T8 pp iL EF ⟨ω,ω,ω⟩ 64 h.bits ψ ω ω _ zk) ?_
 rintro _ v7 ⟨rfl,LC,IL,zm,zn⟩
 have LD:=T7 zk
 have EG:=zn.OH uD ω
 refine P4 UR O$ OY O (QP Qe O O O EG ξ) ?_
 rintro w10 ⟨lO,aA⟩
 replace lO:OU w10 b9 (hdC h) 134:=lO
 have zo:=aA.OH zm ω
 have zp:Kp (λk=>k=r\/k=b7\/k=b9) w6 w10:=((((pA.trans jk).ON λk e=>by omega).trans (aw.ON λk e=>by omega)).trans (zn.ON λk e=>by omega)).trans (aA.ON λk e=>by omega)
 have gt:Ext w1 w10:=bA.It zp (λk e=>by omega)
 refine OJ$ An$ qN O$ qV (OS U4 O O zo O)$ OT O$ qV (Pv (news:=hdC h) z5X O TW O (lO.cells (n:=8) O) O)$ Pb zbl O (XP h hh _) ?_
 rintro _ w11 ⟨rfl,aT⟩
 refine QF O$ PT O$ OJ$ Pu.qb (e:=[(2,_),(3,_),(9,_),(51,_)]) ?_
 refine SO O$ qN O$ qV (Pv (news:=hdC h) z5X O TW O ((aT.OH lO).cells (n:=8) O) O) ?_
 have zr:=(gt.trans aT).OH ak
 refine OY O (PL (news:=hdC h) TW O O O O zr ξ) ?_
 rintro w12 ⟨jw,bz⟩
 replace jw:OU w12 b2 (hdC h) 134:=jw
 replace jw:OU w12 b2 [I (h.n:Int),I (h.m:Int),I (h.p.Pm:Int),I (h.p.chain:Int),I (h.p.interval:Int),I (h.p.zeta:Int),I (h.p.most:Int),I (h.bits:Int)] 134:=jw
 refine P3 O$ Po func128 (.cell z5X O TW O (OU.cells (n:=8) jw (news:=[_,_,_,_,_,_,_,_]) O) O (.tmp O .nil)) ?_
 exact⟨_,rfl,rfl,((ad.trans gt).trans aT).It bz (λk e=>by omega)⟩
def z9c (h:PHd)(hh:h.Qx)(bN:h.n<=500)(w:World):Ps prog 129 [hdV h] w λu w'=>u= .tuple #[I ((28+(h.bits+7) / 8+(TT (h.n+1) (h.bits+1)).size:Nat):Int),I 0]/\Ext w w':=by
 obtain⟨g1,g2,g3,g4,g5⟩:=id hh
 have hs:=z3e (n:=h.n+1) (u:=h.bits+1) ω ω ω ω
 have cD:(TT (h.n+1) (h.bits+1)).size<=40000000:=by
  have h2:=Fm.WK hs;obtain⟨h3,h4,h5⟩:=hs;unfold Fm.size Fm.UL;omega
 refine py (e:=[(0,_)]) func129 O ntmps129 O O$ qN O$ OP O O (R6 O (cs:=hdC h) O) ?_
 rintro _ w1 ⟨b1,rfl,bK,ad,ai⟩
 replace ai:OU w1 b1 [I (h.n:Int),I (h.m:Int),I (h.p.Pm:Int),I (h.p.chain:Int),I (h.p.interval:Int),I (h.p.zeta:Int),I (h.p.most:Int),I (h.bits:Int)] 134:=ai
 refine Qr O$ An$ qN O$ qV (Pv (news:=hdC h) z5X O TW O (ai.cells (n:=8) O) O)$ Pb zbl O (XP h hh _) ?_
 rintro _ w2 ⟨rfl,ae⟩
 have aW:=ae.OH ai
 refine R3 O$ QF O$ Qm O$ qN O$ P4 Ub O$ qV (OS U3 O O aW O)$ Q4 O$ P4 UR O$ qV (OS U3 O O aW O)$ qV ((Qg O U3 Rw ω)) ?_
 rw[show(h.n:Int)+1=((h.n+1:Nat):Int) by omega]
 refine Pb ziQ O (z60 (h.n+1) h.bits ω ω ω _) ?_
 rintro _ w3 ⟨rfl,ah⟩
 have bX:=ah.OH aW
 refine OT O$ qV (Ry (v:=I ((TT (h.n+1) (h.bits+1)).size:Int)) O O)$ qV (Ry (v:=I 0) O O) ?_
 generalize (TT (h.n+1) (h.bits+1)).size=q at cD
 refine SH O$ QW O$ P4 UR O$ qV (OS U3 O O bX O)$ Q4 O$ qV (WX O O ω)$ Q4 O$ OT O$ Q4 O$ OT O$ Qr O$ Pu.qb (e:=[(2,_),(3,_)]) ?_
 refine OI func129 O (⟨_,rfl,?_,(ad.trans ae).trans ah⟩)
 show Value.tuple #[I (28+((h.bits:Int)+7) / 8+(q:Int)),I 0]= .tuple #[I ((28+(h.bits+7) / 8+q:Nat):Int),I 0]
 rw[show(28:Int)+((h.bits:Int)+7) / 8+(q:Int)=((28+(h.bits+7) / 8+q:Nat):Int) by omega]
section
variable {P:Program}{e:Env}{d:Option Nat}{ty t:TypeId}{pos:String}{aft:Array Edge}{g:Option (Nat×Bool)}{x:Operand}{w:World}
def z5L {f:FuncId}{name:String}{u:Value}(h:methT P t name=some f):(nilAhead (P.types.size+Made.depth) t u name).run P w= .ok (some false) w:=by
 rw[show P.types.size+Made.depth=P.types.size+(Made.depth-1)+1 from rfl]
 unfold methT at h
 split at h<;>try cases h
 rename_i i hi
 split at h<;>try cases h
 rename_i m hm
 split at h<;>try cases h
 rename_i f' pr jt ju
 have o7:i.methods.find? (·.name==name)=some m:=by rw[<-hm,Array.find?_toList]
 unfold nilAhead
 split at h<;>try cases h
 ·rename_i el hu
  cases pr<;>simp at h;subst h;simp[TQ hi,o7,jt,followBlind,ju]
 ·rename_i td IE hu
  cases pr<;>simp at h;subst h;simp only[Sem.run_bind,TQ hi,Result.andThen_ok,o7,jt,followBlind,Sem.run_pure,ju,run_underlying hu];cases td<;>first|exact absurd rfl (IE _)|rfl
def zhA {td:TypeDesc}{v:Value}(ht:P.underlying t=some td)(hn:∀ms,td≠ .interface ms)(hx:look e x=some v):Y P e ⟨d,.makeInterface t x,ty,pos,aft,g⟩ (.iface t v) w w:=fun ρ hρ=>by
 simp only[execOp,hρ _ _ hx,Instr.makeInterface,Sem.run_bind,run_underlying ht,Result.andThen_ok]
 cases td<;>first|rfl|exact(hn _ rfl).elim
def ymm {nm:String}{v:Value}(hx:look e x=some v):Y P e ⟨d,.makeFunc (.method nm) #[x] #[],ty,pos,aft,g⟩ (.func (.method nm) #[v] #[]) w w:=fun ρ hρ=>by
 simp[execOp,hρ _ _ hx,Instr.makeFunc]
def zjF {f:FuncId}{nm:String}{tx:TypeId}{v:Value}(hm:methT P tx nm=some f)(hx:look e x=some (.func (.method nm) #[.iface tx v] #[])):Y P e ⟨d,.nilCheck x,ty,pos,aft,g⟩ (.func (.method nm) #[.iface tx v] #[]) w w:=fun ρ hρ=>by
 have hn:=z5L (w:=w) (u:=v) hm
 have tO:(program).run P w= .ok P w:=rfl
 simp[execOp,hρ _ _ hx,tO,hn]
end
def z08 (t:TypeId)(u:Value)(a n:Nat):Value:= .agg #[.iface t u,I (a:Int),I (n:Int)]
def z3I (t:TypeId)(u:Value)(a n:Nat)(w:World):Ps prog 282 [z08 t u a n] w λv w'=>v=I (n:Int)/\Ext w w':=by
 unfold z08
 refine py (e:=[(0,_)]) func282 O ntmps282 O O$ qN O$ OP O O (R6 O (cs:=[.iface t u,I (a:Int),I (n:Int)]) O) ?_
 rintro _ w1 ⟨b1,rfl,bK,ad,ai⟩
 refine QW O$ P4 z3l O$ qV (OS U3 O O ai O)$ P3 O$ OI func282 O ?_
 exact⟨_,rfl,rfl,ad⟩
def z5D {t:TypeId}{u:Value}{T:OO}(R:Src t u T){X:Nat->Prop}{w:World}(a n:Nat)(pN:a+n<=T.length)(hT:T.length<=100000000000)(off m:Nat)(hI:R.inv X w)(hX:∀k,X k->k<w.heap.size)(h:off+m<=n):
  Ps prog 283 [z08 t u a n,I (off:Int),I (m:Int)] w λv w'=>v= .tuple #[S ((((T.drop a).take n).drop off).take m),I 0]/\R.inv X w'/\Kp (λk=>¬X k) w w':=by
 have e:(((T.drop a).take n).drop off).take m=(T.drop (a+off)).take m:=by
  rw[List.drop_take,List.take_take,List.drop_drop,show min m (n-off)=m by omega]
 rw[e]
 unfold z08
 refine py (e:=[(0,_),(1,_),(2,_)]) func283 O ntmps283 O O$ qN O$ OP O O (R6 O (cs:=[.iface t u,I (a:Int),I (n:Int)]) O) ?_
 rintro _ w1 ⟨b1,rfl,bK,ad,ai⟩
 refine Qr O$ PR O$ QV O$ Pl O$ QV O$ PO$ PT O$ Pl O$ P4 z3l O$ qV (OS U3 O O ai O)$ QD O$ PO$ PT O$ Pl O ?_
 refine P4 z3l O$ qV (OS U3 O O ai O)$ OT O$ Rt O$ QD O$ PO$ PT O$ OJ$ Pu.qb (e:=[(1,_),(2,_),(3,_),(6,_),(7,_),(27,_)]) ?_
 refine SO O$ qN O$ P4 zcQ O$ qV (OS z6C O O ai O)$ P4 zcq O$ qV (OS U3 O O ai O)$ OT O$ Q4 O$ OT O ?_
 rw[show(a:Int)+(off:Int)=((a+off:Nat):Int) by omega]
 refine Qw O O (yci R.cr R.mr O O) (R.rd (a+off) m (R.ext hI ad (λk hk=> .inl hk)) (λk hk=>by have:=hX k hk;have:=ad.size;omega) ω) ?_
 rintro _ w2 ⟨rfl,cT,am⟩
 refine SM O$ Qr O$ OI func283 O ?_
 exact⟨_,rfl,rfl,cT,ad.kp.trans am⟩
def zes {t:TypeId}{u:Value}{T:OO}(R:Src t u T)(a n:Nat)(B:OO)(pN:a+n<=T.length)(hT:T.length<=100000000000)(hB:(T.drop a).take n=B):Src 233 (z08 t u a n) B where
 inv:=R.inv
 fl:=282
 fr:=283
 cl:=zgz
 cr:=zfY
 ml:=by kernel_rfl
 mr:=by kernel_rfl
 ext:=R.ext
 step:=R.step
 len:=fun {X w} h=>by
  have e:B.length=n:=by rw[<-hB,List.length_take,List.length_drop];omega
  rw[e];exact z3I t u a n w
 rd:=fun {X w} off m h hX ho=>by
  have e:B.length=n:=by rw[<-hB,List.length_take,List.length_drop];omega
  rw[<-hB];exact z5D R a n pN hT off m h hX ω
def W2 (p:Qq)(g:List (List Nat))(E:List (Nat×Nat)):PHd:=⟨g.length,PX g,p,(Qz p g E g.length).length⟩
def pfm (p:Qq)(g:List (List Nat))(E:List (Nat×Nat)):Fm:=TT (g.length+1) ((Qz p g E g.length).length+1)
structure T2 (p:Qq)(g:List (List Nat))(E:List (Nat×Nat)):Prop where
 Qx:p.Qx
 gr:S7 g
 n1:1<=g.length
 pk:zaA p g E
section
variable {p:Qq}{g:List (List Nat)}{E:List (Nat×Nat)}
def T2.head (h:T2 p g E):(W2 p g E).Qx:=by
 have hn:=h.gr.n
 have hb:=h.pk.bits
 have ur:=TU h.gr g.length
 rw[List.take_length] at ur
 exact⟨h.n1,(by show g.length<=_;omega),(by show PX g<=_;omega),(by show(Qz p g E g.length).length<=_;omega),h.Qx⟩
theorem T2.ef (h:T2 p g E):Vq (Wi p g E g.length) (pfm p g E) (Qz p g E g.length).length:=by
 have hn:=h.gr.n
 have hb:=h.pk.bits
 have aJ:=z2V p g E g.length
 refine⟨ω,ω,z7P p g E g.length,?_,ω,?_⟩
 ·rw[aJ,Nat.add_sub_cancel];exact z0s p g E (Nat.le_refl g.length)
 ·rw[aJ];rfl
def We (p:Qq)(g:List (List Nat))(E:List (Nat×Nat)):Nat:=28+((Qz p g E g.length).length+7) / 8
theorem T2.len (h:T2 p g E):(Xt p g E).length=We p g E+(pfm p g E).size:=by
 unfold Xt We
 rw[List.length_append,List.length_append,Xh,PE]
 have:=h.ef.len
 show _+(YK (Wi p g E g.length) (pfm p g E)).length=_
 rw[this]
def T2.small (h:T2 p g E):(Xt p g E).length<=50000000/\40<=(Xt p g E).length:=by
 have h1:=h.ef.size_le
 have h2:=h.len
 have h3:=h.pk.bits
 unfold We at h2
 omega
theorem zcN:((Xt p g E).drop 0).take 28=hdT (W2 p g E):=by
 unfold Xt
 rw[List.drop_zero,List.append_assoc,<-Xh (W2 p g E)]
 exact List.take_left
theorem T2.index (h:T2 p g E):((Xt p g E).drop (We p g E)).take (pfm p g E).size=YK (Wi p g E g.length) (pfm p g E):=by
 have h1:(hdT (W2 p g E)++Pp (Qz p g E g.length)).length=We p g E:=by
  rw[List.length_append,Xh,PE];rfl
 have h2:=h.ef.len
 unfold Xt
 show((hdT (W2 p g E)++Pp (Qz p g E g.length)++YK (Wi p g E g.length) (pfm p g E)).drop _).take _=_
 rw[<-h1,List.drop_left,<-h2,List.take_length]
theorem zci (h:T2 p g E)(a n:Nat)(hn:8*(a+n)<=(Qz p g E g.length).length+7):((Xt p g E).drop (28+a)).take n=((Pp (Qz p g E g.length)).drop a).take n:=by
 unfold Xt
 exact piece (by rw[Xh]) (by rw[PE];omega)
end
def gwC (h:PHd)(t:TypeId)(u:Value)(x:Nat):List Value:=[I (h.n:Int),I (h.m:Int),I (h.p.Pm:Int),I (h.p.chain:Int),I (h.p.interval:Int),I (h.p.zeta:Int),I (h.p.most:Int),I (h.bits:Int),.iface t u,ptr x 0]
def z73 {t:TypeId}{u:Value}{p:Qq}{g:List (List Nat)}{E:List (Nat×Nat)}(hp:T2 p g E)(R:Src t u (Xt p g E)){X:Nat->Prop}{w:World}(hI:R.inv X w)(hX:∀k,X k->k<w.heap.size):
  Ps prog 89 [.iface t u] w λv w'=>∃k x,v= .tuple #[ptr k 0,I 0]/\OU w' k (gwC (W2 p g E) t u x) 139/\OU w' x (elC (pfm p g E) 233 (z08 t u (We p g E) (pfm p g E).size)) 277/\w.heap.size<=x/\w.heap.size<=k/\x≠k/\R.inv (λj=>X j\/j=x\/j=k) w'/\Kp (λj=>¬X j) w w':=by
 have aJ:=hp.len
 obtain⟨ee,dt⟩:=hp.small
 have hn:=hp.gr.n
 have df:=hp.n1
 have rQ:=hp.pk.bits
 have hg:=Ext.Pa w
 have sr:=hp.head
 have EH:(W2 p g E).bits=(Qz p g E g.length).length:=rfl
 have O3:We p g E=28+((W2 p g E).bits+7) / 8:=rfl
 have O4:(W2 p g E).n=g.length:=rfl
 refine py (e:=[(0,_)]) func89 O ntmps89 O O$ qN O$ Qr O$ PR O$ qV (zeu z6C O O)$ Qm O$ An$ R0 (λw'=>R.inv X w'/\Kp (λk=>¬X k) w w') O$ P8 0 O O (⟨R.ext hI hg (λk hk=> .inl hk),hg.kp⟩)$ P8 1 O O (⟨R.ext hI hg (λk hk=> .inl hk),hg.kp⟩)$ OM 4 O (ymm O) (⟨R.ext hI hg (λk hk=> .inl hk),hg.kp⟩)$ OM 5 O (zjF R.mr O) (⟨R.ext hI hg (λk hk=> .inl hk),hg.kp⟩)$ P8 6 O O (⟨R.ext hI hg (λk hk=> .inl hk),hg.kp⟩)$ qO 2 ?_
 refine W7 (i:=2) O O O (yci R.cl R.ml O O) (R.len (R.ext hI hg (λk hk=> .inl hk))) ?_
 rintro _ w1 ⟨rfl,ad⟩
 refine⟨⟨R.ext hI (hg.trans ad) (λk hk=> .inl hk),(hg.trans ad).kp⟩,?_⟩
 have ce:=hg.trans ad
 rw[aJ]
 refine OM 3 O (ymi O O) (⟨R.ext hI (hg.trans ad) (λk hk=> .inl hk),(hg.trans ad).kp⟩) ?_
 rw[show min (28:Int) ((We p g E+(pfm p g E).size:Nat):Int)=((28:Nat):Int) by omega]
 have mE:=R.ext hI ce (λk hk=> .inl hk)
 have dl:∀k,X k->k<w1.heap.size:=λk hk=>by have:=hX k hk;have:=ce.size;omega
 refine qO 7$ W7 (i:=7) O O O (yci R.cr R.mr O O) (R.rd 0 28 mE dl ω) ?_
 rintro _ w2 ⟨rfl,cT,am⟩
 refine⟨⟨cT,ce.kp.trans am⟩,?_⟩
 rw[zcN]
 have dF:Kp (λk=>¬X k) w w2:=ce.kp.trans am
 have eO:∀k,X k->k<w2.heap.size:=λk hk=>by have:=dl k hk;have:=am.size;omega
 refine P8 8 O O (⟨cT,ce.kp.trans am⟩)$ OM 9 O (Ry O O) (⟨cT,ce.kp.trans am⟩)$ OM 10 O (Ry O O) (⟨cT,ce.kp.trans am⟩)$ OM 11 O (Rv O) (⟨cT,ce.kp.trans am⟩)$ OM 12 O (Rv O) (⟨cT,ce.kp.trans am⟩)$ qE$ PR O$ QF O$ Qm O$ Pt O$ Pb zha O (z8x (W2 p g E) sr w2) ?_
 rintro _ w3 ⟨rfl,ah⟩
 refine OT O$ qV (Ry (v:=hdV (W2 p g E)) O O)$ qV (Ry (v:=I 0) O O)$ OP O O (Rz (cs:=[_,_,_,_,_,_,_,_]) TW O) ?_
 rintro _ w4 ⟨b6,rfl,nD,aG,aX⟩
 refine OY O (PL (news:=hdC (W2 p g E)) TW O O O O aX ξ) ?_
 rintro w5 ⟨fM,aj⟩
 replace fM:OU w5 b6 (hdC (W2 p g E)) 134:=fM
 have cw:Ext w3 w5:=aG.It aj (λi e=>by omega)
 have iD:=ah.trans cw
 refine P3 O$ Pu.qb (e:=[(0,_),(2,_),(3,_),(5,_),(6,_)]) ?_
 refine PR O$ QF O$ Qm O$ An$ qN O$ qV (Pv (news:=hdC (W2 p g E)) z5X O TW O (fM.cells (n:=8) O) O)$ Pb zhM O (z9c (W2 p g E) sr (by show g.length<=_;omega) _) ?_
 rintro _ w6 ⟨rfl,aR⟩
 have iE:=iD.trans aR
 have qf:=R.ext cT iE (λk hk=> .inl hk)
 have uB:=aR.OH fM
 refine OT O$ qV (Ry (v:=I ((We p g E+(pfm p g E).size:Nat):Int)) O O)$ qV (Ry (v:=I 0) O O)$ SH O$ R3 O$ QF O$ PO$ Pl O$ OT O$ Qw O O (yci R.cl R.ml O O) (R.len qf) ?_
 rintro _ w7 ⟨rfl,cm⟩
 rw[aJ]
 have EI:=iE.trans cm
 have gZ:=cm.OH uB
 refine QF O$ PO$ PT O ?_
 replace gZ:OU w7 b6 [I ((W2 p g E).n:Int),I ((W2 p g E).m:Int),I ((W2 p g E).p.Pm:Int),I ((W2 p g E).p.chain:Int),I ((W2 p g E).p.interval:Int),I ((W2 p g E).p.zeta:Int),I ((W2 p g E).p.most:Int),I ((W2 p g E).bits:Int)] 134:=gZ
 refine Qm O$ qN O$ P4 UR O$ qV (OS U3 O O gZ O)$ Q4 O$ qV (WX O O ω)$ Q4 O ?_
 rw[show 28+((((W2 p g E).bits:Nat):Int)+7) / 8=(We p g E:Int) by omega]
 refine P3 O$ Pu.qb (e:=[(0,_),(2,_),(3,_),(5,_),(6,_),(9,_)]) ?_
 refine QI O$ OT O ?_
 have me:=R.ext qf cm (λk hk=> .inl hk)
 refine Qw O O (yci R.cl R.ml O O) (R.len me) ?_
 rintro _ w8 ⟨rfl,cR⟩
 rw[aJ]
 have jr:=EI.trans cR
 have Ed:=R.ext me cR (λk hk=> .inl hk)
 have dZ:=cR.OH gZ
 have z28:=jr.size
 refine OT O$ Rt O ?_
 rw[show((We p g E+(pfm p g E).size:Nat):Int)-(We p g E:Int)=((pfm p g E).size:Int) by omega]
 refine qV (Sh (cs:=[_,_,_]) ziV O zho O O)$ qV (zhA zjU (λ_ h=>by cases h) rfl) ?_
 have lb6:=dZ.lt
 have LE:=R.ext (Y:=λk=>X k\/k=b6) cT jr (λk hk=>hk.imp id λe=>by have:=ah.size;omega)
 have cP:∀k,(X k\/k=b6)->k<w8.heap.size:=λk hk=>by
  rcases hk with hk| e
  ·have:=eO k hk;have:=jr.size;omega
  ·omega
 refine Pb zjj O (z6U hp.ef (zes R (We p g E) (pfm p g E).size (YK (Wi p g E g.length) (pfm p g E)) ω ω hp.index) (X:=λk=>X k\/k=b6) LE cP) ?_
 rintro _ w9 ⟨x,rfl,jc,hx,gT,aw⟩
 have iL:=aw.OH dZ (λhh=>hh (.inr O))
 have EJ:Kp (λk=>¬X k) w2 w9:=jr.kp.trans (aw.ON λk hk e=>hk (.inl e))
 have z9:=aw.size
 refine OT O$ qV (Ry (v:=ptr x 0) O O)$ qV (Ry (v:=I 0) O O)$ Qr O$ QO$ Pt O$ QF O$ P3 O$ OR O$ An ?_
 have iM:=Ext.Pa w9
 refine R0 (λw'=>Ext w9 w') O$ P8 0 O O (iM)$ OM 2 O (Px Ub O) iM$ qT 3 O (λ_ h=>OS U3 O O (h.OH iL) O) iM$ OM 4 O (UN O O ω) iM$ S1 1 O zix O (z9a (iM.OH jc)) ?_
 rintro _ w10 ⟨rfl,rfl⟩
 refine⟨iM,?_⟩
 rw[show(pfm p g E).n=(W2 p g E).n+1 from rfl]
 refine OM 5 O (yne O O) iM$ OM 6 O (Rv O) iM$ qE$ Pu.qb (e:=[(0,_),(2,_),(3,_),(6,_),(10,_),(69,_)]) ?_
 have ii:=iM.OH iL
 have zt:=iM.OH jc
 refine OX O (λh9=>?_)$ λh9=>?_
 ·exact absurd ω h9
 ·refine OK$ OG$ qN O$ qV (Pv (news:=hdC (W2 p g E)) z5X O TW O (OU.cells (n:=8) ii O) O)$ Pl O$ qV (Sh (cs:=[_,_,_,_,_,_,_,_,_,_]) zhh O zgy O O)$ OP O O (R6 O (cs:=gwC (W2 p g E) t u x) O) ?_;rintro _ w11 ⟨k,rfl,hk,aT,bc⟩;refine Qr O$ OI func89 O ?_;have EK:=iM.trans aT;have z02:=dF.size;have z28:=jr.size;have zdd:=iM.size;have lbx:=zt.lt;refine⟨_,rfl,k,x,rfl,bc,EK.OH jc,ω,ω,ω,R.ext gT EK (λj hj=>?_),(dF.trans EJ).trans EK.kp⟩;rcases hj with hj|hj|hj
  ·exact .inl (.inl (.inl hj))
  ·exact .inl (.inr hj)
  ·exact .inr ω
structure UK {t:TypeId}{u:Value}{p:Qq}{g:List (List Nat)}{E:List (Nat×Nat)}(R:Src t u (Xt p g E))(k x:Nat)(X:Nat->Prop)(w:World):Prop where
 ok:T2 p g E
 OH:OU w k (gwC (W2 p g E) t u x) 139
 ix:OU w x (elC (pfm p g E) 233 (z08 t u (We p g E) (pfm p g E).size)) 277
 xk:X k
 xx:X x
 inv:R.inv X w
 lt:∀j,X j->j<w.heap.size
 x1:X 1
 x2:X 2
 gam:OU w 1 (Sq .gamma) 294
 una:OU w 2 (Sq .unary) 294
section
variable {t:TypeId}{u:Value}{p:Qq}{g:List (List Nat)}{E:List (Nat×Nat)}{R:Src t u (Xt p g E)}{k x:Nat}{X Y S:Nat->Prop}{w w':World}
def UK.grow (h:UK R k x X w)(hx:Ext w w')(hY:∀j,Y j->X j\/(w.heap.size<=j/\j<w'.heap.size))(aH:∀j,X j->Y j):UK R k x Y w':=
 ⟨h.ok,hx.OH h.OH,hx.OH h.ix,aH _ h.xk,aH _ h.xx,R.ext h.inv hx (λj hj=>(hY j hj).imp id And.left),λj hj=>by
  rcases hY j hj with e| e
  ·have:=h.lt j e;have:=hx.size;omega
  ·exact e.2,aH _ h.x1,aH _ h.x2,hx.OH h.gam,hx.OH h.una⟩
def UK.ext (h:UK R k x X w)(hx:Ext w w'):UK R k x X w':=h.grow hx (λj hj=> .inl hj) λj hj=>hj
def UK.less (h:UK R k x Y w)(aH:∀j,X j->Y j)(hk:X k)(hx:X x)(h1:X 1)(h2:X 2):UK R k x X w:=
 ⟨h.ok,h.OH,h.ix,hk,hx,R.ext h.inv (Ext.refl w) (λj hj=> .inl (aH j hj)),λj hj=>h.lt j (aH j hj),h1,h2,h.gam,h.una⟩
theorem UK.step (h:UK R k x X w)(hk:Kp S w w')(hS:∀j,S j->X j/\j≠k/\j≠x/\j≠1/\j≠2)(hY:∀j,Y j->X j\/(w.heap.size<=j/\j<w'.heap.size))(aH:∀j,X j->Y j):UK R k x Y w':=
 ⟨h.ok,hk.OH h.OH (λe=>(hS _ e).2.1 O),hk.OH h.ix (λe=>(hS _ e).2.2.1 O),aH _ h.xk,aH _ h.xx,R.step h.inv hk (λj hj=>(hS j hj).1) (λj hj=>(hY j hj).imp id And.left),λj hj=>by
  rcases hY j hj with e| e
  ·have:=h.lt j e;have:=hk.size;omega
  ·exact e.2,aH _ h.x1,aH _ h.x2,hk.OH h.gam (λe=>(hS _ e).2.2.2.1 O),hk.OH h.una (λe=>(hS _ e).2.2.2.2 O)⟩
def UK.own (h:UK R k x X w)(hk:Kp S w w')(hS:∀j,S j->X j/\j≠k/\j≠x/\j≠1/\j≠2):UK R k x X w':=
 ⟨h.ok,hk.OH h.OH (λe=>(hS _ e).2.1 O),hk.OH h.ix (λe=>(hS _ e).2.2.1 O),h.xk,h.xx,R.own h.inv hk (λj hj=>(hS j hj).1),λj hj=>by have:=h.lt j hj;have:=hk.size;omega,h.x1,h.x2,hk.OH h.gam (λe=>(hS _ e).2.2.2.1 O),hk.OH h.una (λe=>(hS _ e).2.2.2.2 O)⟩
def UK.src (h:UK R k x X w)(hk:Kp (λj=>¬X j) w w')(hI:R.inv X w'):UK R k x X w':=
 ⟨h.ok,hk.OH h.OH (λe=>e h.xk),hk.OH h.ix (λe=>e h.xx),h.xk,h.xx,hI,λj hj=>by have:=h.lt j hj;have:=hk.size;omega,h.x1,h.x2,hk.OH h.gam (λe=>e h.x1),hk.OH h.una (λe=>e h.x2)⟩
def UK.R2 (R:Src t u (Xt p g E))(h:T2 p g E):Src 233 (z08 t u (We p g E) (pfm p g E).size) (YK (Wi p g E g.length) (pfm p g E)):=
 zes R (We p g E) (pfm p g E).size _ (by have:=h.len;omega) (by have:=h.small;omega) h.index
theorem UK.cells (h:UK R k x X w):OU w k [I ((W2 p g E).n:Int),I ((W2 p g E).m:Int),I ((W2 p g E).p.Pm:Int),I ((W2 p g E).p.chain:Int),I ((W2 p g E).p.interval:Int),I ((W2 p g E).p.zeta:Int),I ((W2 p g E).p.most:Int),I ((W2 p g E).bits:Int),.iface t u,ptr x 0] 139:=h.OH
def zd0 (h:UK R k x X w):Ps prog 30 [ptr k 0] w λv w'=>v=I (g.length:Int)/\w'=w:=by
 have hB:=h.cells
 refine py (e:=[(0,_)]) func30 O ntmps30 O O$ QN O$ PR O$ qV (Qb Z8 O O)$ Qm O$ Pt O$ Pw O$ P4 VK O$ P4 Ub O$ qV (OS U3 O O hB O)$ P3 O$ OI func30 O ?_
 exact⟨_,rfl,rfl,rfl⟩
theorem z5O (h:UK R k x X w){b v c:Nat}(hv:v<g.length)(hr:Rd w (.slice (some ⟨b,0,none⟩) 1 c) 1 1 [I (v:Int)]):Ps prog 193 [ptr k 0,.slice (some ⟨b,0,none⟩) 1 c] w λv w'=>v=I 0/\w'=w:=by
 have hB:=h.cells
 have hn:(W2 p g E).n=g.length:=rfl
 refine py (e:=[(0,_),(1,_)]) func193 O ntmps193 O O$ QN O$ PR O$ qV (Qb Z8 O O)$ Qm O$ PR O$ RO Rr O$ OT O$ OJ$ OL$ RN (α:=Nat) (0) (λi=>[(0,ptr k 0),(9,.slice (some ⟨b,0,none⟩) 1 c),(10,I 1),(11,I (i:Int))]) (λi w'=>w'=w/\i<=1) (λi=>1-i) ?hI ?hround
 case hI=>exact⟨rfl,Nat.zero_le _⟩
 case hround=>
  rintro i w2 ⟨rfl,hi⟩ ih
  try dsimp only
  refine qN O$ QV O$ OJ$ An$ OX O (λh0=>?_)$ λh0=>?_
  ·have gH:i=0:=by omega
   subst gH;refine OK$ QO$ qN O$ qV (Qc Rr Qe O O ω)$ qV (PC U3 O O (PY hr O))$ R3 O$ QV O$ PO$ Pl O$ OT O$ Pw O$ P4 VK O$ P4 Ub O$ qV (OS U3 O O hB O) ?_;refine Uh O$ PO$ PT O$ Qm O$ OG$ OQ O$ Q4 O$ OT O$ OJ ?_;exact(ih 1 _ ⟨rfl,ω⟩ ω).qb
  ·refine OV O$ QN O$ OI func193 O ?_;exact⟨_,rfl,rfl,rfl⟩
def z8u {p:Qq}{g:List (List Nat)}{E:List (Nat×Nat)}{v a n:Nat}{s:OO}(hs:((Pp (Qz p g E g.length)).drop (a / 8)).take n=s)(ha:(Qz p g E v).length=a)(hv:v<g.length)(hn:a+(XI p g E v).length<=8*(a / 8+n)):∃rest,(Pf s).drop (a%8)=XI p g E v++rest:=by
 have cO:∃r,Qz p g E g.length=Qz p g E (v+1)++r:=by
  have key:∀d i,∃r,Qz p g E (i+d)=Qz p g E i++r:=λd i=>by
   induction d with
   |zero=>exact⟨[],ξ⟩
   | succ d ih =>
     obtain⟨r,hr⟩:=ih;exact⟨r++XI p g E (i+d),by rw[<-Nat.add_assoc,Ta,hr,List.append_assoc]⟩
  obtain⟨r,hr⟩:=key (g.length-(v+1)) (v+1);rw[show v+1+(g.length-(v+1))=g.length by omega] at hr;exact⟨r,hr⟩
 obtain⟨r,hr⟩:=cO
 obtain⟨z,hz,-,-⟩:=Sn (Qz p g E g.length)
 rw[<-hs,UI,TG,hz,hr,Ta,List.drop_take,List.drop_drop,show 8*(a / 8)+a%8=a by omega,List.append_assoc,List.append_assoc,List.drop_left' ha,List.take_append,List.take_of_length_le ω]
 exact⟨_,rfl⟩
def z5z (h:UK R k x X w){v:Nat}(hv:v<g.length):Ps prog 212 [ptr k 0,I (v:Int)] w λr w'=>∃(b a e:Nat) (s:OO) (rest:List Bool),r= .tuple #[ptr b 0,I (e:Int),I 0]/\TS w' b s a/\(Pf s).drop a=XI p g E v++rest/\a+(XI p g E v).length=e/\w.heap.size<=b/\UK R k x (λj=>X j\/j=b) w'/\Kp (λj=>¬X j) w w':=by
 have hn:=h.ok.gr.n
 have rQ:=h.ok.pk.bits
 have hB:=h.cells
 have EL:=z0s p g E (n:=g.length) (i:=v) ω
 have zu:=z0s p g E (n:=g.length) (i:=v+1) ω
 have pK:=WJ p g E (g.length-(v+1)) (v+1)
 rw[show v+1+(g.length-(v+1))=g.length by omega] at pK
 have eu:=Ta p g E v
 have lL:=congrArg List.length eu
 rw[List.length_append] at lL
 refine py (e:=[(0,_),(1,_)]) func212 O ntmps212 O O$ qN O$ SH O$ SH O$ R3 O$ Pw O$ P4 z89 O$ qV (OS z3k O O hB O)$ OT O$ Pb zdP O (z2c h.ok.ef (UK.R2 R h.ok) h.inv h.lt h.xx h.ix EL) ?_
 rintro _ w1 ⟨rfl,mE,az⟩
 have h1:=h.src az mE
 have ai:=h1.cells
 refine OT O$ SM O$ Qr O$ PR O$ QF O$ Qm O$ Pt O$ Pw O$ P4 z89 O$ qV (OS z3k O O ai O)$ OT O$ Q4 O ?_
 rw[show(v:Int)+1=((v+1:Nat):Int) by omega]
 refine Pb zdP O (z2c h1.ok.ef (UK.R2 R h1.ok) h1.inv h1.lt h1.xx h1.ix zu) ?_
 rintro _ w2 ⟨rfl,cT,am⟩
 have h2:=h1.src am cT
 have ak:=h2.cells
 have dF:=az.trans am
 obtain⟨al,pL⟩:∃n,(Qz p g E v).length=n:=⟨_,rfl⟩
 obtain⟨bl,fi⟩:∃n,(Qz p g E (v+1)).length=n:=⟨_,rfl⟩
 rw[pL,fi]
 have EH:(W2 p g E).bits=(Qz p g E g.length).length:=rfl
 refine OT O$ SM O$ Qr O$ Pu.qb (e:=[(0,_),(4,_),(5,_),(6,_),(7,_),(8,_),(9,_)]) ?_
 refine QO$ Pt O$ QF O$ P3 O$ OR O$ QI O$ QD O$ PO$ Pl O$ OT O$ Pw O$ P4 VK O$ P4 UR O$ qV (OS U3 O O ak O) ?_
 refine qV ((Qg O U3 Rw ω))$ QD O$ PO$ PT O$ P3 O$ SO O$ OG$ Pt O$ qV (zgM O O O (by simp only[IntKind.bits];omega) ω) ?_
 refine qV (PQ O Rw U3 ω)$ P3 O$ Pu.qb (e:=[(0,_),(4,_),(5,_),(6,_),(7,_),(8,_),(9,_),(10,_)]) ?_
 refine Pt O$ Pw O$ P4 zcb O$ qV (OS z6C O O ak O)$ OT O$ Q4 O$ OT O$ qV (V7 O O)$ qV (PQ O Rw U3 ω)$ qV (WX O O ω)$ OT O$ Rt O ?_
 have uu:28+al / 8+((bl+7) / 8-al / 8)<=(Xt p g E).length:=by have:=h.ok.len;unfold We at this;omega
 rw[show 28+((al / 8:Nat):Int)=((28+al / 8:Nat):Int) by omega]
 rw[show((((bl+7)%18446744073709551616:Nat):Int)) / 8-((al / 8:Nat):Int)=(((bl+7) / 8-al / 8:Nat):Int) by omega]
 refine Qw O O (yci R.cr R.mr O O) (R.rd (28+al / 8) ((bl+7) / 8-al / 8) h2.inv h2.lt uu) ?_
 rintro _ w3 ⟨rfl,Ep,av⟩
 have h3:=h2.src av Ep
 rw[zci h.ok (al / 8) ((bl+7) / 8-al / 8) ω]
 obtain⟨s,hs⟩:∃s,((Pp (Qz p g E g.length)).drop (al / 8)).take ((bl+7) / 8-al / 8)=s:=⟨_,rfl⟩
 rw[hs]
 refine OT O$ SM O$ Qr O$ Pu.qb (e:=[(4,_),(5,_),(6,_),(7,_),(8,_),(9,_),(10,_),(11,_)]) ?_
 refine PR O$ QF O ?_
 have fL:s.length=(bl+7) / 8-al / 8:=by
  rw[<-hs,List.length_take,List.length_drop,PE];omega
 obtain⟨rest,ol⟩:∃rest,(Pf s).drop (al%8)=XI p g E v++rest:=z8u hs pL hv ω
 refine Qm O$ Pt O$ Pb z8j O (Xf s ω w3) ?_
 rintro _ w4 ⟨b,rfl,fd,aG,hb⟩
 have lb:=fd.1.lt
 have h4:UK R k x (λj=>X j\/j=b) w4:=h3.grow aG (λj hj=>hj.imp id λe=>by omega) (λj hj=> .inl hj)
 have fD:¬X b:=λe=>by have:=h3.lt b e;omega
 refine QW O$ Pl O$ qV (PQ O Rw U3 ω)$ OT O$ qV (Y8 O O ω)$ Rt O ?_
 rw[show(al:Int)-8*((al / 8:Nat):Int)=((al%8:Nat):Int) by omega]
 refine Pb zaN O (Zs fd (al%8) ω) ?_
 rintro _ w5 ⟨rfl,lZ,aj⟩
 have h5:=h4.own aj (λj e=>by
  subst e
  exact⟨.inr O,λe=>fD (e▸h.xk),λe=>fD (e▸h.xx),λe=>fD (e▸h.x1),λe=>fD (e▸h.x2)⟩)
 refine qM O$ Pl O$ qV (PQ O Rw U3 ω)$ OT O$ qV (Y8 O O ω)$ Rt O ?_
 rw[show(bl:Int)-8*((al / 8:Nat):Int)=((bl-8*(al / 8):Nat):Int) by omega]
 refine SH O$ Qr O$ Pu.qb (e:=[(4,_),(5,_),(6,_)]) ?_
 refine OI func212 O ?_
 have z03:=(dF.trans av).size
 exact⟨_,rfl,b,al%8,bl-8*(al / 8),s,rest,rfl,lZ,ol,ω,ω,h5,((dF.trans av).trans aG.kp).It aj (λj e=> .inl ω)⟩
end
def P5 (g:List (List Nat))(v:Nat):List Nat:=(g[v]?).getD []
def Py (g:List (List Nat))(E:List (Nat×Nat))(v:Nat):Nat:=if P5 g v=[] then 0 else((E[v]?).getD (0,0)).1
def TM (p:Qq)(g:List (List Nat))(E:List (Nat×Nat))(v:Nat):List (Cd×Nat):=if P5 g v=[] then [] else Uw p.list v (P5 g v) (QC g v (Py g E v)) (Py g E v)
def z9G (p:Qq)(g:List (List Nat))(E:List (Nat×Nat))(v:Nat):XI p g E v=Ph (QA p.list (P5 g v).length (Py g E v))++Ph (TM p g E v):=by
 unfold XI TM Py
 rw[<-SD]
 by_cases h:P5 g v=[]
 ·have h':(g[v]?).getD []=[]:=h;rw[if_pos h,if_pos h,h',h]
  rfl
 ·rw[if_neg h,if_neg h];have:=z1O p.list v (ref:=QC g v ((E[v]?).getD (0,0)).1) ((E[v]?).getD (0,0)).1 h;rw[<-this];rfl
section
variable {t:TypeId}{u:Value}{p:Qq}{g:List (List Nat)}{E:List (Nat×Nat)}{R:Src t u (Xt p g E)}{k x:Nat}{X:Nat->Prop}{w w':World}
def T2.ent (h:T2 p g E){v:Nat}(hv:v<g.length):ZP p g E v (P5 g v).length ((E[v]?).getD (0,0)):=by
 have hl:=h.pk.el
 obtain⟨e,he⟩:∃e,E[v]? =some e:=⟨_,List.getElem?_eq_getElem ω⟩
 have:=h.pk.ok.ent v e he
 rw[he];exact this
def T2.z3n (h:T2 p g E){v:Nat}(hv:v<g.length):Py g E v<=p.Pm/\Py g E v<=v:=by
 unfold Py
 split
 ·omega
 ·rcases h.ent hv with e| e
  ·rw[e];exact⟨Nat.zero_le _,Nat.zero_le _⟩
  ·exact⟨e.2.1,e.2.2.1⟩
def T2.suc (h:T2 p g E){v:Nat}(hv:v<g.length):PG (P5 g v)/\(P5 g v).length<=g.length/\∀y∈P5 g v,y<g.length:=by
 have hm:P5 g v∈g:=by
  unfold P5;rw[List.getElem?_eq_getElem hv];exact List.getElem_mem hv
 exact⟨h.gr.ok _ hm,h.gr.len hm,h.gr.lt _ hm⟩
def z5R (h:UK R k x X w){v:Nat}(hv:v<g.length):Ps prog 195 [ptr k 0,I (v:Int)] w λr w'=>∃(b a:Nat) (s:OO) (rest:List Bool),r= .tuple #[.agg #[I ((P5 g v).length:Int),I (Py g E v:Int)],ptr b 0,I ((a+(Ph (TM p g E v)).length:Nat):Int),I 0]/\TS w' b s a/\(Pf s).drop a=Ph (TM p g E v)++rest/\w.heap.size<=b/\UK R k x (λj=>X j\/j=b) w'/\Kp (λj=>¬X j) w w':=by
 have hn:=h.ok.gr.n
 obtain⟨ee,dt,pD⟩:=h.ok.suc hv
 have fB:=h.ok.z3n hv
 have qD:=z9G p g E v
 have zv:(P5 g v).length=0->Py g E v=0:=λe=>by unfold Py;rw[if_pos (List.eq_nil_of_length_eq_zero e)]
 refine py (e:=[(0,_),(1,_)]) func195 O ntmps195 O O$ qN O$ OP O O (Rz (cs:=[_,_]) So O) ?_
 rintro _ w1 ⟨b4,rfl,fX,ad,aM⟩
 have l4:=aM.lt
 have h1:UK R k x (λj=>X j\/j=b4) w1:=h.grow ad (λj hj=>hj.imp id λe=>by omega) (λj hj=> .inl hj)
 have aG:∀j,X j->j≠b4:=λj hj e=>by have:=h.lt j hj;omega
 refine SH O$ SH O$ QW O$ Pl O$ Pb zj0 O (z5z h1 hv) ?_
 rintro _ w2 ⟨b,a,e,s,rest,rfl,dg,hd,he,hb,h2,am⟩
 have bB:=am.OH aM (λe=>e (.inr O))
 have LF:=h2.cells
 have lb:=dg.1.lt
 have fD:∀j,X j->j≠b:=λj hj e=>by have:=h.lt j hj;have:=ad.size;omega
 have oo:∀j,j=b->(X j\/j=b4)\/j=b:=λj e=> .inr e
 refine OT O$ qV (Ry (v:=ptr b 0) O O)$ qV (Ry (v:=I (e:Int)) O O)$ qV (Ry (v:=I 0) O O)$ SH O$ Qr O$ PR O$ QF O$ Qm O$ QI O$ Pw O$ P4 VK O$ P4 YE O$ qV (Pv (news:=Vj p) U75 O RE O (OU.cells (i:=2) (n:=5) LF O) O) ?_
 refine Pb z14 O (T5 p w2) ?_
 rintro _ w3 ⟨rfl,ah⟩
 have h3:=h2.ext ah
 have lN:TS w3 b s a:=⟨ah.OH dg.1,dg.2⟩
 rw[qD,List.append_assoc] at hd
 refine Pb zdM O (z2h lN p.list h.ok.Qx.1 h3.gam h3.una (λe=>fD 1 h.x1 e) (λe=>fD 2 h.x2 e) (P5 g v).length (Py g E v) ω fB.1 zv _ hd) ?_
 rintro _ w4 ⟨rfl,fd,ar⟩
 have Ir:=Sj hd
 have h4:=h3.own ar (λj e=>⟨.inr e,λe'=>fD k h.xk (e'▸e),λe'=>fD x h.xx (e'▸e),λe'=>fD 1 h.x1 (e'▸e),λe'=>fD 2 h.x2 (e'▸e)⟩)
 have cC:=ar.OH (ah.OH bB) (λe=>by omega)
 have fL:=congrArg List.length qD
 rw[List.length_append] at fL
 refine OT O$ qV (Ry (v:= .agg #[I ((P5 g v).length:Int),I (Py g E v:Int)]) O O)$ qV (Ry (v:=I 0) O O)$ OP O O (Rz (cs:=[_,_]) So O) ?_
 rintro _ w5 ⟨b11,rfl,ji,aV,bc⟩
 refine OY O (PL (news:=[I ((P5 g v).length:Int),I (Py g E v:Int)]) So O O O O bc ξ) ?_
 rintro w6 ⟨oq,aN⟩
 replace oq:OU w6 b11 [I ((P5 g v).length:Int),I (Py g E v:Int)] 308:=oq
 have cS:Ext w4 w6:=aV.It aN (λj e=>by omega)
 have h6:=h4.ext cS
 have ie:TS w6 b s (a+(Ph (QA p.list (P5 g v).length (Py g E v))).length):=⟨cS.OH fd.1,fd.2⟩
 refine P3 O$ Pu.qb (e:=[(4,_),(5,_),(6,_),(7,_),(8,_),(9,_),(10,_),(11,_)]) ?_
 refine PR O$ QF O$ PO$ Pl O$ Pb Z1 O (Ua ie) ?_
 rintro _ w6 ⟨rfl,rfl⟩
 refine OT O$ QD O$ PO$ PT O$ Qm O$ qN O$ qV (Pv (news:=[I ((P5 g v).length:Int),I (Py g E v:Int)]) z4G O So O (OU.cells (n:=2) oq O) O)$ Pl O ?_
 have bV:=cS.OH cC
 refine OY O (PL (news:=[I ((P5 g v).length:Int),I (Py g E v:Int)]) So O O O O bV ξ) ?_
 rintro w7 ⟨bq,aB⟩
 replace bq:OU w7 b4 [I ((P5 g v).length:Int),I (Py g E v:Int)] 308:=bq
 have h7:=(h6.own aB (λj e=>⟨.inl (.inr e),λe'=>aG k h.xk (e'▸e),λe'=>aG x h.xx (e'▸e),λe'=>aG 1 h.x1 (e'▸e),λe'=>aG 2 h.x2 (e'▸e)⟩)).less (X:=λj=>X j\/j=b) (λj hj=>hj.imp .inl id) (.inl h.xk) (.inl h.xx) (.inl h.x1) (.inl h.x2)
 have LG:TS w7 b s (a+(Ph (QA p.list (P5 g v).length (Py g E v))).length):=⟨aB.OH ie.1 ω,ie.2⟩
 refine SH O$ Qr O$ Po func195 (.cell z4G O So O (OU.cells (n:=2) bq (news:=[_,_]) O) O (.tmp O (.tmp O (.tmp O .nil)))) (⟨_,rfl,b,a+(Ph (QA p.list (P5 g v).length (Py g E v))).length,s,rest,?_,LG,Ir,by have:=ad.size;omega,h7,?_⟩)
 ·rw[show a+(Ph (QA p.list (P5 g v).length (Py g E v))).length+(Ph (TM p g E v)).length=e by omega]
  rfl
 ·have pA:Kp (λj=>¬X j) w w4:=((ad.kp.trans (am.ON λj e e'=>e (.inl e'))).trans ah.kp).It ar (λj e=> .inl (by have:=ad.size;omega));exact(pA.trans cS.kp).It aB (λj e=> .inl ω)
end
section
variable {t:TypeId}{u:Value}{p:Qq}{g:List (List Nat)}{E:List (Nat×Nat)}{R:Src t u (Xt p g E)}{k x gb pb fb:Nat}{X Y S:Nat->Prop}{w w':World}
abbrev z5d (w:World)(vv:Value)(l:List Nat):Prop:=Sl w vv 59 1 l.length (l.map PD)
def TR (E:List (Nat×Nat))(v:Nat):Nat:=((E[v]?).getD (0,0)).2
structure TdM (R:Src t u (Xt p g E))(k x gb pb fb:Nat)(X:Nat->Prop)(w:World):Prop where
 gw:UK R k x X w
 bg:OU w gb [ptr k 0] 28
 bp:OU w pb [I (p.Pm:Int),I (p.chain:Int),I (p.interval:Int),I (p.zeta:Int),I (p.most:Int)] 75
 bf:OU w fb [.func (.func 194) #[] #[ptr gb 0,ptr pb 0,ptr fb 0]] 306
 xg:X gb
 xp:X pb
 xf:X fb
theorem TdM.step (h:TdM R k x gb pb fb X w)(hk:Kp S w w')(hS:∀j,S j->X j->False)(h2:UK R k x Y w')(aH:∀j,X j->Y j):TdM R k x gb pb fb Y w':=
 ⟨h2,hk.OH h.bg (λe=>hS _ e h.xg),hk.OH h.bp (λe=>hS _ e h.xp),hk.OH h.bf (λe=>hS _ e h.xf),aH _ h.xg,aH _ h.xp,aH _ h.xf⟩
def X4 (R:Src t u (Xt p g E))(k x gb pb fb v behind:Nat)(X:Nat->Prop)(w:World):Prop:=
 Ps prog 194 [I (v:Int),I (behind:Int),ptr gb 0,ptr pb 0,ptr fb 0] w λr w'=>∃vv,r= .tuple #[vv,I 0]/\z5d w' vv (P5 g v)/\(∀b,vv.ownBlock=some b->w.heap.size<=b)/\UK R k x (λj=>X j\/vv.ownBlock=some j) w'/\Kp (λj=>¬X j) w w'
def T2.back (h:T2 p g E){v:Nat}(hv:v<g.length)(hq:0<Py g E v):Py g E v<=v/\TR E v=TR E (v-Py g E v)+1/\QC g v (Py g E v)=P5 g (v-Py g E v)/\0<(P5 g (v-Py g E v)).length/\(P5 g (v-Py g E v)).length<=p.most/\(P5 g v).length<=p.most/\P5 g v≠[]/\TR E v<=p.chain:=by
 have bD:P5 g v≠[]:=λe=>by unfold Py at hq;rw[if_pos e] at hq;omega
 have hb:Py g E v=((E[v]?).getD (0,0)).1:=by unfold Py;rw[if_neg bD]
 rcases h.ent hv with e|⟨h1,h2,h3,l,e',h4,h5,h6,h7⟩
 ·rw[hb,e] at hq;cases hq
 ·rw[<-hb] at h1 h2 h3 h4 h5;have LH:=of_decide_eq_true h7;have hs:P5 g (v-Py g E v)=l:=by unfold P5;rw[h4];rfl
  refine⟨h3,?_,?_,by rw[hs];omega,by rw[hs];omega,ω,bD,?_⟩
  ·unfold TR;rw[h5];exact h6
  ·unfold QC;rw[if_neg ω];rfl
  ·show((E[v]?).getD (0,0)).2<=_;omega
theorem za4 (ay:T2 p g E)(jq:g.length<50){v:Nat}(hv:v<g.length){b a:Nat}{s:OO}{rest:List Bool}(hR:TS w b s a)(hd:(Pf s).drop a=Ph (TM p g E v)++rest)(hG:OU w 1 (Sq .gamma) 294)(hU:OU w 2 (Sq .unary) 294)(h1:¬1=b)(h2:¬2=b)
  {vb:Value} (eV:Py g E v=0->vb= .slice none 0 0) (hS:0<Py g E v->z5d w vb (P5 g (v-Py g E v))) (Bn:∀j,vb.ownBlock=some j->j≠b):
  Ps prog 196 [ptr b 0,I (v:Int),I (g.length:Int),.agg #[I ((P5 g v).length:Int),I (Py g E v:Int)],vb,lpV p.list] w λr w'=>∃vv,r= .tuple #[vv,I 0]/\z5d w' vv (P5 g v)/\(∀j,vv.ownBlock=some j->w.heap.size<=j)/\TS w' b s (a+(Ph (TM p g E v)).length)/\Kp (λj=>j=b) w w':=by
 obtain⟨ee,dt,pD⟩:=ay.suc hv
 have fB:=ay.z3n hv
 by_cases bD:P5 g v=[]
 ·have zv:Py g E v=0:=by unfold Py;rw[if_pos bD]
  have EM:TM p g E v=[]:=by unfold TM;rw[if_pos bD]
  rw[zv,eV zv,EM,bD];refine(z3a p.list ay.Qx.1 v ω g.length ω).mono λr w' hr=>?_;obtain⟨rfl,hx⟩:=hr;exact⟨_,rfl,Sl.nil _ _ _,λj e=>(by cases e),⟨hx.OH hR.1,hR.2⟩,hx.kp⟩
 ·have EM:TM p g E v=Uw p.list v (P5 g v) (QC g v (Py g E v)) (Py g E v):=by unfold TM;rw[if_neg bD]
  have j9:PG (QC g v (Py g E v))/\(QC g v (Py g E v)).length<=60:=by
   have hn:=ay.gr.n;rcases Xb g v (Py g E v) with e| e
   ·rw[e];exact⟨⟨List.Pairwise.nil,λy hy=>(by cases hy)⟩,ξ⟩
   ·exact⟨ay.gr.ok _ e,by have:=ay.gr.len e;omega⟩
  have vP:=ZE ay.Qx.1 (x:=v) ω ee j9.1 fB.1 ω j9.2;rw[EM] at hd⊢;rcases Nat.eq_zero_or_pos (Py g E v) with h0|h0
  ·have mc:QC g v (Py g E v)=[]:=by unfold QC;rw[if_pos h0]
   rw[eV h0];have:=z00 hR p.list ay.Qx.1 v ω g.length ω (ra:=none) (rc:=0) (P5 g v) (QC g v (Py g E v)) ee bD ω pD j9.1 (Py g E v) fB.1 (λ_=>mc) hG hU h1 h2 (λw2 am=>by rw[mc];exact(Sl.nil _ 59 1).rd) (by rw[mc];exact Nat.le_refl _) ω rest hd;rw[mc] at this⊢;exact this
  ·obtain⟨q1,q2,q3,q4,q5,q6,q7,q8⟩:=ay.back hv h0;have EN:=hS h0;rw[<-q3] at EN
   obtain⟨ga,gc,rfl,kg⟩:∃a c,vb= .slice a (QC g v (Py g E v)).length c/\(QC g v (Py g E v)).length<=c:=by
    rcases EN.shape with⟨-,e⟩|⟨b,c,e,hc⟩
    ·rw[q3] at e;omega
    ·exact⟨_,c,e,hc⟩
   exact z00 hR p.list ay.Qx.1 v ω g.length ω (ra:=ga) (rc:=gc) (P5 g v) (QC g v (Py g E v)) ee bD ω pD j9.1 (Py g E v) fB.1 (λe=>by omega) hG hU h1 h2 (λw2 am=>(EN.kp am λj e=>Bn j e).rd) kg ω rest hd
end
section
variable {t:TypeId}{u:Value}{p:Qq}{g:List (List Nat)}{E:List (Nat×Nat)}{R:Src t u (Xt p g E)}{k x gb pb fb:Nat}{X Y:Nat->Prop}{w w':World}
theorem z04 (jq:g.length<50){v behind:Nat}(hv:v<g.length)(BD:behind+TR E v<=p.chain)(ht:TdM R k x gb pb fb X w)
  (ih:0<Py g E v->∀(X':Nat->Prop) (w':World),TdM R k x gb pb fb X' w'->X4 R k x gb pb fb (v-Py g E v) (behind+1) X' w'):X4 R k x gb pb fb v behind X w:=by
 have ay:=ht.gw.ok
 have hn:=ay.gr.n
 have O5:p.chain<=1000000:=by have:=ay.Qx.2.1;omega
 obtain⟨ee,dt,pD⟩:=ay.suc hv
 have fB:=ay.z3n hv
 have uv:=ht.bg
 unfold X4
 refine py (e:=[(0,_),(1,_),(2,_),(3,_),(4,_)]) func194 O ntmps194 O O$ qN O$ SH O$ QW O$ qV (OS Z8 O O uv O)$ OT O$ Pb zik O (z5R ht.gw hv) ?_
 rintro _ w1 ⟨b,a,s,rest,rfl,io,uh,bK,h1,az⟩
 have lb1:=io.1.lt
 have cP:∀j,X j->j≠b:=λj hj e=>by have:=ht.gw.lt j hj;omega
 refine OT O$ qV (Ry (v:= .agg #[I ((P5 g v).length:Int),I (Py g E v:Int)]) O O)$ qV (Ry (v:=ptr b 0) O O)$ qV (Ry (v:=I ((a+(Ph (TM p g E v)).length:Nat):Int)) O O)$ qV (Ry (v:=I 0) O O)$ OP O O (Rz (cs:=[_,_]) So O) ?_
 rintro _ w2 ⟨b9,rfl,ir,ae,cK⟩
 refine OY O (PL (news:=[I ((P5 g v).length:Int),I (Py g E v:Int)]) So O O O O cK ξ) ?_
 rintro w3 ⟨cW,av⟩
 replace cW:OU w3 b9 [I ((P5 g v).length:Int),I (Py g E v:Int)] 308:=cW
 have aZ:Ext w1 w3:=ae.It av (λj e=>by omega)
 have l93:=cW.lt
 have z13:=aZ.size
 have h3:UK R k x (λj=>(X j\/j=b)\/j=b9) w3:=h1.grow aZ (λj hj=>hj.imp id λe=>by omega) (λj hj=> .inl hj)
 have cq:Kp (λj=>¬X j) w w3:=az.trans aZ.kp
 have qw:TdM R k x gb pb fb (λj=>(X j\/j=b)\/j=b9) w3:=ht.step cq (λj e e'=>e e') h3 (λj hj=> .inl (.inl hj))
 have lN:TS w3 b s a:=⟨aZ.OH io.1,io.2⟩
 refine SH O$ Qr O$ PR O$ QF O$ Qm O$ QN O$ An$ qN O$ P4 St O$ qV (OS U3 O O cW O)$ QD O$ OJ$ Pu.qb (e:=[(0,_),(1,_),(2,_),(3,_),(4,_),(7,_),(8,_),(9,_),(10,_),(11,_),(12,_),(13,_),(28,_)]) ?_
 refine PI (λe' w'=>∃vb,e'=[(0,I (v:Int)),(2,ptr gb 0),(3,ptr pb 0),(9,ptr b9 0),(10,ptr b 0),(11,I ((a+(Ph (TM p g E v)).length:Nat):Int)),(13,vb)]/\UK R k x (λj=>(X j\/j=b)\/j=b9) w'/\Kp (λj=>¬((X j\/j=b)\/j=b9)) w3 w'/\(Py g E v=0->vb= .slice none 0 0)/\(0<Py g E v->z5d w' vb (P5 g (v-Py g E v)))/\(∀j,vb.ownBlock=some j->j≠b)) ?bH$ λbH=>?da
 case bH=>
  rintro e' w4 ⟨vb,rfl,h4,ar,vR,fI,EO⟩;have xV:TdM R k x gb pb fb (λj=>(X j\/j=b)\/j=b9) w4:=qw.step ar (λj e e'=>e e') h4 (λj hj=>hj);have mF:=ar.OH cW (λe=>e (.inr O));have fd:TS w4 b s a:=⟨ar.OH lN.1 (λe=>e (.inl (.inr O))),lN.2⟩;have qQ:=xV.bg;have jx:=xV.bp;have EP:=xV.gw.cells;have af:=Ext.Pa w4;refine An ?_;have ngb:gb≠b:=cP gb ht.xg;have nk:k≠b:=cP k ht.gw.xk;have npb:pb≠b:=cP pb ht.xp;have n9:b9≠b:=by omega
  refine R0 (λw'=>Kp (λj=>j=b) w4 w') O$ P8 0 O O (af.kp)$ P8 1 O O (af.kp)$ qT 2 O (λ_ h=>(OS Z8 O O (h.OH qQ ngb) O)) (af.kp)$ OM 3 O (Qd O) (af.kp)$ OM 4 O (Px VK O) (af.kp)$ OM 5 O (Px Ub O) (af.kp)$ qT 6 O (λ_ h=>(OS U3 O O (h.OH EP nk) O)) (af.kp)$ P8 8 O O (af.kp)$ qT 7 O (λ_ hS=>Pv (news:=[I ((P5 g v).length:Int),I (Py g E v:Int)]) z4G O So O (OU.cells (n:=2) (hS.OH mF n9) O) O) (af.kp)$ qT 9 O (λ_ h=>Pv (news:=Vj p) U75 O RE O (OU.cells (n:=5) (h.OH jx npb) O) O) (af.kp)$ S1 10 O z14 O (T5 p w4.drew) ?_;rintro _ w5 ⟨rfl,aV⟩;refine⟨(af.trans aV).kp,?_⟩;have dG:=af.trans aV;have h5:=h4.ext dG;have lZ:TS w5 b s a:=⟨dG.OH fd.1,fd.2⟩;have EQ:¬1=b:=λe=>cP 1 ht.gw.x1 e;have ER:¬2=b:=λe=>cP 2 ht.gw.x2 e;refine S1 11 O ziH O (za4 ay jq hv lZ uh h5.gam h5.una EQ ER vR (λe=>(fI e).ext dG) EO) ?_;rintro _ w6 ⟨vv,rfl,fQ,nE,ie,aN⟩;refine⟨dG.kp.trans aN,?_⟩;refine P8 12 O O (dG.kp.trans aN)$ OM 13 O (Ry (v:=vv) O O) (dG.kp.trans aN)$ OM 15 O (Rv O) (dG.kp.trans aN)$ OM 14 O (Ry (v:=I 0) O O) (dG.kp.trans aN)$ OM 16 O (Rv O) (dG.kp.trans aN)$ qE$ PR O$ QF O$ Pl O$ Pb Z1 O (Ua ie) ?_;rintro _ w6 ⟨rfl,rfl⟩;refine OT O$ QF O$ PO$ PT O$ OJ$ Pu.qb (e:=[(14,_),(92,_)]) ?_;refine SO O$ Pt O$ Qr O$ OI func194 O ?_;have z34:=ar.size;have z45:=dG.size;have z03:=cq.size;have h6:=(h5.step (Y:=λj=>((X j\/j=b)\/j=b9)\/vv.ownBlock=some j) aN (λj e=>⟨.inl (.inr e),λe'=>cP k ht.gw.xk (e'▸e),λe'=>cP x ht.gw.xx (e'▸e),λe'=>cP 1 ht.gw.x1 (e'▸e),λe'=>cP 2 ht.gw.x2 (e'▸e)⟩) (λj hj=>hj.imp id λe=>⟨nE j e,fQ.lt e⟩) (λj hj=> .inl hj)).less (X:=λj=>X j\/vv.ownBlock=some j) (λj hj=>hj.imp (λe=> .inl (.inl e)) id) (.inl ht.gw.xk) (.inl ht.gw.xx) (.inl ht.gw.x1) (.inl ht.gw.x2);exact⟨_,rfl,vv,rfl,fQ,λj e=>by have:=nE j e;omega,h6,((cq.trans (ar.ON λj e e'=>e (.inl (.inl e')))).trans dG.kp).trans (aN.ON λj e e'=>cP j e' e)⟩
 case da=>
  refine OX O (λh0=>?_)$ λh0=>?_
  ·have wG:0<Py g E v:=by omega
   obtain⟨q1,q2,q3,q4,q5,q6,q7,q8⟩:=ay.back hv wG;have zw:=qw.bp;have ES:=qw.bf;refine An$ qN O$ P4 St O$ qV ((OS U3 O O cW O))$ OT O$ QD O$ PO$ Pl O$ P4 Z6 O$ qV ((OS U3 O O zw O))$ Uh O$ PO$ PT O$ OT O ?_;refine P4 Tw O$ qV ((OS U3 O O cW O))$ P4 TF O$ qV ((OS U3 O O zw O))$ QD O$ PO$ PT O$ OJ$ Pu.qb (e:=[(0,_),(1,_),(2,_),(3,_),(4,_),(7,_),(8,_),(9,_),(10,_),(11,_),(12,_),(13,_),(45,_)]) ?_;refine SO O$ An$ qN O$ qV ((OS zgl O O ES O))$ OT O$ P4 St O$ qV ((OS U3 O O cW O))$ Rt O ?_;rw[show(v:Int)-(Py g E v:Int)=((v-Py g E v:Nat):Int) by omega];refine OT O$ Q4 O ?_;rw[show(behind:Int)+1=((behind+1:Nat):Int) by omega];have lP:=ih wG _ w3 qw;unfold X4 at lP;refine Qw O O (RW zea O O) (lP) ?_;rintro _ w4 ⟨vb,rfl,eA,qn,h4,ar⟩
   obtain⟨vo,vc,rfl,Bo⟩:∃o c,vb= .slice (some ⟨o,0,none⟩) (P5 g (v-Py g E v)).length c/\w3.heap.size<=o:=by
    rcases eA.shape with⟨-,e⟩|⟨o,c,e,hc⟩
    ·omega
    ·exact⟨o,c,e,qn o (by rw[e];rfl)⟩
   refine OT O$ qV (Ry (v:= .slice (some ⟨vo,0,none⟩) (P5 g (v-Py g E v)).length vc) O O)$ qV (Ry (v:=I 0) O O)$ SH O$ R3 O$ QF O ?_;have jx:=(qw.step ar (λj e e'=>e e') h4 (λj hj=> .inl hj)).bp;refine OJ$ Pu.qb (e:=[(0,_),(2,_),(3,_),(7,_),(8,_),(9,_),(10,_),(11,_),(12,_),(13,_),(58,_)]) ?_;refine SO O$ Pt O$ RO Pz O$ Rk O$ PO$ Pl O$ RO Pz O$ P4 TF O$ qV (OS U3 O O jx O)$ QD O$ PO$ PT O$ Qm O ?_;exact(bH _ _ ⟨_,rfl,h4.less (λj hj=> .inl hj) h3.xk h3.xx h3.x1 h3.x2,ar,λe=>by omega,λ_=>eA,λj e=>by have e':vo=j:=RB e;omega⟩).qb
  ·refine OK ?_;exact(bH _ _ ⟨_,rfl,h3,Kp.refl _ _,λ_=>rfl,λe=>by omega,λj e=>by cases e⟩).qb
theorem z1t (jq:g.length<50):∀(d:Nat) {v behind:Nat} {X:Nat->Prop} {w:World},TR E v<=d->v<g.length->behind+TR E v<=p.chain->TdM R k x gb pb fb X w->X4 R k x gb pb fb v behind X w
 | 0, v, behind, X, w, hd, hv, BD, ht => z04 jq hv BD ht λh0 => by
   obtain⟨q1,q2,-⟩:=ht.gw.ok.back hv h0
   omega
 | d + 1, v, behind, X, w, hd, hv, BD, ht => z04 jq hv BD ht λh0 X' w' LI => by
   obtain⟨q1,q2,-⟩:=ht.gw.ok.back hv h0;exact z1t jq d ω ω ω LI
def T2.zbi (h:T2 p g E){v:Nat}(hv:v<g.length):TR E v<=p.chain:=by
 rcases h.ent hv with e|⟨h1,h2,h3,l,e',h4,h5,h6,h7⟩
 ·unfold TR;rw[e];exact Nat.zero_le _
 ·have LH:=of_decide_eq_true h7;unfold TR;omega
theorem z5B (jq:g.length<50){v:Nat}(hv:v<g.length)(h:UK R k x X w):Ps prog 171 [ptr k 0,I (v:Int)] w λr w'=>∃vv,r= .tuple #[vv,I 0]/\z5d w' vv (P5 g v)/\(∀b,vv.ownBlock=some b->w.heap.size<=b)/\UK R k x (λj=>X j\/vv.ownBlock=some j) w'/\Kp (λj=>¬X j) w w':=by
 refine py (e:=[(0,_),(1,_)]) func171 O ntmps171 O O$ qN O$ OP O O (R6 O (cs:=[ptr k 0]) O) ?_
 rintro _ w1 ⟨gb,rfl,LJ,ad,uv⟩
 refine Qr O$ An$ qN O$ qV (OS Z8 O O uv O)$ OT O$ OP O O (Yx (cs:=[_]) (zs:=[Value.int .i64 0]) Rr Qe O (by kernel_rfl) O O O ψ) ?_
 rintro _ w2 ⟨vb,rfl,⟨eV,ae,O6⟩,LK⟩
 have h2:=(h.ext ad).ext ae
 have hH:=ae.OH uv
 have ET:=h2.cells
 have z1:=ad.size
 have z2:=ae.size
 refine Pb ziP O (z5O h2 hv LK.rd) ?_
 rintro _ w2 ⟨rfl,rfl⟩
 refine R3 O$ QF O$ Qm O$ qN O$ qV (OS Z8 O O hH O)$ Pw O$ P4 VK O$ P4 YE O$ qV (Pv (news:=Vj p) U75 O RE O (OU.cells (i:=2) (n:=5) ET O) O)$ OP O O (Rz (cs:=[_,_,_,_,_]) RE O) ?_
 rintro _ w3 ⟨pb,rfl,rQ,ah,rW⟩
 refine OY O (PL (news:=Vj p) RE O O O O rW ξ) ?_
 rintro w4 ⟨jx,ar⟩
 replace jx:OU w4 pb [I (p.Pm:Int),I (p.chain:Int),I (p.interval:Int),I (p.zeta:Int),I (p.most:Int)] 75:=jx
 have dP:Ext w2 w4:=ah.It ar (λj e=>by omega)
 refine qM O$ OP O O (Rz (cs:=[_]) zdD O) ?_
 rintro _ w5 ⟨fb,rfl,O7,aV,dp⟩
 refine qM O$ qV (ZR (first:=[]) (caps:=[.tmp 2,.tmp 7,.tmp 8]) O O)$ OY O (QP zdD O O O dp ξ) ?_
 rintro w6 ⟨zx,aN⟩
 have cS:Ext w4 w6:=aV.It aN (λj e=>by omega)
 have iE:=dP.trans cS
 have z6:=iE.size
 have lg:=hH.lt
 have lp:=jx.lt
 have lf:=zx.lt
 have z24:=dP.size
 have z3:=ah.size
 have z46:=cS.size
 have iG:=(ad.trans ae).trans iE
 have h6:UK R k x (λj=>X j\/j=gb\/j=pb\/j=fb) w6:=h.grow iG (λj hj=>hj.imp id λe=>by omega) (λj hj=> .inl hj)
 have xB:TdM R k x gb pb fb (λj=>X j\/j=gb\/j=pb\/j=fb) w6:=⟨h6,iE.OH hH,cS.OH jx,zx,.inr (.inl O),.inr (.inr (.inl O)),.inr (.inr (.inr O))⟩
 have zC:=xB.bf
 have ff:=z1t jq _ (behind:=0) (Nat.le_refl _) hv (by have:=h.ok.zbi hv;omega) xB
 unfold X4 at ff
 refine qM O$ qV (OS zgl O O zC O)$ OT O$ Qw O O (RW zea O O) (ff) ?_
 rintro _ w7 ⟨vv,rfl,gQ,po,h7,aB⟩
 refine qV (Ry (v:=vv) O O)$ qV (Ry (v:=I 0) O O)$ Qr O$ Pu.qb (e:=[(4,_),(5,_)]) ?_
 refine OI func171 O ?_
 exact⟨_,rfl,vv,rfl,gQ,λj e=>by have:=po j e;omega,h7.less (λj hj=>hj.imp .inl id) (.inl h.xk) (.inl h.xx) (.inl h.x1) (.inl h.x2),iG.kp.trans (aB.ON λj e e'=>e (.inl e'))⟩
end
def stV (b:Bool):Value:= .int .u8 (if b then 1 else 0)
structure XA (w:World)(m gi:Nat)(L:List Bool):Prop where
 OH:OU w m [I 2,.slice (some ⟨gi,0,none⟩) L.length L.length,.slice none 0 0,.bool false] 107
 sl:Sl w (.slice (some ⟨gi,0,none⟩) L.length L.length) 190 1 L.length (L.map stV)
 ne:gi≠m
 n:L.length<=4096
 n2:2<=L.length
section
variable {w w':World}{m gi:Nat}{L:List Bool}{S:Nat->Prop}
def XA.kp (h:XA w m gi L)(hk:Kp S w w')(h1:¬S m)(h2:¬S gi):XA w' m gi L:=
 ⟨hk.OH h.OH h1,h.sl.kp hk λg e=>by cases e;exact h2,h.ne,h.n,h.n2⟩
theorem XA.ext (h:XA w m gi L)(hx:Ext w w'):XA w' m gi L:=h.kp (S:=λ_=>False) hx id id
def XA.ltm (h:XA w m gi L):m<w.heap.size:=h.OH.lt
def XA.ltg (h:XA w m gi L):gi<w.heap.size:=h.sl.lt O
theorem XA.get (h:XA w m gi L){i:Nat}{b:Bool}(hi:L[i]? =some b):w.cell? ⟨gi,0+i*1,none⟩=some (stV b):=
 PY h.sl.rd (by rw[List.getElem?_map,hi];rfl)
def z9q (B:Nat)(hB:2<=B/\B<=4096)(w:World):Ps prog 21 [I 2,I (B:Int)] w λv w'=>∃m gi,v= .tuple #[ptr m 0,I 0]/\XA w' m gi (List.replicate B false)/\w.heap.size<=m/\w.heap.size<=gi/\Ext w w':=by
 refine py (e:=[(0,_),(1,_)]) func21 O ntmps21 O O$ qN O$ Qr O$ PR O$ QV O$ PO$ Pl O$ OT O$ QD O$ PO$ PT O$ Pl O$ QD O$ PO ?_
 refine PT O$ Qm O$ QI O$ OP O O (pmk (c:=B) (n:=B) VE z2J O O O (Nat.le_refl _) ω (by simp only[maxLen];omega)) ?_
 rintro _ w1 ⟨gi,rfl,⟨uo,ad,ai⟩,jT⟩
 refine qV (Sh (cs:=[_,_,_,_]) zih O zie O O)$ OP O O (R6 O (cs:=[I 2,.slice (some ⟨gi,0,none⟩) B B,.slice none 0 0,.bool false]) O) ?_
 rintro _ w2 ⟨m,rfl,hm,ae,ak⟩
 refine Qr O$ OI func21 O ?_
 have:=ad.size
 have lg:=jT.lt (g:=gi) O
 refine⟨_,rfl,m,gi,rfl,⟨by rw[List.length_replicate];exact ak,?_,ω,by rw[List.length_replicate];omega,by rw[List.length_replicate];omega⟩,ω,ω,ad.trans ae⟩
 rw[List.length_replicate,List.map_replicate]
 exact jT.ext ae
def Qj (L:List Bool)(s n:Nat)(b:Bool):List Bool:=L.take s++(List.replicate n b++L.drop (s+n))
theorem Qa {L:List Bool}{s n:Nat}{b:Bool}(h:s+n<=L.length):(Qj L s n b).length=L.length:=by
 unfold Qj
 rw[List.length_append,List.length_append,List.length_take,List.length_replicate,List.length_drop];omega
theorem z8V (L:List Bool)(s:Nat)(b:Bool):Qj L s 0 b=L:=by simp[Qj]
theorem z8w {L:List Bool}{s n:Nat}{b:Bool}(h:s+n<L.length):(Qj L s n b).set (s+n) b=Qj L s (n+1) b:=by
 have h1:(L.take s++List.replicate n b).length=s+n:=by rw[List.length_append,List.length_take,List.length_replicate];omega
 unfold Qj
 rw[<-List.append_assoc,List.set_append_right _ _ ω,h1,Nat.sub_self,List.drop_eq_getElem_cons h,List.set_cons_zero,List.replicate_succ',List.append_assoc,List.append_assoc]
 rfl
def z2d (h:XA w m gi L)(s n:Nat)(b:Bool)(hs:s+n<=L.length):Ps prog 123 [ptr m 0,.agg #[I (s:Int),I (n:Int)],stV b] w λv w'=>v= .tuple #[]/\XA w' m gi (Qj L s n b)/\Kp (λk=>k=gi) w w':=by
 have hn:=h.n
 refine py (e:=[(0,_),(1,_),(2,_)]) func123 O ntmps123 O O$ qN O$ OP O O (R6 O (cs:=[I (s:Int),I (n:Int)]) O) ?_
 rintro _ w1 ⟨b4,rfl,fX,ad,aM⟩
 have lg:=h.ltg
 have l4:=aM.lt
 have h1:=h.ext ad
 refine qM O$ P4 R9 O$ qV (OS U3 O O aM O)$ OT O$ OJ$ OL$ RN (α:=Nat) (0) (λi=>[(0,ptr m 0),(2,stV b),(4,ptr b4 0),(8,I (n:Int)),(9,I (i:Int))]) (λi w'=>XA w' m gi (Qj L s i b)/\Kp (λk=>k=gi) w1 w'/\i<=n) (λi=>n-i) ?hI ?hround
 case hI=>exact⟨by rw[z8V];exact h1,Kp.refl _ _,Nat.zero_le _⟩
 case hround=>
  rintro i w2 ⟨h2,am,hi⟩ ih
  try dsimp only
  refine qN O$ QV O$ OJ$ An$ OX O (λh0=>?_)$ λh0=>?_
  ·have aq:i<n:=by omega
   have hl:=Qa (L:=L) (s:=s) (n:=i) (b:=b) ω;have ak:=h2.OH;have bB:=am.OH aM ω;have hg:=Ext.Pa w2;refine OK$ QO$ Pt O$ P3 O$ Pk [10] (λw'=>Ext w2 w') (by kernel_rfl) O$ PW 0 O O (hg)$ Pr 1 O (Qd O) hg$ Pr 2 O (Px Vc O) hg$ qL 3 O (λ_ h=>(OS VE O O (h.OH ak) O)) hg$ Pr 4 O (Px QX O) hg$ qL 5 O (λ_ h=>(OS U3 O O (h.OH bB) O)) hg$ PW 6 O O (hg)$ Pr 7 O (UN O O ω) hg$ PW 8 O O (hg) ?_;refine Pr 9 O (Qc VE z2J O O ω) hg$ Ty [10]$ qO 10$ PJ (i:=10) O O (RV z2J O O O (h2.ext hg).sl (by rw[List.length_map,hl];omega)) ?_;rintro w3 ⟨de,av⟩;refine⟨trivial,?_⟩
   have h3:XA w3 m gi (Qj L s (i+1) b):=by
    refine⟨?_,?_,h2.ne,by rw[Qa ω];exact h.n,by rw[Qa ω];exact h.n2⟩
    ·rw[Qa ω,<-hl];exact av.OH (hg.OH ak) (λe=>h2.ne e.symm)
    ·rw[show 0+(s+i)*1=s+i by omega,<-List.map_set,z8w ω] at de;rw[Qa ω,<-hl];exact de
   refine qE$ OG$ OQ O$ Q4 O$ OT O$ OJ ?_;exact(ih (i+1) _ ⟨h3,am.trans (hg.kp.trans av),ω⟩ ω).qb
  ·have aq:i=n:=by omega
   subst aq;refine OV O$ Qh func123 O ?_;exact⟨_,rfl,rfl,h2,ad.kp.trans am⟩
end
structure Pre (L:List Bool)(a:Nat):Prop where
 a2:2<=a
 le:a<=L.length
 tk:∀i,2<=i->i<a->L[i]? =some true
 fr:∀i,a<=i->i<L.length->L[i]? =some false
section
variable {w w':World}{m gi a:Nat}{L:List Bool}{S:Nat->Prop}
def YA {l bm:Nat}(hm:XA w m gi L)(hp:Pre L a)(ha:a<L.length)(lV:OU w bm [ptr m 0] 67)(J:World->Prop)(hJ:∀w w',J w->Ext w w'->J w')
  (hround:∀w',Ext w w'->z26 prog l [.agg #[I (a:Int),I ((L.length-a:Nat):Int)]] w' λv w''=>(v= .bool true/\J w''/\OU w'' bm [ptr m 0] 67/\XA w'' m gi L)\/(v= .bool false/\J w'')):
  Ps prog 90 [.func (.yield l) #[] #[],ptr bm 0] w λv w'=>v= .tuple #[]/\J w':=by
 have hn:=hm.n
 have tL:=hp.a2
 have hB:=hm.OH
 refine py (e:=[(0,_),(1,_)]) func90 O ntmps90 O O$ qN O$ qV ((OS U67 O O lV O))$ Pw O$ P4 z8l O$ qV ((OS U3 O O hB O))$ P3 O$ OL$ RN (α:=Nat) (2) (λi=>[(0,.func (.yield l) #[] #[]),(1,ptr bm 0),(3,I (i:Int))]) (λi w'=>OU w' bm [ptr m 0] 67/\XA w' m gi L/\((2<=i/\i<=a/\Ext w w')\/(i=L.length+1/\J w'))) (λi=>L.length+1-i) ?hI ?hround
 case hI=>exact⟨lV,hm,.inl ⟨Nat.le_refl _,tL,Ext.refl _⟩⟩
 case hround=>
  rintro i w1 ⟨uE,pK,gu⟩ ih;have ai:=pK.OH
  try dsimp only
  refine PR O$ qV ((OS U67 O O uE O))$ Pw O$ P4 Vc O$ qV ((OS VE O O ai O))$ RO VE O$ QV O$ OJ$ OX O (λh0=>?_)$ λh0=>?_
  ·have uF : 2 <= i /\ i <= a /\ Ext w w1 := by
    rcases gu with h| h
    ·exact h
    ·omega
   obtain⟨dO,O8,ad⟩:=uF;refine OK$ QO$ Pt O$ qV (Sh (cs:=[_,_]) R4 O ziG O O)$ OP O O (Rz (cs:=[_,_]) R4 O) ?_;rintro _ w2 ⟨b4,rfl,fX,ae,aM⟩;refine OY O (PL (news:=[I (i:Int),I 0]) R4 O O O O aM ξ) ?_;rintro w3 ⟨dY,av⟩;replace dY:OU w3 b4 [I (i:Int),I 0] 118:=dY;have aZ:Ext w1 w3:=ae.It av (λj e=>by omega);have uG:=aZ.OH uE;have lL:=pK.ext aZ;have au:=lL.OH;refine OJ$ QO$ RN (α:=Nat) (i) (λj=>[(0,.func (.yield l) #[] #[]),(1,ptr bm 0),(3,I (j:Int)),(4,ptr b4 0)]) (λj w'=>w'=w3/\i<=j/\j<=L.length/\(i<j->i=a)) (λj=>L.length-j) ?hI ?hround
   case hI=>exact⟨rfl,Nat.le_refl _,ω,λh=>absurd h ω⟩
   case hround =>
    rintro j w4 ⟨rfl,gL,O9,EU⟩ ih2
    try dsimp only
    rcases Nat.lt_or_ge j L.length with hj|hj
    ·obtain⟨b,hb⟩:∃b,L[j]? =some b:=⟨_,List.getElem?_eq_getElem hj⟩;have bj:=lL.get hb;refine PR O$ qV ((OS U67 O O uG O))$ Pw O$ P4 Vc O$ qV ((OS VE O O au O))$ RO VE O$ QV O$ RP$ OT O$ qV ((OS U67 O O uG O))$ Pw O$ P4 Vc O$ qV ((OS VE O O au O))$ OT O ?_;refine qV (Qc VE z2J O O ω) ?_
     cases b with
     | true =>
       refine qV (PC (v:= .int .u8 1) zbc O O bj) ?_
       have LL:i<a:=by
        rcases Nat.lt_or_ge i a with h| h
        ·exact h
        ·have:=hp.fr j ω hj;rw[this] at hb;cases hb
       have sh:j=i:=by
        rcases Nat.lt_or_ge i j with h| h
        ·have:=EU h;omega
        ·omega
       subst sh;refine Rk O$ PO$ Ra O$ OJ$ OR O$ OV O$ Pt O$ P4 QX O$ qV (OS U3 O O dY O)$ Rt O$ P4 R9 O$ OY O (QP Qe O O O dY ξ) ?_;rintro w5 ⟨aO,aj⟩;rw[show(j:Int)-(j:Int)=0 by omega] at aO;replace aO:OU w5 b4 [I (j:Int),I 0] 118:=aO;have cw:Ext w1 w5:=aZ.It aj (λq e=>by have:=ae.size;omega);refine qM O$ P4 R9 O$ qV (OS U3 O O aO O)$ QD O$ OT O$ QY$ QY$ PT O$ Qm O$ OG$ Rp O$ Q4 O$ P3 O ?_
       exact(ih (j+1) w5 ⟨cw.OH uE,pK.ext cw,.inl ⟨ω,ω,ad.trans cw⟩⟩ ω).qb
     | false =>
       refine qV (PC (v:= .int .u8 0) zbc O O bj)$ Rk O$ RP$ Ra O ?_
       have uH:i=a:=by
        rcases Nat.lt_or_ge i a with h| h
        ·rcases Nat.lt_or_ge i j with h2|h2
         ·exact EU h2
         ·have e:j=i:=by omega
          subst e;have:=hp.tk j dO h;rw[this] at hb;cases hb
        ·omega
       refine OJ$ OZ O$ OK$ OL$ Rp O$ Q4 O$ P3 O$ OG ?_;exact(ih2 (j+1) _ ⟨rfl,ω,ω,λ_=>uH⟩ ω).qb
    ·have LM:j=L.length:=by omega
     subst LM;have uH:=EU ω;subst uH;refine PR O$ qV ((OS U67 O O uG O))$ Pw O$ P4 Vc O$ qV ((OS VE O O au O))$ RO VE O$ QV O$ PO$ OT O$ QY$ QY$ QY$ QY$ PT O ?_;refine OJ$ OR O$ OV O$ Pt O$ P4 QX O$ qV (OS U3 O O dY O)$ Rt O$ P4 R9 O$ OY O (QP Qe O O O dY ξ) ?_;rintro w5 ⟨aO,aj⟩;rw[show(L.length:Int)-(i:Int)=((L.length-i:Nat):Int) by omega] at aO;replace aO:OU w5 b4 [I (i:Int),I ((L.length-i:Nat):Int)] 118:=aO;have cw:Ext w1 w5:=aZ.It aj (λq e=>by have:=ae.size;omega);refine qM O$ P4 R9 O$ qV (OS U3 O O aO O)$ QD O$ RP$ Pl O$ qV (Pv (news:=[I (i:Int),I ((L.length-i:Nat):Int)]) Xj O R4 O (OU.cells (n:=2) aO O) O)$ z3F O O (yy O O) (hround w5 (ad.trans cw)) ?_;rintro v w6 hv;rcases hv with⟨rfl,zD,EV,LN⟩|⟨rfl,zD⟩
     ·refine qV ((S5 O))$ Ra O$ Qm O$ OG$ Rp O$ Q4 O$ P3 O ?_;exact(ih (L.length+1) w6 ⟨EV,LN,.inr ⟨rfl,zD⟩⟩ ω).qb
     ·refine qV ((S5 O))$ Ra O$ OJ$ OZ O$ OI func90 O ?_;exact⟨_,rfl,rfl,zD⟩
  ·rcases gu with⟨-,h,-⟩|⟨-,zD⟩
   ·omega
   ·refine OV O$ Qh func90 O ?_;exact⟨_,rfl,rfl,zD⟩
def YB (w:World)(m:Nat):Ps prog 56 [ptr m 0] w λv w'=>∃bm,v= .func (.func 90) #[] #[ptr bm 0]/\OU w' bm [ptr m 0] 67/\w.heap.size<=bm/\Ext w w':=by
 refine py (e:=[(0,_)]) func56 O ntmps56 O O$ qN O$ OP O O (R6 O (cs:=[ptr m 0]) O) ?_
 rintro _ w1 ⟨bm,rfl,lV,ad,ai⟩
 refine QW O$ qV (ZR (first:=[]) (caps:=[.tmp 1]) O O)$ P3 O$ OI func56 O ?_
 exact⟨_,rfl,bm,rfl,ai,ω,ad⟩
theorem z6u (h:XA w m gi L)(hp:Pre L a)(ha:a<L.length):Ps prog 25 [ptr m 0] w λv w'=>v=I ((L.length-a:Nat):Int)/\Ext w w':=by
 have hn:=h.n
 refine py (e:=[(0,_)]) func25 O ntmps25 O O$ qN O$ QW O$ OP O O (Rz (cs:=[_]) Qe O) ?_
 rintro _ w1 ⟨b3,rfl,dI,ad,au⟩
 refine OY O (QP Qe O O O au ξ) ?_
 rintro w2 ⟨dr,am⟩
 replace dr:OU w2 b3 [I 0] 3:=dr
 have ae:Ext w w2:=ad.It am (λj e=>by omega)
 refine OJ$ PR O$ qV (z5c U67 O O)$ OJ$ OZ O$ Pt O$ Pb zib O (YB w2 m) ?_
 rintro _ w3 ⟨bm,rfl,lV,oo,ah⟩
 have cj:=ae.trans ah
 have eI:=ah.OH dr
 have lL:=h.ext cj
 have l3:=eI.lt
 have l32:=dr.lt
 have lm:=lV.lt
 have lmm:=h.ltm
 have lmg:=h.ltg
 have z1:=ad.size
 refine OJ$ OL$ RI (ps:=[9]) (p:=[]) (q:=[_]) O zhi ?_
 rintro l wl cE eK cD hD Rc bJ du
 have EW:=zaH bJ du
 have zl:=cE.size
 refine Ps.mono (YA (lL.ext cE) hp ha (cE.OH lV)
  (λw'=>Rc .ready none w'/\OU w' b3 [I ((L.length-a:Nat):Int)] 3/\Kp (λk=>k=l\/k=b3) wl w')
  (λw w' h hx=>⟨hx.kp.rc (S:=λ_=>False) bJ h.1 id,hx.OH h.2.1,h.2.2.trans hx.kp⟩) ?_) ?_
 ·intro w4 aG;have j6:=Kp.rc (S:=λ_=>False) aG bJ du id;have ev:=aG.OH (cE.OH eI);have z4:=aG.size;refine Si bJ j6 O O$ OQ O$ OP O O (Rz (cs:=[_,_]) R4 O) ?_;rintro _ w5 ⟨b4,rfl,fX,aV,aM⟩;refine OY O (PL (news:=[I (a:Int),I ((L.length-a:Nat):Int)]) R4 O O O O aM ξ) ?_;rintro w6 ⟨bV,aN⟩;replace bV:OU w6 b4 [I (a:Int),I ((L.length-a:Nat):Int)] 118:=bV;have cS:Ext w4 w6:=aV.It aN (λj e=>by omega);have LO:=Kp.rc (S:=λ_=>False) cS bJ j6 id;have z46:=cS.size;have l4:=bV.lt;refine OJ$ run_beginRound O bJ LO ?_;rintro w7 h7 aB;have kj:=aB.OH (cS.OH ev) ω;have bq:=aB.OH bV ω;refine OL$ OQ O$ qV ((OS U3 O O kj O))$ P4 R9 O$ qV ((OS U3 O O bq O))$ Q4 O ?_;rw[show(0:Int)+((L.length-a:Nat):Int)=((L.length-a:Nat):Int) by omega];refine OY O (QP Qe O O O kj ξ) ?_;rintro w8 ⟨nH,aL⟩;have h8:=Kp.rc aL bJ h7 ω;refine OJ$ OG$ RF bJ h8 ?_;intro w9 h9 aw;have ij:Kp (λk=>k=l\/k=b3) w4 w9:=((cS.kp.trans (aB.ON λk e=> .inl e)).trans (aL.ON λk e=> .inr e)).trans (aw.ON λk e=> .inl e);exact .inl ⟨rfl,⟨h9,aw.OH nH ω,aG.kp.trans ij⟩,ij.OH (aG.OH (cE.OH lV)) ω,((lL.ext cE).ext aG).kp ij ω ω⟩
 ·rintro v wz ⟨rfl,j6,IM,cX⟩;refine⟨_,_,j6,ξ,λwy cY=>?_⟩;have zz:=cX.size;have zy:=cY.size;have LP:=cY.OH IM ω;have jy:=cY.heap (cX.heap hD ω) ω;refine OG$ qN O$ qV (OS U3 O O LP O)$ P3 O$ z3N ξ (Tv jy) func25 O ?_;have z3:=ah.size;have bL:Kp (λk=>k=w3.heap.size) wy (Ro [.mk w3.heap.size] wy):=Q8 wy w3.heap.size (.deferred none);have EX:Kp (λk=>k=l\/k=b3\/k=w3.heap.size) w3 (Ro [.mk w3.heap.size] wy):=((cE.kp.trans (cX.ON λk e=>by omega)).trans (cY.ON λk e=>by omega)).trans (bL.ON λk e=>by omega);exact⟨_,rfl,rfl,cj.It EX (λk e=>by omega)⟩
end
section
variable {w w':World}{m gi a:Nat}{L:List Bool}{S:Nat->Prop}
theorem z4H (h:XA w m gi L)(hp:Pre L a){n:Nat}(df:1<=n)(pN:a+n<=L.length):Ps prog 78 [ptr m 0,I (n:Int)] w λv w'=>v= .tuple #[.agg #[I (a:Int),I (n:Int)],I 0]/\XA w' m gi (Qj L a n true)/\Kp (λk=>k=gi) w w':=by
 have hn:=h.n
 refine py (e:=[(0,_),(1,_)]) func78 O ntmps78 O O$ qN O$ OP O O (R6 O (cs:=[ptr m 0]) O) ?_
 rintro _ w1 ⟨b2,rfl,bN,ad,ak⟩
 refine OP O O (R6 O (cs:=[I (n:Int)]) O) ?_
 rintro _ w2 ⟨b3,rfl,dI,ae,au⟩
 refine OP O O (Rz (cs:=[_,_]) R4 O) ?_
 rintro _ w3 ⟨b4,rfl,fX,ah,aM⟩
 refine OP O O (Rz (cs:=[_]) z3i O) ?_
 rintro _ w4 ⟨b5,rfl,gG,aG,aK⟩
 have l2:=ak.lt
 have l3:=au.lt
 have l4:=aM.lt
 have l5:=aK.lt
 have z1:=ad.size
 have z2:=ae.size
 have z3:=ah.size
 have z4:=aG.size
 have fJ:=aG.OH (ah.OH (ae.OH ak))
 have ev:=aG.OH (ah.OH au)
 have cC:=aG.OH aM
 refine OJ$ QO$ qN O$ qV ((OS U67 O O fJ O))$ qV (Qb U67 O O)$ P3 O$ OR O$ qN O$ qV ((OS U3 O O ev O))$ QV O$ PO$ P3 O$ SO O$ OG ?_
 refine An$ qN O$ qV ((OS U67 O O fJ O))$ Pb zib O (YB w4 m) ?_
 rintro _ w5 ⟨bm,rfl,lV,oo,aV⟩
 have bS:=(((ad.trans ae).trans ah).trans aG).trans aV
 have ss:=h.ext bS
 have lm:=lV.lt
 have lmm:=h.ltm
 have lmg:=h.ltg
 have z5:=aV.size
 refine OJ$ OL$ RI (ps:=[17]) (p:=[]) (q:=[_]) O zhi ?_
 rintro l wl cE eK cD hD Rc bJ du
 have EW:=zaH bJ du
 have zl:=cE.size
 have yp:=aV.trans cE
 refine Ps.mono (YA (ss.ext cE) hp ω (cE.OH lV)
  (λw'=>Rc .done (some .ret) w'/\OU w' b4 [I (a:Int),I (n:Int)] 118/\OU w' b5 [I 0] 44/\XA w' m gi (Qj L a n true)/\Kp (λk=>k=l\/k=b4\/k=b5\/k=gi) wl w')
  (λw w' h hx=>⟨hx.kp.rc (S:=λ_=>False) bJ h.1 id,hx.OH h.2.1,hx.OH h.2.2.1,h.2.2.2.1.ext hx,h.2.2.2.2.trans hx.kp⟩) ?_) ?_
 ·intro w6 aR;have j6:=Kp.rc (S:=λ_=>False) aR bJ du id;have z6:=aR.size;refine Si bJ j6 O O$ OQ O$ OP O O (Rz (cs:=[_,_]) R4 O) ?_;rintro _ w7 ⟨b6,rfl,nD,cm,aX⟩;refine OY O (PL (news:=[I (a:Int),I ((L.length-a:Nat):Int)]) R4 O O O O aX ξ) ?_;rintro w8 ⟨dZ,aL⟩;replace dZ:OU w8 b6 [I (a:Int),I ((L.length-a:Nat):Int)] 118:=dZ;have iF:Ext w6 w8:=cm.It aL (λj e=>by omega);have pO:=Kp.rc (S:=λ_=>False) iF bJ j6 id;have z8:=iF.size;have l6:=dZ.lt;refine OJ$ run_beginRound O bJ pO ?_;rintro w9 h9 aw;have qR:=(yp.trans aR).trans iF;have zE:=aw.OH (qR.OH ev) ω;have EY:=aw.OH (qR.OH fJ) ω;have iL:=aw.OH dZ ω;have LQ:=((((ss.ext cE).ext aR).ext iF).kp aw ω ω);refine OL$ qN O$ P4 R9 O$ qV ((OS U3 O O iL O))$ qV ((OS U3 O O zE O))$ Uh O$ RP$ OJ$ OZ O$ qN O$ qV ((OS U3 O O zE O))$ P4 R9 O$ OY O (QP Qe O O O iL ξ) ?_;rintro w10 ⟨ii,aA⟩;replace ii:OU w10 b6 [I (a:Int),I (n:Int)] 118:=ii;have zF:=aA.OH EY ω;have EZ:=LQ.kp aA ω ω;have eE:=Kp.rc aA bJ h9 ω;refine qM O$ qV (OS U67 O O zF O)$ qV (Pv (news:=[I (a:Int),I (n:Int)]) Xj O R4 O (OU.cells (n:=2) ii O) O)$ Pb ze8 O (z2d EZ a n true pN) ?_;rintro _ w11 ⟨rfl,F0,bu⟩;have zH:=bu.OH ii ω;have zI:=bu.OH (aA.OH (aw.OH (qR.OH cC) ω) ω) ω;have zJ:=bu.OH (aA.OH (aw.OH (qR.OH aK) ω) ω) ω;have pU:=Kp.rc bu bJ eE ω;refine OJ$ Pu.qb (e:=[(4,_),(5,_),(6,_)]) ?_;refine qN O$ qV (Pv (news:=[I (a:Int),I (n:Int)]) Xj O R4 O (OU.cells (n:=2) zH O) O)$ OY O (PL (news:=[I (a:Int),I (n:Int)]) R4 O O O O zI ξ) ?_;rintro w12 ⟨zK,bz⟩;refine OY O (QP z3i O O O (bz.OH zJ ω) ξ) ?_;rintro w13 ⟨zL,dw⟩;have wH:=Kp.rc dw bJ (Kp.rc bz bJ pU ω) ω;refine OJ ?_
  -- AT: Code.ret
  refine Tl bJ wH ?_;intro w14 LR cH
  exact .inr ⟨rfl,LR,cH.OH (dw.OH zK ω) ω,cH.OH zL ω,((F0.kp bz ω ω).kp dw ω ω).kp cH ω ω,
   (((((((aR.kp.trans iF.kp).trans (aw.ON λk e=>by omega)).It aA (λk e=>by omega)).trans (bu.ON λk e=>by omega)).trans (bz.ON λk e=>by omega)).trans (dw.ON λk e=>by omega)).trans (cH.ON λk e=>by omega))⟩
 ·rintro v wz ⟨rfl,j6,F9,qU,LS,cX⟩;refine⟨_,_,j6,ξ,λwy cY=>?_⟩;have zz:=cX.size;have zy:=cY.size;have Fa:=cY.OH F9 ω;have Fb:=cY.OH qU ω;have jy:=cY.heap (cX.heap hD ω) ω;have bL:=Q8 wy w5.heap.size (.deferred none);have LU:=bL.OH Fa ω;have LV:=bL.OH Fb ω;refine Tf ξ (Tv jy) func78 (.cell Xj O R4 O (OU.cells (n:=2) LU (news:=[_,_]) O) O (.cell1 U44 O O ((LV).cell _) .nil)) ?_;have Fc:Kp (λk=>k=gi) w (Ro [.mk w5.heap.size] wy):=((((bS.kp.trans cE.kp).It cX (λk e=>by omega)).It cY (λk e=>by omega)).It bL (λk e=>by omega));exact⟨_,rfl,rfl,(LS.kp cY ω ω).kp bL ω ω,Fc⟩
end
section
variable {w w':World}{m gi:Nat}{L:List Bool}
def z9g (h:XA w m gi L)(s n:Nat)(df:1<=n)(dt:2<=s)(j7:s+n<=L.length):Ps prog 133 [ptr m 0,.agg #[I (s:Int),I (n:Int)]] w λv w'=>v= .bool true/\Ext w w':=by
 have hn:=h.n
 refine py (e:=[(0,_),(1,_)]) func133 O ntmps133 O O$ qN O$ OP O O (R6 O (cs:=[I (s:Int),I (n:Int)]) O) ?_
 rintro _ w1 ⟨b3,rfl,dI,ad,au⟩
 have hg:=Ext.Pa w1
 have uI:=(h.ext ad).OH
 refine P3 O$ An$ R0 (λw'=>Ext w1 w') O$ OM 0 O (Px R9 O) hg$ qT 1 O (λ_ h=>(OS U3 O O (h.OH au) O)) hg$ OM 2 O (yge O O) hg$ TN$ P8 3 O O (hg)$ OM 4 O (Px QX O) hg$ qT 5 O (λ_ h=>(OS U3 O O (h.OH au) O)) hg$ P8 6 O O (hg)$ OM 7 O (Qd O) hg$ OM 8 O (Px z8l O) hg$ qT 9 O (λ_ h=>(OS U3 O O (h.OH uI) O)) hg ?_
 refine OM 10 O (yge O O) hg$ TN$ OM 11 O (UG O O) hg$ P8 12 O O (hg)$ OM 13 O (Px QX O) hg$ qT 14 O (λ_ h=>(OS U3 O O (h.OH au) O)) hg$ P8 15 O O (hg)$ OM 16 O (Qd O) hg$ OM 17 O (Px Vc O) hg$ qT 18 O (λ_ h=>(OS VE O O (h.OH uI) O)) hg$ OM 19 O (SI VE O) hg$ OM 20 O (ylt O O) hg$ TN$ OM 21 O (UG O O) hg ?_
 refine P8 22 O O (hg)$ OM 23 O (Px R9 O) hg$ qT 24 O (λ_ h=>(OS U3 O O (h.OH au) O)) hg$ P8 25 O O (hg)$ OM 26 O (Qd O) hg$ OM 27 O (Px Vc O) hg$ qT 28 O (λ_ h=>(OS VE O O (h.OH uI) O)) hg$ OM 29 O (SI VE O) hg$ OM 30 O (Px QX O) hg$ qT 31 O (λ_ h=>(OS U3 O O (h.OH au) O)) hg$ OM 32 O (XG O O ω) hg$ OM 33 O (Z3 O O) hg$ TN$ OM 34 O (UG O O) hg ?_
 refine OM 35 O (Rv O) hg$ qE$ Pu.qb (e:=[(4,_)]) ?_
 refine OI func133 O ?_
 exact⟨_,rfl,rfl,ad.trans hg⟩
def z5w {b5:Nat}(c d:Bool)(hB:OU w b5 [stV d] 190)(C8:c=d):Ps prog 168 [stV c,ptr b5 0] w λv w'=>v= .bool false/\w'=w:=by
 subst C8
 cases c with
 | true =>
   replace hB:OU w b5 [.int .u8 1] 190:=hB;show Ps prog 168 [.int .u8 1,ptr b5 0] w _;refine py (e:=[(0,_),(1,_)]) func168 O ntmps168 O O$ qN O$ R3 O$ qV (OS zbc O O hB O)$ QF O$ PO$ P3 O$ OI func168 O ?_
   exact⟨_,rfl,rfl,rfl⟩
 | false =>
   replace hB:OU w b5 [.int .u8 0] 190:=hB;show Ps prog 168 [.int .u8 0,ptr b5 0] w _;refine py (e:=[(0,_),(1,_)]) func168 O ntmps168 O O$ qN O$ R3 O$ qV (OS zbc O O hB O)$ QF O$ PO$ P3 O$ OI func168 O ?_;exact⟨_,rfl,rfl,rfl⟩
def z8H {b5 b o n cap:Nat}(hn:n<=4096)(c:Bool)(hB:OU w b5 [stV c] 190)(hR:Rd w (.slice (some ⟨b,o,none⟩) n cap) 1 n (List.replicate n (stV c))):
  Ps prog 192 [.slice (some ⟨b,o,none⟩) n cap,.func (.func 168) #[] #[ptr b5 0]] w λv w'=>v=I (-1)/\w'=w:=by
 refine py (e:=[(0,_),(1,_)]) func192 O ntmps192 O O$ QN O$ PR O$ RO VE O$ OT O$ OJ$ OL$ RN (α:=Nat) (0) (λi=>[(0,.slice (some ⟨b,o,none⟩) n cap),(1,.func (.func 168) #[] #[ptr b5 0]),(7,I (n:Int)),(8,I (i:Int))]) (λi w'=>w'=w/\i<=n) (λi=>n-i) ?hI ?hround
 case hI=>exact⟨rfl,Nat.zero_le _⟩
 case hround=>
  rintro i w1 ⟨rfl,hi⟩ ih
  try dsimp only
  refine qN O$ QV O$ OJ$ An$ OX O (λh0=>?_)$ λh0=>?_
  ·refine OK$ QO$ Pt O$ QW O$ Pl O$ OT O$ qV (Qc VE z2J O O ω)$ qV (PC (v:=stV c) zbc O O (PY hR (by rw[List.getElem?_replicate,if_pos ω]))) ?_;refine Qw O O (RW zj9 O O) (z5w c c hB O) ?_;rintro _ w1 ⟨rfl,rfl⟩;refine Qm O$ OG$ OQ O$ Q4 O$ OT O$ OJ ?_;exact(ih (i+1) _ ⟨rfl,ω⟩ ω).qb
  ·refine OV O$ QN O$ OI func192 O ?_;exact⟨_,rfl,rfl,rfl⟩
def z8P {b5 b o n cap:Nat}(hn:n<=4096)(c:Bool)(hB:OU w b5 [stV c] 190)(hR:Rd w (.slice (some ⟨b,o,none⟩) n cap) 1 n (List.replicate n (stV c))):
  Ps prog 167 [.slice (some ⟨b,o,none⟩) n cap,.func (.func 168) #[] #[ptr b5 0]] w λv w'=>v= .bool false/\w'=w:=by
 refine py (e:=[(0,_),(1,_)]) func167 O ntmps167 O O$ qN O$ QW O$ Pl O$ Pb zit O (z8H hn c hB hR) ?_
 rintro _ w ⟨rfl,rfl⟩
 refine Uh O$ PO$ P3 O$ OI func167 O ?_
 exact⟨_,rfl,rfl,rfl⟩
def z9s (h:XA w m gi L)(s n:Nat)(c:Bool)(df:1<=n)(j7:s+n<=L.length)(hc:∀i,s<=i->i<s+n->L[i]? =some c):Ps prog 134 [ptr m 0,.agg #[I (s:Int),I (n:Int)],stV c] w λv w'=>v= .bool true/\Ext w w':=by
 have hn:=h.n
 refine py (e:=[(0,_),(1,_),(2,_)]) func134 O ntmps134 O O$ qN O$ OP O O (R6 O (cs:=[I (s:Int),I (n:Int)]) O) ?_
 rintro _ w1 ⟨b4,rfl,fX,ad,aM⟩
 refine OP O O (R6 O (cs:=[stV c]) (by cases c<;>rfl)) ?_
 rintro _ w2 ⟨b5,rfl,gG,ae,aK⟩
 have hg:=Ext.Pa w2
 have aF:=ad.trans ae
 have uI:=(h.ext aF).OH
 have bB:=ae.OH aM
 have eu:=(h.ext aF).ext hg
 refine P3 O$ An$ R0 (λw'=>Ext w2 w') O$ P8 0 O O (hg)$ OM 1 O (Qd O) hg$ OM 2 O (Px Vc O) hg$ qT 3 O (λ_ h=>(OS VE O O (h.OH uI) O)) hg$ OM 4 O (Px QX O) hg$ qT 5 O (λ_ h=>(OS U3 O O (h.OH bB) O)) hg$ OM 6 O (Px QX O) hg$ qT 7 O (λ_ h=>(OS U3 O O (h.OH bB) O)) hg$ OM 8 O (Px R9 O) hg$ qT 9 O (λ_ h=>(OS U3 O O (h.OH bB) O)) hg$ OM 10 O (UN O O ω) hg ?_
 refine OM 12 O (ZR (first:=[]) (caps:=[.tmp 5]) O O) hg ?_
 rw[show(s:Int)+(n:Int)=((s+n:Nat):Int) by omega]
 refine OM 11 O (zfi (i:=s) (j:=s+n) VE z2J O O O ω ω) hg ?_
 rw[show s+n-s=n by omega]
 have hR:Rd w2.drew (.slice (some ⟨gi,0+s*1,none⟩) n (L.length-s)) 1 n (List.replicate n (stV c)):=by
  have h1:=UX (TO eu.sl.rd (i:=s) ω (Nat.le_refl _)) (i:=n) ω;rw[if_neg ω] at h1
  have e:((L.map stV).drop s).take n=List.replicate n (stV c):=by
   apply List.ext_getElem?;intro i;rw[List.getElem?_take,List.getElem?_drop,List.getElem?_map,List.getElem?_replicate];by_cases hi:i<n
   ·rw[if_pos hi,if_pos hi,hc (s+i) ω ω];rfl
   ·rw[if_neg hi,if_neg hi]
  rw[e] at h1
  have e2:(some (⟨gi,0,none⟩:Addr)).map (λx=>x.add (s*1))=some ⟨gi,0+s*1,none⟩:=by
   show some (Addr.add _ _)=_;unfold Addr.add;split
   ·rename_i h0;rw[h0]
   ·rfl
  rw[e2] at h1;exact h1
 refine S1 13 O zga O (z8P ω c ((hg.OH aK)) hR) ?_
 rintro _ w3 ⟨rfl,rfl⟩
 refine⟨hg,?_⟩
 refine OM 14 O ((S5 O)) hg$ OM 15 O (Rv O) hg$ qE$ OI func134 O ?_
 exact⟨_,rfl,rfl,aF.trans hg⟩
def z5H (h:XA w m gi L)(s n:Nat)(df:1<=n)(dt:2<=s)(j7:s+n<=L.length)(hc:∀i,s<=i->i<s+n->L[i]? =some true):Ps prog 92 [ptr m 0,.agg #[I (s:Int),I (n:Int)]] w λv w'=>v=I 0/\XA w' m gi (Qj L s n false)/\Kp (λk=>k=gi) w w':=by
 refine py (e:=[(0,_),(1,_)]) func92 O ntmps92 O O$ qN O$ OP O O (R6 O (cs:=[I (s:Int),I (n:Int)]) O) ?_
 rintro _ w1 ⟨b3,rfl,dI,ad,au⟩
 have h1:=h.ext ad
 have l3:=au.lt
 have lg:=h.ltg
 refine P3 O$ QO$ Pt O$ qV (Qb U67 O O)$ P3 O$ OR O$ Pt O$ qV (Pv (news:=[I (s:Int),I (n:Int)]) Xj O R4 O (OU.cells (n:=2) au O) O)$ Pb zh6 O (z9g h1 s n df dt j7) ?_
 rintro _ w2 ⟨rfl,ae⟩
 have h2:=h1.ext ae
 have dr:=ae.OH au
 refine qV ((S5 O))$ Pl O$ qV (Pv (news:=[I (s:Int),I (n:Int)]) Xj O R4 O (OU.cells (n:=2) dr O) O)$ Pb ziU O (z9s h2 s n true df j7 hc) ?_
 rintro _ w3 ⟨rfl,ah⟩
 have h3:=h2.ext ah
 have eI:=ah.OH dr
 have uI:=h3.OH
 refine qV ((S5 O))$ PT O$ P3 O$ OR O$ Pt O$ Pw O$ P4 zd9 O$ qV (OS U4 O O uI O)$ P3 O$ OR O ?_
 have eI:=ah.OH dr
 refine Rp O$ qV (Pv (news:=[I (s:Int),I (n:Int)]) Xj O R4 O (OU.cells (n:=2) eI O) O)$ Pb ze8 O (z2d h3 s n false j7) ?_
 rintro _ w4 ⟨rfl,h4,ar⟩
 refine OJ$ Pu.qb (e:=[(4,_)]) ?_
 refine OG$ QN O$ OI func92 O ?_
 exact⟨_,rfl,rfl,h4,((ad.trans ae).trans ah).kp.trans ar⟩
end
structure Dev where
 due:Int
 Ss:List Int
 zcC:Int
 mask:UInt8
 B:Nat
 N:Nat
 sf:Int->Option OO
 cache:List (Int×OO)
 down:Bool
 calls:Int
 reads:Int
def zeros (n:Nat):OO:=List.replicate n 0
def Dev.kept (D:Dev)(n:Int):OO:=(D.sf n).getD (zeros (512*D.N))
def WB (l:List (Int×OO))(n:Int):Option OO:=(l.reverse.find? λx=>x.1==n).map (·.2)
def Dev.now (D:Dev)(n:Int):OO:=(WB D.cache n).getD (D.kept n)
def Dev.has (D:Dev)(n:Int):Bool:=decide (0<=n/\n<(D.B:Int))
def Dev.count (D:Dev):Dev:={D with calls:=D.calls+1,due:=if D.due=0 then 0 else D.due-1}
structure Dev.Ok (D:Dev):Prop where
 hB:16<=D.B/\D.B<=4096
 hN:1<=D.N/\D.N<=8
 due:0<=D.due/\D.due<=9223372036854775807
 sf:∀n s,D.sf n=some s->0<=n/\n<(D.B:Int)/\s.length=512*D.N
 cache:∀x∈D.cache,0<=x.1/\x.1<(D.B:Int)/\x.2.length=512*D.N
 len:0<=D.calls
 reads:True
def Dev.Bd (D:Dev):Prop:=D.calls<1000000000000/\D.cache.length<1000000000000/\True
def wr (x:Int×OO):List Value:=[I x.1,S x.2]
def wrs (l:List (Int×OO)):List Value:=l.flatMap wr
@[simp] theorem wrs_length (l:List (Int×OO)):(wrs l).length=l.length*2:=by
 induction l with
 |nil=>rfl
 |cons x r ih=>simp[wrs,wr,List.flatMap_cons] at ih⊢;omega
def YI (kp ca:Value)(m:Nat)(D:Dev):List Value:=[I D.due,kp,I D.zcC,Tz D.mask,I (D.B:Int),I (D.N:Int),.map (some m),ca,.bool D.down,I D.calls,I D.reads]
@[simp] theorem devCs_length (kp ca:Value) (m:Nat) (D:Dev):(YI kp ca m D).length=11:=rfl
abbrev KI:Int->Value:=λz=> .int .i64 z
structure S2 (w:World)(p m:Nat)(kp ca:Value)(D:Dev):Prop where
 OH:OU w p (YI kp ca m D) 104
 map:∃kv,Wp KI w m kv/\∀n,Re kv n=(D.sf n).map S
 cache:Sl w ca 313 2 D.cache.length (wrs D.cache)
 Ss:Sl w kp 3 1 D.Ss.length (D.Ss.map I)
 ok:D.Ok
def fpD (p m:Nat)(kp ca:Value):Nat->Prop:=λk=>k=p\/k=m\/ca.ownBlock=some k\/kp.ownBlock=some k
def Wc (w:World)(p:Nat)(D:Dev)(F:Nat->Prop):Prop:=∃m kp ca,S2 w p m kp ca D/\∀k,F k↔fpD p m kp ca k
def Upd (F F':Nat->Prop)(w w':World):Prop:=Kp F w w'/\∀k,F' k->F k\/w.heap.size<=k
theorem Upd.trans {F F' F'':Nat->Prop}{a b c:World}(h:Upd F F' a b)(k:Upd F' F'' b c):Upd F F'' a c:=
 ⟨h.1.It k.1 λi hi=>(h.2 i hi).symm,λi hi=>by
  rcases k.2 i hi with h'|h'
  ·exact h.2 i h'
  ·exact .inr (Nat.le_trans h.1.size h')⟩
theorem Ext.Zb {F:Nat->Prop}{w w':World}(h:Ext w w'):Upd F F w w':=⟨h.kp,λ_ h=> .inl h⟩
theorem S2.pm {w:World}{p m:Nat}{kp ca:Value}{D:Dev}(h:S2 w p m kp ca D):¬p=m:=λe=>by
 obtain⟨kv,⟨⟨es,c,hh,-⟩,-⟩,-⟩:=h.map
 obtain⟨fz,hb,-⟩:=h.OH
 rw[e] at hb;rw[hb] at hh;cases hh
def Tu {w:World}{v:Value}{e size n:Nat}{cs:List Value}{b:Nat}(h:Sl w v e size n cs)(hb:v.ownBlock=some b):∃xs fz,w.heap[b]? =some (.cells xs e fz):=by
 rcases h.2 with⟨hz,-⟩|⟨g,cap,cur,hv,-,hg,-⟩
 ·rw[hz] at hb;cases hb
 ·rw[hv] at hb;cases hb;exact⟨_,_,hg⟩
def S2.kp {S:Nat->Prop}{w w':World}{p m:Nat}{kp ca:Value}{D:Dev}(h:S2 w p m kp ca D)(k:Kp S w w')(hn:∀i,fpD p m kp ca i->¬S i):S2 w' p m kp ca D:=
 ⟨k.OH h.OH (hn p (.inl O)),let ⟨kv,h1,h2⟩:=h.map;⟨kv,k.map h1 (hn m (.inr (.inl O))),h2⟩,h.cache.kp k λg hg=>hn g (.inr (.inr (.inl hg))),h.Ss.kp k λg hg=>hn g (.inr (.inr (.inr hg))),h.ok⟩
def S2.ext {w w':World}{p m:Nat}{kp ca:Value}{D:Dev}(h:S2 w p m kp ca D)(k:Ext w w'):S2 w' p m kp ca D:=h.kp k λ_ _=>id
theorem Dev.Ok.count {D:Dev}(h:D.Ok):D.count.Ok:=by
 have:=h.due
 have:=h.len
 refine⟨h.hB,h.hN,?_,h.sf,h.cache,?_,h.reads⟩
 ·simp only[Dev.count];split<;>omega
 ·simp only[Dev.count];omega
def S2.turn {w w':World}{p m:Nat}{kp ca:Value}{D D':Dev}(h:S2 w p m kp ca D)(hb:OU w' p (YI kp ca m D') 104)(k:Kp (λi=>i=p) w w')(h1:D'.sf=D.sf)(h2:D'.cache=D.cache)(h3:D'.Ss=D.Ss)(h4:D'.N=D.N)(ay:D'.Ok):S2 w' p m kp ca D':=by
 obtain⟨fz,hp,-⟩:=h.OH
 refine⟨hb,let ⟨kv,hm,hs⟩:=h.map;⟨kv,k.map hm λe=>h.pm e.symm,by rw[h1];exact hs⟩,?_,?_,ay⟩
 ·rw[h2];refine h.cache.kp k λg hg qW=>?_;obtain⟨xs,fz',hx⟩:=Tu h.cache hg;rw[qW,hp] at hx;cases hx
 ·rw[h3];refine h.Ss.kp k λg hg qW=>?_;obtain⟨xs,fz',hx⟩:=Tu h.Ss hg;rw[qW,hp] at hx;cases hx
def Zb (f:Int->Option OO)(n:Int)(s:OO):Int->Option OO:=λx=>if x=n then some s else f x
def z8Z (c:OO)(i:Nat)(x:OO):OO:=c.take i++x++c.drop (i+x.length)
def mixN (mask:UInt8)(a b:OO):Nat->OO
 |0=>a
 |s+1=>if mask.toNat / 2^s%2=1 then z8Z (mixN mask a b s) (512*s) ((b.drop (512*s)).take 512) else mixN mask a b s
theorem z4k (c x:OO)(i:Nat)(h:i+x.length<=c.length):(z8Z c i x).length=c.length:=by
 simp[z8Z];omega
def WG (mask:UInt8)(a b:OO)(N:Nat)(ha:a.length=512*N)(hb:b.length=512*N):∀s,s<=N->(mixN mask a b s).length=512*N
 |0,_=>ha
 | s + 1, h => by
   have ih:=WG mask a b N ha hb s ω;simp only[mixN];split
   ·rw[z4k _ _ _ (by simp[ih];omega),ih]
   ·exact ih
def Dev.fallTo (D:Dev)(l:List Int)(tn:Int)(mk:UInt8):Nat->(Int->Option OO)
 |0=>D.sf
 | i + 1 => match D.cache[i]? with
   |none=>D.fallTo l tn mk i
   | some x => if (i : Int) = tn then Zb (D.fallTo l tn mk i) x.1 (mixN mk (((D.fallTo l tn mk i) x.1).getD (zeros (512 * D.N))) x.2 D.N)
     else if(i:Int)∈l then Zb (D.fallTo l tn mk i) x.1 x.2 else D.fallTo l tn mk i
def Dev.zaG (D:Dev)(l:List Int)(tn:Int)(mk:UInt8):Dev:=
 {D with sf:=D.fallTo l tn mk D.cache.length,cache:=[],due:=0,Ss:=[],zcC:=0,mask:=0,down:=true}
theorem Dev.Ok.put {D:Dev}(h:D.Ok){n:Int}{s:OO}(hn:0<=n/\n<(D.B:Int))(hs:s.length=512*D.N):Dev.Ok {D with sf:=Zb D.sf n s}:=
 ⟨h.hB,h.hN,h.due,λx t hx=>by
  simp only[Zb] at hx;split at hx
  ·rename_i e
   cases hx;exact⟨ω,by rw[e];exact hn.2,hs⟩
  ·exact h.sf x t hx,h.cache,h.len,h.reads⟩
theorem Dev.Ok.kept {D:Dev}(h:D.Ok)(n:Int):(D.kept n).length=512*D.N:=by
 unfold Dev.kept
 cases hs:D.sf n with
 |none=>simp[zeros]
 |some s=>exact(h.sf n s hs).2.2
theorem S2.put {w w':World}{p m:Nat}{kp ca:Value}{D:Dev}{kv:List (Int×Value)}{n:Int}{s:OO}(h:S2 w p m kp ca D)(hs:∀n,Re kv n=(D.sf n).map S)(hm:Wp KI w' m (putL kv n (S s)))(k:Kp (λi=>i=m) w w')
  (ay:Dev.Ok {D with sf:=Zb D.sf n s}):S2 w' p m kp ca {D with sf:=Zb D.sf n s}:=by
 obtain⟨kv0,⟨⟨es,c,hh,-⟩,-⟩,-⟩:=h.map
 refine⟨k.OH h.OH h.pm,⟨_,hm,λx=>?_⟩,?_,?_,ay⟩
 ·rw[zbj,hs x];simp only[Zb];split<;>rfl
 ·refine h.cache.kp k λg hg qW=>?_;obtain⟨xs,fz',hx⟩:=Tu h.cache hg;rw[qW,hh] at hx;cases hx
 ·refine h.Ss.kp k λg hg qW=>?_;obtain⟨xs,fz',hx⟩:=Tu h.Ss hg;rw[qW,hh] at hx;cases hx
def Rd.kpm {w w':World}{v:Value}{size n m:Nat}{cs:List Value}{kv:List (Int×Value)}(h:Rd w v size n cs)(hm:Wp KI w m kv)(k:Kp (λi=>i=m) w w'):Rd w' v size n cs:=by
 obtain⟨h1,h2⟩:=h
 refine⟨h1,h2.imp id λ⟨b,off,cap,hv,hc⟩=>⟨b,off,cap,hv,λj u hj=>?_⟩⟩
 have BE:=hc j u hj
 obtain⟨⟨es,c,hh,-⟩,-⟩:=hm
 have bD:¬b=m:=λe=>by
  rw[e] at BE;simp[World.cell?,hh] at BE
 have aS:b<w.heap.size:=by
  rcases Nat.lt_or_ge b w.heap.size with h'|h'
  ·exact h'
  ·simp[World.cell?,Array.getElem?_eq_none h'] at BE
 rw[<-BE]
 simp only[World.cell?,k.block b aS bD]
def S2.zhz {w:World}{p m:Nat}{kp ca:Value}{D:Dev}(h:S2 w p m kp ca D){g:Nat}(hg:ca.ownBlock=some g):¬g=p/\¬g=m/\¬kp.ownBlock=some g:=by
 obtain⟨xs,fz',hx⟩:=Tu h.cache hg
 refine⟨λe=>?_,λe=>?_,λe=>?_⟩
 ·obtain⟨fz,hb,-⟩:=h.OH;rw[e,hb] at hx;cases hx
 ·obtain⟨kv,⟨⟨es,c,hh,-⟩,-⟩,-⟩:=h.map;rw[e,hh] at hx;cases hx
 ·obtain⟨ys,fy,hy⟩:=Tu h.Ss e;rw[hx] at hy;cases hy
def S2.zgV {w:World}{p m:Nat}{kp ca:Value}{D:Dev}(h:S2 w p m kp ca D){g:Nat}(hg:kp.ownBlock=some g):¬g=p/\¬g=m/\¬ca.ownBlock=some g:=by
 obtain⟨xs,fz',hx⟩:=Tu h.Ss hg
 refine⟨λe=>?_,λe=>?_,λe=>?_⟩
 ·obtain⟨fz,hb,-⟩:=h.OH;rw[e,hb] at hx;cases hx
 ·obtain⟨kv,⟨⟨es,c,hh,-⟩,-⟩,-⟩:=h.map;rw[e,hh] at hx;cases hx
 ·obtain⟨ys,fy,hy⟩:=Tu h.cache e;rw[hx] at hy;cases hy
def S2.lt {w:World}{p m:Nat}{kp ca:Value}{D:Dev}(h:S2 w p m kp ca D):∀k,fpD p m kp ca k->k<w.heap.size:=by
 intro k hk
 rcases hk with rfl|rfl|hc|hc
 ·exact h.OH.lt
 ·obtain⟨kv,hm,-⟩:=h.map;exact hm.lt
 ·exact h.cache.lt hc
 ·exact h.Ss.lt hc
def Wc.kp {S F:Nat->Prop}{w w':World}{p:Nat}{D:Dev}(h:Wc w p D F)(k:Kp S w w')(hn:∀i,F i->¬S i):Wc w' p D F:=by
 obtain⟨m,kp,ca,h1,h2⟩:=h
 exact⟨m,kp,ca,h1.kp k λi hi=>hn i ((h2 i).2 hi),h2⟩
def Wc.ext {F:Nat->Prop}{w w':World}{p:Nat}{D:Dev}(h:Wc w p D F)(k:Ext w w'):Wc w' p D F:=h.kp k λ_ _=>id
def Wc.lt {F:Nat->Prop}{w:World}{p:Nat}{D:Dev}(h:Wc w p D F):∀k,F k->k<w.heap.size:=by
 obtain⟨m,kp,ca,h1,h2⟩:=h
 intro k hk
 rcases (h2 k).1 hk with rfl|rfl|hc|hc
 ·exact h1.OH.lt
 ·obtain⟨kv,hm,-⟩:=h1.map;exact hm.lt
 ·exact h1.cache.lt hc
 ·exact h1.Ss.lt hc
def ZW (n:Nat):((List.replicate n (Value.int .u8 0)).drop 0).take n=(zeros n).map Tz:=by
 simp[zeros,Tz]
section
variable {w:World}{p m:Nat}{kp ca:Value}{D:Dev}
def z6a (h:S2 w p m kp ca D):Ps prog 125 [ptr p 0] w λv w'=>v=I (D.B:Int)/\w'=w:=by
 have hM:=h.OH
 refine py (e:=[(0,_)]) func125 O ntmps125 O O$ QN O$ PR O$ qV (Qb U26 O O)$ Qm O$ Pt O$ Pw O$ P4 z0r O$ P4 Zq O$ qV (OS U3 O O hM O)$ P3 O$ OI func125 O ?_
 exact⟨_,rfl,rfl,rfl⟩
def z1j (h:S2 w p m kp ca D):Ps prog 77 [ptr p 0] w λv w'=>v=I ((512*D.N:Nat):Int)/\w'=w:=by
 have hM:=h.OH
 have hN:=h.ok.hN
 refine py (e:=[(0,_)]) func77 O ntmps77 O O$ QN O$ PR O$ qV (Qb U26 O O)$ Qm O$ Pt O$ Pw O$ P4 z0r O$ P4 ZF O$ qV (OS U3 O O hM O)$ qV (Y8 O O ω)$ P3 O$ OI func77 O (⟨_,rfl,?_,rfl⟩)
 show I _=I _
 congr 1;omega
def z2k (h:S2 w p m kp ca D):Ps prog 178 [ptr p 0] w λv w'=>v=I (if D.down then 8 else 0)/\w'=w:=by
 have hM:=h.OH
 refine py (e:=[(0,_)]) func178 O ntmps178 O O$ QN O$ QO$ Pt O$ qV (Qb U26 O O)$ P3 O$ OR O$ Pt O$ Pw O$ P4 z3z O$ qV (OS U4 O O hM O)$ P3 O$ Qk O (λhd=>?_)$ λhd=>?_
 ·refine QN O$ OI func178 O ?_;exact⟨_,rfl,by simp[hd,Q0],rfl⟩
 ·refine OK$ OG$ QN O$ OI func178 O ?_;exact⟨_,rfl,by simp[hd,Q0],rfl⟩
def z8r (n:Int)(h:S2 w p m kp ca D):Ps prog 179 [ptr p 0,I n] w λv w'=>v= .bool (D.has n)/\w'=w:=by
 have hM:=h.OH
 refine py (e:=[(0,_),(1,_)]) func179 O ntmps179 O O$ qN O$ R3 O$ Uh O$ Su (λh1=>?_)$ λh1=>?_
 ·refine Pl O$ OT O$ Pw O$ P4 z0r O$ P4 Zq O$ qV (OS U3 O O hM O)$ QV O$ Ra O$ P3 O$ OI func179 O (⟨_,rfl,?_,rfl⟩);simp[Dev.has,h1,Q0]
 ·refine OT O$ QY$ QY$ QY$ qS$ PT O$ P3 O$ OI func179 O (⟨_,rfl,?_,rfl⟩);simp[Dev.has,h1,Q0]
def z3S (n:Int)(h:S2 w p m kp ca D):Ps prog 201 [ptr p 0,I n] w λv w'=>v=S (D.kept n)/\Ext w w':=by
 have hM:=h.OH
 have hN:=h.ok.hN
 have fA:maxLen=9223372036854775807:=rfl
 obtain⟨kv,ot,nM⟩:=h.map
 refine py (e:=[(0,_),(1,_)]) func201 O ntmps201 O O$ QN O$ PR O$ Pw O$ P4 z3v O$ qV (OS U97 O O hM O)$ OT O$ qV (zk7 (k:=n) (K:=KI) U97 (Sc U3) ti9 O O ot) ?_
 rw[nM n]
 cases hs:D.sf n with
 | some s =>
   refine OT O$ SM O$ SH O$ R3 O$ OJ$ OZ O$ Pt O$ P3 O$ OI func201 O ?_
   exact⟨_,rfl,by simp[Dev.kept,hs,Q0],Ext.refl w⟩
 | none =>
   refine OT O$ SM O$ SH O$ R3 O$ Qm O$ Pt O$ Pb zeK O (z1j h) ?_;rintro _ w1 ⟨rfl,rfl⟩;refine OP O O (pmk (c:=512*D.N) (n:=512*D.N) SL Y9 O O O ω ω ω) ?_;rintro _ w1 ⟨b1,rfl,⟨bK,ad,ai⟩,-⟩;refine qV (z9H (l:=zeros (512*D.N)) SL U5 U9 O ai (ZW _) (by simp[zeros])) ?_;refine P3 O$ OI func201 O ?_;exact⟨_,rfl,by simp[Dev.kept,hs,Q0],ad⟩
def z5e (h:S2 w p m kp ca D)(hc:D.calls<1000000000000):Ps prog 198 [ptr p 0] w λv w'=>v= .bool (decide (D.due=1))/\S2 w' p m kp ca D.count/\Kp (λk=>k=p) w w':=by
 have hM:=h.OH
 have qX:=h.ok.due
 have aJ:=h.ok.len
 refine py (e:=[(0,_)]) func198 O ntmps198 O O$ qN O$ R3 O$ Pw O$ P4 z8s O$ qV (OS U3 O O hM O)$ Q4 O$ Pw O$ P4 z8s O$ OY O (QP Qe O O O hM ξ) ?_
 rintro w1 ⟨dA,az⟩
 refine OJ$ PR O$ Pw O$ P4 WS O$ P4 z0l O$ qV (OS U3 O O dA O)$ Rk O$ OJ$ OX O (λh0=>?_)$ λh0=>?_
 ·refine QN O$ OI func198 O ?_;have e0:(YI kp ca m D).set (0+9) (I (D.calls+1))=YI kp ca m D.count:=by simp[YI,Dev.count,h0]
  rw[e0] at dA;exact⟨_,rfl,by simp[Q0];omega,h.turn dA az O O O O h.ok.count,az⟩
 ·refine OK$ Pt O$ Pw O$ P4 WS O$ P4 z0l O$ qV (OS U3 O O dA O)$ Rt O$ Pw O$ P4 WS O$ P4 z0l O$ OY O (QP Qe O O O dA ξ) ?_;rintro w2 ⟨jU,am⟩;refine qM O$ OT O$ Pw O$ P4 WS O$ P4 z0l O$ qV (OS U3 O O jU O)$ Rk O$ P3 O$ Pu.qb (e:=[(2,_)]) ?_;refine OI func198 O ?_;have e0:((YI kp ca m D).set (0+9) (I (D.calls+1))).set (0+0+0) (I (D.due-1))=YI kp ca m D.count:=by simp[YI,Dev.count,h0]
  rw[e0] at jU;exact⟨_,rfl,by simp[Q0];omega,h.turn jU (az.trans am) O O O O h.ok.count,az.trans am⟩
end
theorem z7s (xs:List (Int×OO))(j:Nat)(h:j<xs.length):((wrs xs).drop (j*2)).take 2=wr xs[j]:=by
 induction xs generalizing j with
 |nil=>simp at h
 | cons x r ih =>
   cases j with
   |zero=>simp[wrs,wr,List.flatMap_cons]
   | succ j =>
     have e:(wrs (x::r))=I x.1::S x.2::wrs r:=by simp[wrs,wr,List.flatMap_cons]
     rw[e,show(j+1)*2=(j*2)+1+1 by omega]
     simpa using ih j (by simpa using h)
def z0F (a:Option Addr)(n cap:Nat)(w:World):Ps prog 200 [.slice a n cap] w λv w'=>∃b,v= .func (.func 218) #[] #[ptr b 0]/\z0d w b [.slice a n cap] 102 w':=by
 refine py (e:=[(0,_)]) func200 O ntmps200 O O$ qN O$ OP O O (R6 O O) ?_
 rintro _ w1 ⟨b1,rfl,hN⟩
 refine QW O$ qV (ZR (first:=[]) (caps:=[.tmp 1]) O O)$ P3 O$ OI func200 O ?_
 exact⟨_,rfl,_,rfl,hN⟩
def z2W (l bx:Nat)(ca:Value)(xs:List (Int×OO))(J:Nat->World->Prop)(Jx:World->Prop)(w:World)(hn:xs.length<4611686018427387904)
  (hJ:∀i w,J i w->(∃T,OU w bx [ca] T)/\Sl w ca 313 2 xs.length (wrs xs))
  (hround:∀i w x,xs.reverse[i]? =some x->J i w->z26 prog l [I ((xs.length:Int)-1-i),.agg (wr x).toArray] w λv w'=>(v= .bool true/\J (i+1) w')\/(v= .bool false/\Jx w')) (h0:J 0 w):
  Ps prog 218 [.func (.yield l) #[] #[],ptr bx 0] w λv w'=>v= .tuple #[]/\(J xs.length w'\/Jx w'):=by
 obtain⟨⟨T,hM⟩,hS⟩:=hJ 0 w h0
 obtain⟨a,cap,rfl,ha⟩:=hS.rd.shape
 refine py (e:=[(0,_),(1,_)]) func218 O ntmps218 O O$ qN O$ qV (OS z1H O O hM O)$ RO z1H O$ Rt O$ P3 O$ OL ?_
 rw[show(xs.length:Int)-1=(xs.length:Int)-1-((0:Nat):Int) by omega]
 refine RN (α:=Nat) (0) (λi=>[(0,.func (.yield l) #[] #[]),(1,ptr bx 0),(3,I ((xs.length:Int)-1-i))]) (λi w=>i<=xs.length/\J i w) (λi=>xs.length-i) ?hI ?hround
 case hI=>exact⟨ω,h0⟩
 case hround=>
  rintro i w1 ⟨hi,hj⟩ ih
  try dsimp only
  obtain⟨⟨T1,dA⟩,jT⟩:=hJ i w1 hj;refine PR O$ Uh O$ OJ$ OX O (λkh=>?_)$ λkh=>?_
  ·have aS:i<xs.length:=by omega
   have BC:=jT.shape;rcases BC with⟨-,h⟩|⟨gb,cap',ma,kg⟩
   ·omega
   cases ma;obtain⟨x,hx⟩:∃x,xs.reverse[i]? =some x:=⟨_,List.getElem?_eq_getElem (by simpa using aS)⟩
   have fV:((wrs xs).drop ((xs.length-1-i)*2)).take 2=wr x:=by
    rw[z7s xs _ ω]
    congr 1
    rw[List.getElem?_reverse aS,List.getElem?_eq_getElem ω] at hx;exact RB hx
   have hz:((xs.length:Int)-1-i)=((xs.length-1-i:Nat):Int):=by omega
   have hy:=hround i w1 x hx hj;rw[hz] at hy⊢;refine OK$ QO$ QI O$ qV (OS z1H O O dA O)$ OT O$ qV (Qc z1H WD O O ω)$ qV (Pv zi0 O WD O (jT.part fV) O)$ z3F O O (yy O O) (hy) ?_;rintro v w2 hv;rcases hv with⟨rfl,lA⟩|⟨rfl,ae⟩
   ·refine qV ((S5 O))$ Qm O$ OG$ Rp O$ Rt O$ P3 O ?_;rw[show((xs.length-1-i:Nat):Int)-1=(xs.length:Int)-1-((i+1:Nat):Int) by omega];exact(ih (i+1) w2 ⟨ω,lA⟩ ω).qb
   ·refine qV ((S5 O))$ OJ$ OZ O$ OI func218 O ?_;exact⟨_,rfl,rfl,.inr ae⟩
  ·refine OV O$ Qh func218 O ?_;have:i=xs.length:=by omega
   subst this;exact⟨_,rfl,rfl,.inl hj⟩
theorem z6v (xs:List (Int×OO))(n:Int)(i:Nat):(∀j x,j<i->xs.reverse[j]? =some x->x.1≠n)->∀x,xs.reverse[i]? =some x->x.1=n->WB xs n=some x.2:=by
 intro db x hx he
 have aS:i<xs.reverse.length:=by
  rcases Nat.lt_or_ge i xs.reverse.length with h| h
  ·exact h
  ·rw[List.getElem?_eq_none h] at hx;cases hx
 have:xs.reverse.find? (λx=>x.1==n)=some x:=by
  rw[List.find?_eq_some_iff_getElem];refine⟨by simp[he],i,aS,?_,λj hj=>?_⟩
  ·rw[List.getElem?_eq_getElem aS] at hx;exact RB hx
  ·have:=db j _ hj (List.getElem?_eq_getElem ω)
   simpa using this
 simp[WB,this]
theorem z5M (xs:List (Int×OO))(n:Int):(∀j x,j<xs.length->xs.reverse[j]? =some x->x.1≠n)->WB xs n=none:=by
 intro db
 have:xs.reverse.find? (λx=>x.1==n)=none:=by
  rw[List.find?_eq_none];intro x hx;obtain⟨j,hj,rfl⟩:=List.getElem_of_mem hx;have:=db j _ (by simpa using hj) (List.getElem?_eq_getElem hj)
  simpa using this
 simp[WB,this]
def zcM {w:World}{p m:Nat}{kp ca:Value}{D:Dev}(n:Int)(h:S2 w p m kp ca D)(hc:D.cache.length<1000000000000):
  Ps prog 180 [ptr p 0,I n] w λv w'=>v=S (D.now n)/\Ext w w':=by
 have hM:=h.OH
 have aJ:=h.ok.len
 have gF:=hc
 obtain⟨a,cap,rfl,ha⟩:=h.cache.rd.shape
 refine py (e:=[(0,_),(1,_)]) func180 O ntmps180 O O$ qN O$ OP O O (R6 O O) ?_
 rintro _ w1 ⟨b3,rfl,dI,ad,au⟩
 refine OP O O (Rz (cs:=[_]) ti9 O) ?_
 rintro _ w2 ⟨b4,rfl,fX,ae,aM⟩
 replace h:=(h.ext ad).ext ae
 have jU:=h.OH
 refine OJ$ PR O$ Pw O$ P4 Yh O$ qV (OS z1H O O jU O)$ Pb ziY O (z0F a D.cache.length cap _) ?_
 rintro _ w3 ⟨bx,rfl,fD,ah,jc⟩
 replace h:=h.ext ah
 replace au:=ah.OH (ae.OH au)
 replace aM:=ah.OH aM
 refine OJ$ OL$ RI (ps:=[12,13]) (p:=[]) (q:=[_]) O zh8 ?_
 rintro l w4 aG hl cD hD Rc bJ du
 have Oa:=zaH bJ du
 have h3:=h
 replace h:=h.ext aG
 replace au:=aG.OH au
 replace aM:=aG.OH aM
 have Fe:=jc.lt
 have lQ:=au.lt
 have ee:=ad.size
 have dt:=ae.size
 have pD:=ah.size
 have LW:bx<w3.heap.size:=jc.lt
 replace jc:=aG.OH jc
 refine Ps.mono (z2W l bx (.slice a D.cache.length cap) D.cache
  (λi w'=>Rc .ready none w'/\Kp (λk=>k=l) w4 w'/\∀j x,j<i->D.cache.reverse[j]? =some x->x.1≠n)
  (λw'=>Rc .done (some .ret) w'/\Kp (λk=>k=l\/k=b4) w4 w'/\OU w' b4 [S (D.now n)] 9) w4 ω ?_ ?_ ⟨du,Kp.refl _ _,ω⟩) ?_
 ·rintro i w' ⟨h1,h2,-⟩;refine⟨⟨_,h2.OH jc ω⟩,h.cache.kp h2 λg hg fT=>?_⟩;have:=h3.cache.lt hg;omega
 ·rintro i w' x hx ⟨h1,h2,db⟩;refine Si bJ h1 O O ?_;have yu:=h2.size;refine OQ O$ OP O O (Rz (cs:=[_,_]) WD O) ?_;rintro _ w5 ⟨b6,rfl,nD,aV,aX⟩;refine OY O (PL WD O O O O aX ξ) ?_;rintro w6 ⟨nG,aN⟩;have aR:=aV.It aN (λi hi=>by omega);replace h1:=aR.rc bJ h1 id;replace h2:=h2.trans aR.kp;have Ff:=aV.size;have LX:=nG.lt;refine OJ$ run_beginRound O bJ h1 ?_;rintro w7 h7 aB;have bR:=aB.OH nG ω;have kM:=(h2.trans aB).OH au ω;refine OL$ qN O$ P4 z0B O$ qV ((OS U3 O O bR O))$ qV ((OS U3 O O kM O))$ Rk O$ OJ$ OX O (λdW=>?_)$ λdW=>?_
  ·have fu:=(h2.trans aB).OH aM ω;refine qN O$ P4 z2N O$ qV ((OS U9 O O bR O))$ OY O (QP ti9 O O O fu ξ) ?_;rintro w8 ⟨cu,aL⟩;refine OJ$ Tl bJ (aL.rc bJ h7 ω) ?_;intro w9 h9 aw;refine .inr ⟨rfl,h9,((h2.trans aB).ON λ_ h=> .inl h).trans ((aL.ON λ_ h=> .inr h).trans (aw.ON λ_ h=> .inl h)),?_⟩
   have Fg:D.now n=x.2:=by
    unfold Dev.now;rw[z6v D.cache n i db x hx dW]
    rfl
   rw[Fg];exact aw.OH cu ω
  ·refine OK$ OG$ RF bJ h7 ?_;intro w9 h9 aw;refine .inl ⟨rfl,h9,(h2.trans aB).trans aw,λj y hj hy=>?_⟩;rcases Nat.lt_or_ge j i with sh|sh
   ·exact db j y sh hy
   ·have:j=i:=by omega
    subst this;rw[hx] at hy;cases hy;exact dW
 ·rintro v w' ⟨rfl,⟨h1,h2,db⟩|⟨h1,h2,hB⟩⟩
  ·refine⟨_,_,h1,ξ,λw5 h5=>?_⟩;have aj:=h2.trans h5;have aV:Ext w3 w5:=aG.It aj (λi hi=>by omega);replace h3:=h3.ext aV;have kM:=aj.OH au ω;have fu:=aj.OH aM ω;have uJ:=aj.heap hD ω;refine OG$ Pt O$ qV (OS U3 O O kM O)$ Pb zdJ O (z3S n h3) ?_;rintro _ w6 ⟨rfl,aR⟩;replace fu:=aR.OH fu;replace uJ:=aR.heap uJ id;refine OY O (QP ti9 O O O fu ξ) ?_;rintro w7 ⟨bR,aB⟩;replace uJ:=aB.heap uJ ω;have cu:=(Q8 w7 w3.heap.size (.deferred none)).OH bR ω;refine OJ$ Tf ξ (Tv uJ) func180 (.cell1 U9 O O ((cu).cell _) .nil) ?_;refine⟨_,rfl,?_,?_⟩
   ·simp[Dev.now,z5M D.cache n db,Q0]
   ·exact((((ad.trans (ae.trans ah)).trans aV).trans aR).It aB (λi hi=>by omega)).It (Q8 w7 w3.heap.size (.deferred none)) (λi hi=>by omega)
  ·refine⟨_,_,h1,ξ,λw5 h5=>?_⟩;have uJ:=(h2.trans (h5.ON λ_ h=> .inl h)).heap hD ω;have aK:=h5.OH hB ω;have cu:=(Q8 w5 w3.heap.size (.deferred none)).OH aK ω;refine Tf ξ (Tv uJ) func180 (.cell1 U9 O O ((cu).cell _) .nil) ?_;refine⟨_,rfl,rfl,?_⟩;exact(((ad.trans (ae.trans (ah.trans aG))).It h2 (λi hi=>by omega)).It h5 (λi hi=>by omega)).It (Q8 w5 w3.heap.size (.deferred none)) (λi hi=>by omega)
section
variable {w:World}{p m:Nat}{kp ca:Value}{D:Dev}
def zaV (h:S2 w p m kp ca D):Ps prog 141 [ptr p 0] w λv w'=>v= .bool D.down/\w'=w:=by
 have hM:=h.OH
 refine py (e:=[(0,_)]) func141 O ntmps141 O O$ qN O$ R3 O$ qV (Qb U26 O O)$ Pl O$ Pw O$ P4 z3z O$ qV (OS U4 O O hM O)$ PT O$ P3 O$ OI func141 O ?_
 exact⟨_,rfl,rfl,rfl⟩
end
def z9C (v:Value)(l:List Int)(x:Int)(w:World)(hl:l.length<=17592186044416)(hr:Rd w v 1 l.length (l.map I)):
  Ps prog 190 [v,I x] w λu w'=>(∃k,u=I k/\(0<=k↔x∈l))/\w'=w:=by
 obtain⟨a,cap,rfl,ha⟩:=hr.shape
 refine py (e:=[(0,_),(1,_)]) func190 O ntmps190 O O$ QN O$ PR O$ RO Rr O$ OT O$ OJ$ OL$ RN (α:=Nat) (0) (λi=>[(0,.slice a l.length cap),(1,I x),(7,I (l.length:Int)),(8,I (i:Int))]) (λi w'=>w'=w/\i<=l.length/\∀j,j<i->l[j]?≠some x) (λi=>l.length-i) ?hI ?hround
 case hI=>exact⟨rfl,ω,ω⟩
 case hround =>
  rintro i _ ⟨rfl,hi,db⟩ ih
  try dsimp only
  refine qN O$ QV O$ OJ$ An$ OX O (λaS=>?_)$ λaS=>?_
  ·have fZ:i<l.length:=by omega
   rcases hr.2 with⟨c,-,h⟩|⟨b,off,cap',ma,bj⟩
   ·omega
   cases ma;refine OK$ QO$ Pt O$ QW O$ Pl O$ OT O$ qV (Qc Rr Qe O O ω)$ qV (PC U3 O O (bj (i*1) (I l[i]) (by simp[fZ]))) ?_;refine Rk O$ OJ$ OX O (λdW=>?_)$ λdW=>?_
   ·refine Pt O$ P3 O$ OI func190 O (⟨_,rfl,⟨(i:Int),rfl,?_⟩,rfl⟩);constructor
    ·intro _;rw[dW];exact List.getElem_mem fZ
    ·intro _;omega
   ·refine OK$ OG$ OQ O$ Q4 O$ OT O$ OJ ?_
    exact(ih (i+1) _ ⟨rfl,ω,λj hj=>by
     rcases Nat.lt_or_ge j i with h| h
     ·exact db j h
     ·have:j=i:=by omega
      subst this;rw[List.getElem?_eq_getElem fZ]
      exact λh=>dW (RB h).symm⟩ ω).qb
  ·refine OV O$ QN O$ OI func190 O (⟨_,rfl,⟨-1,rfl,?_⟩,rfl⟩);constructor
   ·intro h;omega
   ·intro h;obtain⟨j,hj,e⟩:=List.getElem_of_mem h;exact absurd (by rw[List.getElem?_eq_getElem hj,e]) (db j ω)
def z2Q (v:Value)(l:List Int)(x:Int)(w:World)(hl:l.length<=17592186044416)(hr:Rd w v 1 l.length (l.map I)):
  Ps prog 217 [v,I x] w λu w'=>u= .bool (decide (x∈l))/\w'=w:=by
 refine py (e:=[(0,_),(1,_)]) func217 O ntmps217 O O$ qN O$ QW O$ Pl O$ Pb zdW O (z9C v l x w hl hr) ?_
 rintro _ w1 ⟨⟨k,rfl,hk⟩,rfl⟩
 refine Uh O$ P3 O$ OI func217 O (⟨_,rfl,?_,rfl⟩)
 simp only[Q0,hk]
theorem z5E (c x:OO)(rest:List Value)(i:Nat)(h:i+x.length<=c.length):QH (c.map Tz++rest) i (x.map Tz)=(z8Z c i x).map Tz++rest:=by
 unfold QH z8Z
 rw[List.take_append_of_le_length (by simp;omega),List.drop_append_of_le_length (by simp;omega)]
 simp
theorem Ze {D:Dev}{l:List Int}{tn:Int}{mk:UInt8}{i:Nat}{x:Int×OO}(hx:D.cache[i]? =some x):D.fallTo l tn mk (i+1)=
  if(i:Int)=tn then Zb (D.fallTo l tn mk i) x.1 (mixN mk (((D.fallTo l tn mk i) x.1).getD (zeros (512*D.N))) x.2 D.N)
   else if(i:Int)∈l then Zb (D.fallTo l tn mk i) x.1 x.2 else D.fallTo l tn mk i:=by
 simp only[Dev.fallTo,hx]
def zbk {w:World}{p m:Nat}{kp ca cv:Value}{D:Dev}(h:S2 w p m kp ca D)(l:List Int)(tn:Int)(mk:UInt8)(hl:l.length<=17592186044416)(hr:Rd w cv 1 l.length (l.map I))(gF:D.cache.length<2000000000000):
  Ps prog 199 [ptr p 0,.agg #[cv,I tn,Tz mk]] w λv w'=>v= .tuple #[]/\S2 w' p m (.slice none 0 0) (.slice none 0 0) (D.zaG l tn mk)/\Kp (λk=>k=p\/k=m) w w':=by
 have aJ:=h.ok.len
 have hN:=h.ok.hN
 have LY:=mk.toNat_lt
 have LZ:=h.pm
 have Fh:=h.lt m (.inr (.inl O))
 have IN:∀{w':World},Ext w w'->w.heap.size<=w'.heap.size:=λh=>h.size
 obtain⟨a,cap,rfl,ha⟩:=h.cache.rd.shape
 obtain⟨ac,capc,rfl,Ob⟩:=hr.shape
 refine py (e:=[(0,_),(1,_)]) func199 O ntmps199 O O$ qN O$ OP O O (R6 O O) ?_
 rintro _ w1 ⟨b3,rfl,dI,ad,au⟩
 have h0:=h.ext ad
 have ee:=ad.size
 replace hr:=hr.ext ad
 have Fe:=au.lt
 have hM:=h0.OH
 refine OJ$ PR O$ Pw O$ P4 Yh O$ qV (OS z1H O O hM O)$ RO z1H O$ OT O$ OJ$ OL$ RN (α:=Nat) (0) (λi=>[(0,ptr p 0),(3,ptr b3 0),(11,.slice a D.cache.length cap),(12,I (D.cache.length:Int)),(13,I (i:Int))]) (λi wi=>i<=D.cache.length/\S2 wi p m kp (.slice a D.cache.length cap) {D with sf:=D.fallTo l tn mk i}/\Rd wi (.slice ac l.length capc) 1 l.length (l.map I)/\OU wi b3 [.slice ac l.length capc,I tn,Tz mk] 99/\Kp (λk=>k=m) w1 wi) (λi=>D.cache.length-i) ?hI ?hround
 case hI=>exact⟨ω,h0,hr,au,Kp.refl _ _⟩
 case hround =>
  rintro i wi ⟨hi,hd,mB,gx,tr⟩ ih
  try dsimp only
  have M0:=tr.size;refine qN O$ QV O$ OJ$ An$ OX O (λaS=>?_)$ λaS=>?_
  ·have fZ : i < D.cache.length := by omega
   have ou:=hd.cache;rcases ou.shape with⟨-,h⟩|⟨gb,cap',ma,kg⟩
   ·exact absurd h (by show ¬D.cache.length=0;omega)
   cases ma;obtain⟨x,hx⟩:∃x,D.cache[i]? =some x:=⟨_,List.getElem?_eq_getElem fZ⟩;have HS:D.cache[i]=x:=by rw[List.getElem?_eq_getElem fZ] at hx;exact RB hx
   have fV:((wrs D.cache).drop (i*2)).take 2=wr x:=by rw[z7s _ _ fZ,HS]
   have iN:=hd.ok.cache x (List.mem_of_getElem? hx);simp only at iN;have lI:=ou.part fV;refine OK$ QO$ Pt O$ qV (Qc z1H WD O O ω)$ qV (Pv zi0 O WD O lI O)$ OP O O (Rz (cs:=[_,_]) WD O) ?_;rintro _ w2 ⟨b5,rfl,gG,ae,aK⟩;refine SH O$ OY O (PL WD O O O O aK ξ) ?_;rintro w3 ⟨eG,av⟩;replace eG:OU w3 b5 [I x.1,S x.2] 313:=eG;have ah:Ext wi w3:=ae.It av (λj hj=>by omega);have M1:=eG.lt;replace hd:=hd.ext ah;have iz:=hd.lt;replace mB:=mB.ext ah;have qY:=mB;replace gx:=ah.OH gx;have lQ:=gx.lt;have cq:Kp (λk=>k=m) w1 w3:=tr.trans ah.kp;have M2:=ah.size;have IP:¬b3=b5:=by have:=ae.size;have:=gx;omega
   refine OJ$ OL$ Pt O$ P4 zeZ O$ qV ((OS U3 O O gx O))$ Rk O$ P3 O$ OX O (λwI=>?_)$ λwI=>?_
   ·refine Pt O$ P4 z0B O$ qV ((OS U3 O O eG O))$ Pb zdJ O (z3S x.1 hd) ?_;rintro _ w4 ⟨rfl,aG⟩;obtain⟨k0,fP⟩:∃k0,Dev.kept {D with sf:=D.fallTo l tn mk i} x.1=k0:=⟨_,rfl⟩;have zM:k0.length=512*D.N:=by rw[<-fP];exact hd.ok.kept x.1
    rw[fP];refine OP O O (zb7 U9 SL U5 O) ?_;rintro _ w5 ⟨bb,capb,rest,rfl,⟨tq,aV,su⟩,IQ⟩;have dG:=aG.trans aV;replace hd:=hd.ext dG;replace mB:=mB.ext dG;replace gx:=dG.OH gx;replace eG:=dG.OH eG;have M3:=su.lt;have wJ:=hd.OH;have IR:=dG.size;have M4:=aG.size;have M5:=hd.OH.lt;refine P3 O$ PR O$ Pw O$ P4 z0r O$ P4 ZF O$ qV (OS U3 O O wJ O)$ OT O$ OJ$ OL$ RN (α:=Nat) (0) (λs=>[(0,ptr p 0),(3,ptr b3 0),(5,ptr b5 0),(6,.slice (some ⟨bb,0,none⟩) k0.length capb),(11,.slice (some ⟨gb,0,none⟩) D.cache.length cap),(12,I (D.cache.length:Int)),(13,I (i:Int)),(32,I (D.N:Int)),(33,I (s:Int))]) (λs ws=>s<=D.N/\OU ws bb ((mixN mk k0 x.2 s).map Tz++rest) 5/\Kp (λk=>k=bb) w5 ws) (λs=>D.N-s) ?hI ?hround
    case hI=>exact⟨ω,su,Kp.refl _ _⟩
    case hround=>
     rintro s ws ⟨hs,kN,dK⟩ ihs
     try dsimp only
     have zN:=dK.OH gx ω;have zO:=dK.OH eG ω;have fA:=WG mk k0 x.2 D.N zM iN.2.2 s hs;refine qN O$ QV O$ OJ$ An$ OX O (λlz=>?_)$ λlz=>?_
     ·have M6:s<D.N:=by omega
      obtain⟨q,hq⟩:∃q,mk.toNat / 2^s=q:=⟨_,rfl⟩;have Oc:q<256:=by rw[<-hq];exact Nat.lt_of_le_of_lt (Nat.div_le_self _ _) LY
      refine OK$ QO$ Pt O$ QW O$ P4 zf3 O$ qV (OS U5 O O zN O)$ OT O$ qV (Us s (2^s) O O (by simp only[IntKind.bits];omega) O) ?_;rw[hq];refine qV (zkb O O ω ω) ?_;rw[Nat.and_one_is_mod];refine Rk O$ OJ$ OX O (λob=>?_)$ λob=>?_
      ·have ov:q%2=1:=by omega
       refine R0 (λw'=>Kp (λk=>k=bb) ws w') O$ P8 0 O O ((Kp.refl _ ws).drew)$ P8 1 O O ((Kp.refl _ ws).drew)$ OM 2 O (Y8 O O ω) ((Kp.refl _ ws).drew)$ P8 3 O O ((Kp.refl _ ws).drew)$ OM 4 O (UN O O ω) ((Kp.refl _ ws).drew)$ OM 5 O (Y8 O O ω) ((Kp.refl _ ws).drew)$ OM 7 O (Px z2N O) ((Kp.refl _ ws).drew)$ qT 8 O (λ_ h=>OS U9 O O (h.OH zO ω) O) ((Kp.refl _ ws).drew)$ P8 9 O O ((Kp.refl _ ws).drew)$ OM 10 O (Y8 O O ω) ((Kp.refl _ ws).drew)$ OM 11 O (z1n U9 O O ω) ((Kp.refl _ ws).drew)$ OM 6 O (zfi (i:=s*512) (j:=(s+1)*512) SL Y9 O O O ω ω) ((Kp.refl _ ws).drew)$ qO 12 ?_;refine Xp (i:=12) O O O (zjX SL Y9 O O ((Ext.Pa ws).OH kN) (by simp[fA];omega)) ?_;rintro _ w6 ⟨rfl,aX,aN⟩;refine⟨(Kp.refl _ ws).drew.trans aN,?_⟩
       have e6:((x.2.drop (s*512)).take ((s+1)*512-s*512)).map Tz=((x.2.drop (512*s)).take 512).map Tz:=by
        rw[show(s+1)*512-s*512=512 by omega,Nat.mul_comm]
       rw[e6,show 0+s*512*1=512*s by omega,z5E _ _ _ _ (by simp[fA,iN.2.2];omega)] at aX
       have em:mixN mk k0 x.2 (s+1)=z8Z (mixN mk k0 x.2 s) (512*s) ((x.2.drop (512*s)).take 512):=by
        simp only[mixN,hq,ov,if_true]
       rw[<-em] at aX;refine qE$ OG$ OQ O$ Q4 O$ OT O$ OJ ?_;exact(ihs (s+1) w6 ⟨ω,aX,dK.trans ((Kp.refl _ ws).drew.trans aN)⟩ ω).qb
      ·have ov:¬q%2=1:=by omega
       have em:mixN mk k0 x.2 (s+1)=mixN mk k0 x.2 s:=by simp only[mixN,hq,ov,if_false]
       rw[<-em] at kN;refine OK$ OG$ OQ O$ Q4 O$ OT O$ OJ ?_;exact(ihs (s+1) ws ⟨ω,kN,dK⟩ ω).qb
     ·have Dr:s=D.N:=by omega
      subst Dr;have zP:=hd.kp dK λk hk aY=>by have:=iz k hk;omega
      obtain⟨kv,ot,nM⟩:=zP.map;have M7:=zP.OH;have IS:Ext w3 ws:=dG.It dK (λj hj=>by omega);have uK:=qY.ext IS;refine OV O$ R0 (λw'=>Kp (λk=>k=m) ws w') O$ P8 0 O O ((Kp.refl _ ws).drew)$ OM 1 O (Qd O) ((Kp.refl _ ws).drew)$ OM 2 O (Px z3v O) ((Kp.refl _ ws).drew)$ qT 3 O (λ_ h=>(OS U97 O O (h.OH M7 zP.pm) O)) ((Kp.refl _ ws).drew)$ OM 4 O (Px z0B O) ((Kp.refl _ ws).drew)$ qT 5 O (λ_ hS=>(OS U3 O O (hS.OH zO ω) O)) ((Kp.refl _ ws).drew)$ P8 6 O O ((Kp.refl _ ws).drew)$ qT 7 O (λ_ h=>z9H (l:=mixN mk k0 x.2 D.N) SL U5 U9 O (h.OH kN ω) (z4B _ _ _ ω) ω) ((Kp.refl _ ws).drew)$ qO 8$ PJ (i:=8) O O (zmu (k:=x.1) (K:=KI) U97 (Sc U3) O O O (Ext.map (Ext.Pa ws) ot)) ?_;rintro w7 ⟨gy,aB⟩;refine⟨(Kp.refl _ ws).drew.trans aB,?_⟩;have eW:=(Kp.refl (λi=>i=m) ws).drew.trans aB;have sx:=zP.put nM gy eW (zP.ok.put ⟨iN.1,iN.2.1⟩ (WG mk k0 x.2 D.N zM iN.2.2 D.N (Nat.le_refl _)))
      have ef:Zb (D.fallTo l tn mk i) x.1 (mixN mk k0 x.2 D.N)=D.fallTo l tn mk (i+1):=by
       rw[Ze hx,if_pos wI,<-fP];rfl
      simp only[ef] at sx;refine qE$ OG$ OG$ OQ O$ Q4 O$ OT O$ OJ ?_;exact(ih (i+1) w7 ⟨ω,sx,uK.kpm ot eW,eW.OH zN ω,cq.trans (IS.kp.trans eW)⟩ ω).qb
   ·have Fi:=hd.OH;refine qN O$ P4 zeQ O$ qV ((OS Rr O O gx O))$ OT O$ Pb zgK O (z2Q (.slice ac l.length capc) l (i:Int) w3 hl qY) ?_;rintro _ w4 ⟨rfl,rfl⟩;refine P3 O$ OX O (λaq=>?_)$ λaq=>?_
    ·obtain⟨kv,ot,nM⟩:=hd.map;refine R0 (λw'=>Kp (λk=>k=m) w4 w') O$ P8 0 O O ((Kp.refl _ w4).drew)$ OM 1 O (Qd O) ((Kp.refl _ w4).drew)$ OM 2 O (Px z3v O) ((Kp.refl _ w4).drew)$ qT 3 O (λ_ h=>(OS U97 O O (h.OH Fi hd.pm) O)) ((Kp.refl _ w4).drew)$ OM 4 O (Px z0B O) ((Kp.refl _ w4).drew)$ qT 5 O (λ_ hS=>(OS U3 O O (hS.OH eG ω) O)) ((Kp.refl _ w4).drew)$ OM 6 O (Px z2N O) ((Kp.refl _ w4).drew)$ qT 7 O (λ_ hS=>(OS U9 O O (hS.OH eG ω) O)) ((Kp.refl _ w4).drew)$ qO 8$ PJ (i:=8) O O (zmu (k:=x.1) (K:=KI) U97 (Sc U3) O O O (Ext.map (Ext.Pa w4) ot)) ?_;rintro w7 ⟨gy,aB⟩;refine⟨(Kp.refl _ w4).drew.trans aB,?_⟩;have eW:=(Kp.refl (λi=>i=m) w4).drew.trans aB;have sx:=hd.put nM gy eW (hd.ok.put ⟨iN.1,iN.2.1⟩ iN.2.2)
     have ef:Zb (D.fallTo l tn mk i) x.1 x.2=D.fallTo l tn mk (i+1):=by
      rw[Ze hx,if_neg wI,if_pos aq]
     simp only[ef] at sx;refine qE$ OG$ OG$ OQ O$ Q4 O$ OT O$ OJ ?_;exact(ih (i+1) w7 ⟨ω,sx,qY.kpm ot eW,eW.OH gx ω,cq.trans eW⟩ ω).qb
    ·have ef:D.fallTo l tn mk i=D.fallTo l tn mk (i+1):=by
      rw[Ze hx,if_neg wI,if_neg aq]
     rw[ef] at hd;refine OK$ OG$ OG$ OQ O$ Q4 O$ OT O$ OJ ?_;exact(ih (i+1) w4 ⟨ω,hd,qY,gx,cq⟩ ω).qb
  ·have aq:i=D.cache.length:=by omega
   subst aq;have Fi:=hd.OH;refine OV O$ Pt O$ Pw O$ P4 Yh O$ OY O (QP z7Y O O O Fi ξ) ?_;rintro w5 ⟨aK,aj⟩;refine qM O$ OT O$ qV (Sh (cs:=[_,_,_,_]) z7x O zht O O)$ Pw O$ P4 WS O$ OY O (PL z7x O O O O aK ξ) ?_;rintro w6 ⟨aX,aN⟩;replace aX:OU w6 p [I 0,.slice none 0 0,I 0,Tz 0,I (D.B:Int),I (D.N:Int),.map (some m),.slice none 0 0,.bool D.down,I D.calls,I D.reads] 104:=aX;refine OJ$ Rp O$ Pw O$ P4 z3z O$ OY O (QP UH O O O aX ξ) ?_;rintro w7 ⟨bR,aB⟩;refine OJ$ Qh func199 O ?_;have zQ:=(aj.trans aN).trans aB;obtain⟨kv,ot,nM⟩:=hd.map;refine⟨_,rfl,rfl,⟨bR,⟨kv,zQ.map ot λe=>hd.pm e.symm,nM⟩,Sl.nil w7 _ _,Sl.nil w7 _ _,?_⟩,?_⟩
   ·exact⟨hd.ok.hB,hd.ok.hN,by simp[Dev.zaG],hd.ok.sf,λx hx=>by simp[Dev.zaG] at hx,by have:=aJ;simp[Dev.zaG];omega,hd.ok.reads⟩
   ·exact((Ext.kp ad).trans (tr.ON λ_ h=> .inr h)).trans (zQ.ON λ_ h=> .inl h)
end Go.Proofs.YtffbidffdbpcoaaGreatDoor
