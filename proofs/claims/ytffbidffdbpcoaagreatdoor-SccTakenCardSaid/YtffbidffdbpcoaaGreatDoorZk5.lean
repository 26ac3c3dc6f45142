/- Merged by program. -/
import Derived.Test.YtffbidffdbpcoaaGreatDoorZk4
import Derived.WideLaws
set_option linter.all false
set_option maxRecDepth 1000000
set_option maxHeartbeats 16000000
namespace Go.Proofs.YtffbidffdbpcoaaGreatDoor
open Go Go.RowKit Go.Proofs.Tryz
def Yl (p:Ry)(g:List (List Nat))(E:List (Nat×Nat)):∀(d i:Nat),(RG p g E i).length<=(RG p g E (i+d)).length
 |0,i=>Nat.le_refl _
 | d + 1, i => by
   have h:=Yl p g E d i;rw[<-Nat.add_assoc,Uo,List.length_append];omega
def z9v (p:Ry)(g:List (List Nat))(E:List (Nat×Nat))(n:Nat):Nof (XB p g E n):=by
 unfold XB Nof
 rw[List.pairwise_map]
 refine List.pairwise_lt_range.imp fun {i j} hH=>?_
 have:=Yl p g E (j-i) i
 rwa [show i+(j-i)=j by omega] at this
def z1z (p:Ry)(g:List (List Nat))(E:List (Nat×Nat)){n i:Nat}(h:i<=n):(XB p g E n)[i]? =some (RG p g E i).length:=by
 unfold XB
 rw[List.getElem?_map,List.getElem?_range ω];rfl
def zgl (p:Ry)(g:List (List Nat))(E:List (Nat×Nat))(n:Nat):∀v∈XB p g E n,v<=(RG p g E n).length:=λv hv=>by
 unfold XB at hv
 obtain⟨j,hj,rfl⟩:=List.mem_map.1 hv
 have h1:=List.mem_range.1 hj
 have:=Yl p g E (n-j) j
 rwa [show j+(n-j)=n by omega] at this
def z5Z {l:List Nat}(dl:1<=l.length)(hn:l.length<=64)(nh:Nof l){z:Nat}(hz:l[l.length-1]? =some z):(ZS l (Vf l.length (z+1))).length=(Vf l.length (z+1)).size:=by
 have h1:=z2h (Vf l.length (z+1)).width nh hz
 have h2:=VZ (Vf l.length (z+1)).width l
 have h3:(To (Vf l.length (z+1)).width l).length=32:=by
  cases l with
  |nil=>simp at dl
  |cons v l=>simp[To]
 have h4:(Vf l.length (z+1)).bits=z / 2^(Vf l.length (z+1)).width+l.length:=by
  show(z+1-1) / _+_=_;rw[Nat.add_sub_cancel]
  rfl
 unfold ZS Fm.size Fm.Wb Fm.high
 rw[List.length_append,List.length_append,List.length_append,QN,QN,QN,QN,List.length_append,bitsN_length,bitsN_length,h1,h2,h3,h4]
 show _=12+(l.length*_+7) / 8+_+4*((l.length+63) / 64)
 have h5:(l.length+63) / 64=1:=by omega
 rw[h5]
def YI (p:Ry)(g:List (List Nat))(E:List (Nat×Nat)):PV:=
 hdT ⟨g.length,R6 g,p,(RG p g E g.length).length⟩++Qv (RG p g E g.length)++ZS (XB p g E g.length) (Vf (g.length+1) ((RG p g E g.length).length+1))
structure zbz (p:Ry)(g:List (List Nat))(E:List (Nat×Nat)):Prop where
 el:E.length=g.length
 ok:zeV p g E
 bits:(RG p g E g.length).length<=2688000
def z6T {w:World}{p:Ry}(hp:p.RE){g:List (List Nat)}(hg:Tl g)(aT:1<=g.length){ga:Option Addr}{gc:Nat}(kr:GrM w (.slice ga g.length gc) g)(hG:Q7 w 1 (Ts .gamma) 294)(hU:Q7 w 2 (Ts .unary) 294):
  Qu prog 47 [.slice ga g.length gc,bpV p] w λu w'=>∃E,zbz p g E/\u= .tuple #[S (YI p g E),I 0]/\Ext w w':=by
 have hn:=hg.n
 have ve:=Vh hg g.length
 rw[List.take_length] at ve
 refine py (e:=[(0,_),(1,_)]) func47 O ntmps47 O O$ qN O$ PY O O (Se O (cs:=Wz p) O) ?_
 rintro _ w1 ⟨b3,rfl,dP,ad,aw⟩
 refine TN O$ RZ O$ qV (QB (news:=Wz p) U75 O SO O (aw.cells (n:=5) O) O)$ Qk zlH O (z9W hp hg (kr.ext ad) (ad.PN hG) (ad.PN hU)) ?_
 rintro _ w2 ⟨E,v,rfl,sS,M4,xm,cS,tT,ae⟩
 have aG:=ad.trans ae
 have aa:=Ext.Qh w2
 obtain⟨va,vc,rfl,-⟩:=cS.rd.shape
 have zi:=z9v p g E g.length
 have kK:=zgl p g E g.length
 have aH:=z4l p g E g.length
 have sV:=z1z p g E (Nat.le_refl g.length)
 obtain⟨vb,vc2,e5⟩:∃b c,Value.slice va (g.length+1) vc= .slice (some ⟨b,0,none⟩) (g.length+1) c:=by
  rcases cS.shape with⟨-,h0⟩|⟨b,c,e,hc⟩
  ·omega
  ·exact⟨b,c,e⟩
 cases e5
 refine Q4 O$ qV (Sz (v:=S (Qv (RG p g E g.length))) O O)$ qV (Sz (v:= .slice (some ⟨vb,0,none⟩) (g.length+1) vc) O O)$ qV (Sz (v:=I 0) O O)$ TN O$ Rt O$ QS O$ RA O$ Re O$ An ?_
 have M5:PHd.RE ⟨g.length,R6 g,p,(RG p g E g.length).length⟩:=⟨aT,(by show g.length<=_;omega),(by show R6 g<=_;omega),(by show(RG p g E g.length).length<=_;omega),hp⟩
 refine S5 (λw'=>Ext w2 w') O$ Qi 0 O O (aa)$ PT 1 O (TP U23 O) aa$ Qi 2 O O (aa)$ Qi 5 O O (aa)$ Qi 6 O O (aa)$ PT 7 O (TP U23 O) aa$ PT 8 O (Rh U34 UK O O ω) aa$ qT 4 O (λ_ hS=>QB (news:=Wz p) U75 O SO O ((hS.PN (ae.PN aw)).cells (n:=5) O) O) aa$ qT 9 O (λ_ hS=>QF SL O O (Rf (cS.ext hS).rd (show((XB p g E g.length).map Qg)[g.length]? =some (Qg (RG p g E g.length).length) by rw[List.getElem?_map,sV];rfl))) aa ?_
 refine PT 10 O (QU O SL U3 ω) aa$ T9 3 O zl5 O (z8v ((kr.ext aG).ext aa) hg) ?_
 rintro _ w3 ⟨rfl,rfl⟩
 refine⟨aa,?_⟩
 refine PT 11 O (Tq (cs:=[_,_,_,_,_,_,_,_]) Vl O zfs O O) aa$ T9 12 O zl8 O (zaU ⟨g.length,R6 g,p,(RG p g E g.length).length⟩ M5 _) ?_
 rintro _ w3 ⟨rfl,ah⟩
 refine⟨aa.trans ah,?_⟩
 have dX:=aa.trans ah
 refine Qi 13 O O (aa.trans ah)$ qT 14 O (λ_ hS=>Sz (v:=S (hdT ⟨g.length,R6 g,p,(RG p g E g.length).length⟩)) O O) (aa.trans ah)$ PT 16 O (Sv O) (aa.trans ah)$ PT 15 O (Sz (v:=I 0) O O) (aa.trans ah)$ PT 17 O (Sv O) (aa.trans ah)$ qE$ Qy.qb (e:=[(4,_),(5,_),(6,_),(7,_),(8,_),(9,_)]) ?_
 refine QS O$ RA O ?_
 have EQ:Rd w3 (.slice (some ⟨vb,0,none⟩) (XB p g E g.length).length vc) 1 (XB p g E g.length).length ((XB p g E g.length).map Qg):=by rw[aH];exact(cS.ext dX).rd
 have hz:(XB p g E g.length)[(XB p g E g.length).length-1]? =some (RG p g E g.length).length:=by rw[aH];exact sV
 have Di:=z5i ω ω zi (λv hv=>by have:=kK v hv;omega) EQ hz
 have uX:=z5Z ω ω zi hz
 have M6:(Vf (XB p g E g.length).length ((RG p g E g.length).length+1)).size<=40000000:=by
  have h1:=z4c (n:=(XB p g E g.length).length) (u:=(RG p g E g.length).length+1) ω ω ω ω;have h2:=Fm.Ym h1;obtain⟨h3,h4,h5⟩:=h1;unfold Fm.size Fm.Wb;omega
 rw[aH] at Di uX M6
 have pX:=Yz ⟨g.length,R6 g,p,(RG p g E g.length).length⟩
 have gj:=QN (RG p g E g.length)
 refine Re O$ Qx O$ Qk zlL O (Di) ?_
 rintro _ w4 ⟨rfl,aC⟩
 refine Q4 O$ qV (Sz (v:=S (ZS (XB p g E g.length) (Vf (g.length+1) ((RG p g E g.length).length+1)))) O O)$ qV (Sz (v:=I 0) O O)$ TN O$ S7 O$ Qp O$ qV (XW O O (by first|omega|(simp;done)|(simp;omega))) ?_
 refine Q4 O$ qV (XW O O (by first|omega|(simp;done)|(simp;omega))) ?_
 refine Q4 O$ Rt O$ PO func47 O ?_
 exact⟨_,rfl,E,⟨sS,M4,xm⟩,rfl,(aG.trans dX).trans aC⟩
/-! ### Bytes of a word, the least first -/
def Ra:List Nat->Nat
 |[]=>0
 |b::r=>b+256*Ra r
def WK {s a b c d:Nat}(hb:b<2^s)(hd:d<2^s):(b+2^s*a)&&&(d+2^s*c)=(b&&&d)+2^s*(a&&&c):=by
 apply Nat.eq_of_testBit_eq
 intro j
 have xm:b&&&d<2^s:=Nat.lt_of_le_of_lt Nat.and_le_left hb
 rw[Nat.testBit_and,Nat.add_comm b,Nat.add_comm d,Nat.add_comm (b&&&d),Nat.testBit_two_pow_mul_add _ hb,Nat.testBit_two_pow_mul_add _ hd,Nat.testBit_two_pow_mul_add _ xm]
 by_cases h:j<s
 ·simp only[if_pos h,Nat.testBit_and]
 ·simp only[if_neg h,Nat.testBit_and]
theorem zeD {s a b m:Nat}(hb:b<2^s)(hm:m<2^s):(b+2^s*a)&&&m=b&&&m:=by
 have:=WK (a:=a) (c:=0) hb hm
 simpa using this
def z2H (m:Nat)(hm:m<256):∀L:List Nat,(∀b∈L,b<256)->Ra L&&&Ra (List.replicate L.length m)=Ra (L.map (·&&&m))
 |[],_=>by simp[Ra]
 | b :: r, h => by
   have ih:=z2H m hm r (λx hx=>h x (List.mem_cons_of_mem b hx));rw[List.length_cons,List.replicate_succ,Ra,Ra,List.map_cons,Ra,<-ih];exact WK (s:=8) (h b List.mem_cons_self) hm
def z4C (s m:Nat)(hs:s<=8)(hm:m<2^(8-s)):∀L:List Nat,(∀b∈L,b<256)->Ra L / 2^s&&&Ra (List.replicate L.length m)=Ra (L.map λb=>b / 2^s&&&m)
 |[],_=>by simp[Ra]
 | b :: r, h => by
   have ih:=z4C s m hs hm r (λx hx=>h x (List.mem_cons_of_mem b hx));have hb:=h b List.mem_cons_self;have e256:256=2^s*2^(8-s):=by rw[<-Nat.pow_add,show s+(8-s)=8 by omega]
   have hp:0<2^s:=Nat.two_pow_pos s;have xv:b / 2^s<2^(8-s):=by rw[Nat.div_lt_iff_lt_mul hp,Nat.mul_comm,<-e256];exact hb
   have e1:(b+256*Ra r) / 2^s=b / 2^s+2^(8-s)*Ra r:=by
    rw[e256,Nat.mul_assoc,Nat.add_mul_div_left _ _ hp]
   have e2:b / 2^s+2^(8-s)*Ra r=(b / 2^s+2^(8-s)*(Ra r%2^s))+2^8*(Ra r / 2^s):=by
    have h1:=Nat.div_add_mod (Ra r) (2^s);have e3:2^8=2^(8-s)*2^s:=by rw[Nat.mul_comm];exact e256
    rw[e3,Nat.mul_assoc,Nat.add_assoc,<-Nat.mul_add,Nat.add_comm (Ra r%2^s),h1]
   have h3:b / 2^s+2^(8-s)*(Ra r%2^s)<2^8:=by
    have h4:Ra r%2^s+1<=2^s:=Nat.mod_lt _ hp;have h5:=Nat.mul_le_mul_left (2^(8-s)) h4;rw[Nat.mul_add,Nat.mul_one] at h5;have e3:2^8=2^(8-s)*2^s:=by rw[Nat.mul_comm];exact e256
    omega
   have M7:m<2^8:=Nat.lt_of_lt_of_le hm (Nat.pow_le_pow_right ψ ω);rw[List.length_cons,List.replicate_succ,Ra,Ra,List.map_cons,Ra,<-ih,e1,e2];have:=WK (s:=8) (a:=Ra r / 2^s) (c:=Ra (List.replicate r.length m)) h3 M7;rw[show m+256*Ra (List.replicate r.length m)=m+2^8*Ra (List.replicate r.length m) from rfl,this,zeD xv hm]
theorem z2q (f g:Nat->Nat):∀L:List Nat,Ra (L.map f)+Ra (L.map g)=Ra (L.map λb=>f b+g b)
 |[]=>rfl
 | b :: r => by
   rw[List.map_cons,List.map_cons,List.map_cons,Ra,Ra,Ra,<-z2q f g r,Nat.mul_add];omega
def z60:∀L:List Nat,(∀c∈L,c / 16<=4/\c%16<=4)->(Ra L / 16+Ra L)&&&Ra (List.replicate L.length 15)=Ra (L.map λc=>c / 16+c%16)/\Ra L%16<=4
 |[],_=>⟨by simp[Ra],by simp[Ra]⟩
 | c :: r, h => by
   obtain⟨ih,ih2⟩:=z60 r (λx hx=>h x (List.mem_cons_of_mem c hx));obtain⟨h1,h2⟩:=h c List.mem_cons_self;have e:(c+256*Ra r) / 16+(c+256*Ra r)=(c / 16+16*(Ra r%16)+c)+2^8*(Ra r / 16+Ra r):=by omega
   have aR:c / 16+16*(Ra r%16)+c<2^8:=by omega
   have M8:(c / 16+16*(Ra r%16)+c)&&&15=c / 16+c%16:=by
    have:=Nat.and_two_pow_sub_one_eq_mod (c / 16+16*(Ra r%16)+c) 4;rw[show(2:Nat)^4-1=15 from rfl,show(2:Nat)^4=16 from rfl] at this;rw[this];omega
   refine⟨?_,by rw[Ra];omega⟩;rw[List.length_cons,List.replicate_succ,Ra,Ra,List.map_cons,Ra,<-ih,e];have:=WK (s:=8) (a:=Ra r / 16+Ra r) (c:=Ra (List.replicate r.length 15)) aR (by decide:15<2^8);rw[show 15+256*Ra (List.replicate r.length 15)=15+2^8*Ra (List.replicate r.length 15) from rfl,this,M8]
def z5k:∀L:List Nat,(∀b∈L,b<256)->(Qr (8*L.length) (Ra L)).count true=(L.map λb=>(Qr 8 b).count true).sum
 |[],_=>rfl
 | b :: r, h => by
   have ih:=z5k r (λx hx=>h x (List.mem_cons_of_mem b hx));have hb:=h b List.mem_cons_self;rw[List.length_cons,Nat.mul_add,Nat.mul_one,Td,List.count_append,Ra];have e1:(b+256*Ra r) / 2^8=Ra r:=by omega
   rw[List.map_cons,List.sum_cons,show(Qr 8 (b+256*Ra r))=Qr 8 b from XS ω,e1,ih];omega
def s1B (b:Nat):Nat:=(b / 2&&&85)+(b&&&85)
def s2B (b:Nat):Nat:=(b / 4&&&51)+(b&&&51)
def zaL:∀b:Fin 256,s1B b<256/\s2B (s1B b)<256/\s2B (s1B b) / 16<=4/\s2B (s1B b)%16<=4/\s2B (s1B b) / 16+s2B (s1B b)%16=(Qr 8 b).count true:=by decide+kernel
def Zi {b:Nat}(h:b<256):s1B b<256/\s2B (s1B b)<256/\s2B (s1B b) / 16<=4/\s2B (s1B b)%16<=4/\s2B (s1B b) / 16+s2B (s1B b)%16=(Qr 8 b).count true:=zaL ⟨b,h⟩
def z0m (x:Nat):List Nat:=[x%256,x / 256%256,x / 65536%256,x / 16777216%256,x / 4294967296%256,x / 1099511627776%256,x / 281474976710656%256,x / 72057594037927936%256]
def z8k {x:Nat}(h:x<18446744073709551616):Ra (z0m x)=x:=by
 simp only[z0m,Ra]
 omega
def zbr (x:Nat):∀b∈z0m x,b<256:=λb hb=>by
 simp only[z0m,List.mem_cons,List.not_mem_nil,or_false] at hb
 rcases hb with rfl|rfl|rfl|rfl|rfl|rfl|rfl|rfl<;>exact Nat.mod_lt _ ψ
def z8n {x:Nat}(h:x<18446744073709551616):∃D:List Nat,D.length=8/\(∀d∈D,d<=8)/\
  ((((x / 2&&&6148914691236517205)+(x&&&6148914691236517205)) / 4&&&3689348814741910323)+(((x / 2&&&6148914691236517205)+(x&&&6148914691236517205))&&&3689348814741910323)) / 16+((((x / 2&&&6148914691236517205)+(x&&&6148914691236517205)) / 4&&&3689348814741910323)+(((x / 2&&&6148914691236517205)+(x&&&6148914691236517205))&&&3689348814741910323))&&&1085102592571150095=Ra D/\D.sum=(Qr 64 x).count true:=by
 have hv:=z8k h
 have hl:=zbr x
 have hL:(z0m x).length=8:=rfl
 generalize z0m x=L at hv hl hL
 have m0:6148914691236517205=Ra (List.replicate L.length 85):=by rw[hL];rfl
 have m1:3689348814741910323=Ra (List.replicate L.length 51):=by rw[hL];rfl
 have m2:1085102592571150095=Ra (List.replicate L.length 15):=by rw[hL];rfl
 have f1:=z4C 1 85 ψ ψ L hl
 have f2:=z2H 85 ψ L hl
 rw[show(2:Nat)^1=2 from rfl] at f1
 have jn:∀b∈L.map s1B,b<256:=λb hb=>by
  obtain⟨y,hy,rfl⟩:=List.mem_map.1 hb;exact(Zi (hl y hy)).1
 have e1:(x / 2&&&6148914691236517205)+(x&&&6148914691236517205)=Ra (L.map s1B):=by
  rw[m0,<-hv,f1,f2,z2q];rfl
 have f3:=z4C 2 51 ψ ψ (L.map s1B) jn
 have f4:=z2H 51 ψ (L.map s1B) jn
 rw[show(2:Nat)^2=4 from rfl] at f3
 rw[List.length_map] at f3 f4
 have e2:(Ra (L.map s1B) / 4&&&3689348814741910323)+(Ra (L.map s1B)&&&3689348814741910323)=Ra ((L.map s1B).map s2B):=by
  rw[m1,f3,f4,z2q];rfl
 rw[e1,e2]
 have iG:∀c∈(L.map s1B).map s2B,c / 16<=4/\c%16<=4:=λc hc=>by
  obtain⟨z,hz,rfl⟩:=List.mem_map.1 hc;obtain⟨y,hy,rfl⟩:=List.mem_map.1 hz;have:=Zi (hl y hy);exact⟨this.2.2.1,this.2.2.2.1⟩
 have f5:=(z60 _ iG).1
 rw[List.length_map,List.length_map] at f5
 refine⟨((L.map s1B).map s2B).map λc=>c / 16+c%16,by rw[List.length_map,List.length_map,List.length_map];exact hL,λd hd=>?_,by rw[m2];exact f5,?_⟩
 ·obtain⟨c,hc,rfl⟩:=List.mem_map.1 hd;have:=iG c hc;omega
 ·have vf:=z5k L hl;rw[hL,hv] at vf;rw[show 8*8=64 from rfl] at vf;rw[vf,List.map_map,List.map_map]
  congr 1
  refine List.map_congr_left λb hb=>?_;exact(Zi (hl b hb)).2.2.2.2
def zcS {D:List Nat}(h8:D.length=8)(hd:∀d∈D,d<=8):let x4:=Ra D+Ra D / 256;let x5:=x4+x4 / 65536;let x6:=x5+x5 / 4294967296;Ra D<1152921504606846976/\x6%128=D.sum/\D.sum<=64:=by
 obtain⟨d0,d1,d2,d3,d4,d5,d6,d7,rfl⟩:∃d0 d1 d2 d3 d4 d5 d6 d7,D=[d0,d1,d2,d3,d4,d5,d6,d7]:=by
  match D,h8 with
  |[a,b,c,d,e,f,g,i],_=>exact⟨a,b,c,d,e,f,g,i,rfl⟩
 have k0:=hd d0 ξ
 have k1:=hd d1 ξ
 have k2:=hd d2 ξ
 have k3:=hd d3 ξ
 have k4:=hd d4 ξ
 have k5:=hd d5 ξ
 have k6:=hd d6 ξ
 have k7:=hd d7 ξ
 have h3:Ra [d0,d1,d2,d3,d4,d5,d6,d7] / 256=Ra [d1,d2,d3,d4,d5,d6,d7]:=by
  rw[Ra,Nat.add_mul_div_left _ _ ψ,Nat.div_eq_of_lt ω,Nat.zero_add]
 have h4:Ra [d0,d1,d2,d3,d4,d5,d6,d7]+Ra [d1,d2,d3,d4,d5,d6,d7]=(d0+d1+256*(d1+d2))+65536*((d2+d3)+256*(d3+d4)+65536*((d4+d5)+256*(d5+d6)+65536*((d6+d7)+256*d7))):=by
  simp only[Ra];omega
 have h5:(Ra [d0,d1,d2,d3,d4,d5,d6,d7]+Ra [d1,d2,d3,d4,d5,d6,d7]) / 65536=(d2+d3)+256*(d3+d4)+65536*((d4+d5)+256*(d5+d6)+65536*((d6+d7)+256*d7)):=by
  rw[h4,Nat.add_mul_div_left _ _ ψ,Nat.div_eq_of_lt ω,Nat.zero_add]
 dsimp only
 rw[h3,h5,h4]
 have h6:(d0+d1+256*(d1+d2))+65536*((d2+d3)+256*(d3+d4)+65536*((d4+d5)+256*(d5+d6)+65536*((d6+d7)+256*d7)))+((d2+d3)+256*(d3+d4)+65536*((d4+d5)+256*(d5+d6)+65536*((d6+d7)+256*d7)))=
   ((d0+d1+d2+d3)+256*(d1+d2+d3+d4)+65536*((d2+d3+d4+d5)+256*(d3+d4+d5+d6)))+4294967296*((d4+d5+d6+d7)+256*(d5+d6+d7)+65536*(d6+d7+256*d7)):=by omega
 rw[h6,Nat.add_mul_div_left _ _ ψ,Nat.div_eq_of_lt ω,Nat.zero_add]
 refine⟨by simp only[Ra];omega,?_,by simp only[List.sum_cons,List.sum_nil];omega⟩
 simp only[List.sum_cons,List.sum_nil]
 have h7:(d0+d1+d2+d3)+256*(d1+d2+d3+d4)+65536*((d2+d3+d4+d5)+256*(d3+d4+d5+d6))+4294967296*((d4+d5+d6+d7)+256*(d5+d6+d7)+65536*(d6+d7+256*d7))+((d4+d5+d6+d7)+256*(d5+d6+d7)+65536*(d6+d7+256*d7))=
   (d0+d1+d2+d3+d4+d5+d6+d7)+128*(2*(d1+d2+d3+d4)+512*((d2+d3+d4+d5)+256*(d3+d4+d5+d6))+33554432*((d4+d5+d6+d7)+256*(d5+d6+d7)+65536*(d6+d7+256*d7))+(2*(d5+d6+d7)+512*(d6+d7+256*d7))):=by omega
 rw[h7,Nat.add_mul_mod_self_left,Nat.mod_eq_of_lt ω]
 omega
def zbN (x:Nat)(hx:x<18446744073709551616)(w:World):Qu prog 237 [Qg x] w λv w'=>v=I ((Qr 64 x).count true:Int)/\w'=w:=by
 obtain⟨D,h1,h2,h3,h4⟩:=z8n hx
 obtain⟨f1,f2,f3⟩:=zcS h1 h2
 have a1:x / 2&&&6148914691236517205<=6148914691236517205:=Nat.and_le_right
 have a2:x&&&6148914691236517205<=6148914691236517205:=Nat.and_le_right
 rw[<-h4]
 refine py (e:=[(0,_)]) func237 O ntmps237 O O$ qN O$ RZ O$ qV (Vm 1 2 O O ψ O)$ qV (VY O O ω ω)$ Q4 O$ qV (VY O O ω ω)$ qV (Wt O O)$ S7 O ?_
 rw[Nat.mod_eq_of_lt (show(x / 2&&&6148914691236517205)+(x&&&6148914691236517205)<18446744073709551616 by omega)]
 generalize hy:(x / 2&&&6148914691236517205)+(x&&&6148914691236517205)=y at h3
 have zj:y<18446744073709551616:=by omega
 have a3:y / 4&&&3689348814741910323<=3689348814741910323:=Nat.and_le_right
 have a4:y&&&3689348814741910323<=3689348814741910323:=Nat.and_le_right
 refine Q4 O$ qV (Vm 2 4 O O ψ O)$ qV (VY O O ω ω)$ Q4 O$ qV (VY O O ω ω)$ qV (Wt O O)$ S7 O ?_
 rw[Nat.mod_eq_of_lt (show(y / 4&&&3689348814741910323)+(y&&&3689348814741910323)<18446744073709551616 by omega)]
 generalize hz:(y / 4&&&3689348814741910323)+(y&&&3689348814741910323)=z at h3
 have nR:z<=7378697629483820646:=by omega
 refine Q4 O$ qV (Vm 4 16 O O ψ O)$ Q4 O$ qV (Wt O O) ?_
 rw[Nat.mod_eq_of_lt (show z / 16+z<18446744073709551616 by omega)]
 refine qV (VY O O ω ω)$ S7 O ?_
 rw[h3]
 generalize Ra D=x3 at f1 f2
 refine Qp O$ qV (Vm 8 256 O O ψ O)$ qV (Wt O O)$ S7 O ?_
 rw[Nat.mod_eq_of_lt (show x3+x3 / 256<18446744073709551616 by omega)]
 generalize aC:x3+x3 / 256=x4 at f2
 have zk:x4<=1157495777000000000:=by omega
 refine Qp O$ qV (Vm 16 65536 O O ψ O)$ qV (Wt O O)$ Qc O$ Qy.qb (e:=[(0,_),(2,_)]) ?_
 refine qN O ?_
 rw[Nat.mod_eq_of_lt (show x4+x4 / 65536<18446744073709551616 by omega)]
 generalize aU:x4+x4 / 65536=x5 at f2
 have M9:x5<=1160000000000000000:=by omega
 refine Qp O$ qV (Vm 32 4294967296 O O ψ O)$ qV (Wt O O)$ S7 O ?_
 rw[Nat.mod_eq_of_lt (show x5+x5 / 4294967296<18446744073709551616 by omega)]
 generalize aS:x5+x5 / 4294967296=x6 at f2
 have Ma:x6<=1170000000000000000:=by omega
 refine Q4 O$ qV (QU O SL U3 ω)$ qV (YO O O ω ω) ?_
 rw[show x6&&&127=D.sum by rw[<-f2];exact Nat.and_two_pow_sub_one_eq_mod x6 7]
 refine Qc O$ PO func237 O ?_
 exact⟨_,rfl,rfl,rfl⟩
def za7 {x:Nat}(hx:x<18446744073709551616):R3 x<=64:=Si ω
def zc2 (x:Nat)(hx:x<18446744073709551616)(w:World):Qu prog 238 [Qg x] w λv w'=>v=I ((64-R3 x:Nat):Int)/\w'=w:=by
 have tW:=za7 hx
 refine py (e:=[(0,_)]) func238 O ntmps238 O O$ qN O$ RZ O$ Qk z44 O (VG x hx w) ?_
 rintro _ w ⟨rfl,rfl⟩
 refine SA O ?_
 rw[show(64:Int)-(R3 x:Int)=((64-R3 x:Nat):Int) by omega]
 refine Qc O$ PO func238 O ?_
 exact⟨_,rfl,rfl,rfl⟩
def methT (P:Program)(t:TypeId)(name:String):Option FuncId:=match P.info? t with
 | some i => match i.methods.toList.find? (·.name == name) with
   | some m => match m.path.toList, m.func with
     | [], some (f, pr) => match P.underlying t with
       |some (.pointer _)=>cond pr (some f) none
       |some _=>cond pr none (some f)
       |none=>none
     |_,_=>none
   |none=>none
 |none=>none
section
variable {P:Program}{e:Env}{d:Option Nat}{ty t t':TypeId}{pos:String}{aft:Array Edge}{g:Option (Nat×Bool)}{x y:Operand}{w:World}{m n:Nat}
theorem UY {i:TypeInfo}(h:P.info? t=some i):(typeInfo t).run P w= .ok i w:=by simp[typeInfo,program,Sem.run,h]
theorem zaE {f:FuncId}{name:String}{u:Value}(h:methT P t name=some f)(n:Nat):(method (n+1) t u name).run P w= .ok (f,u) w:=by
 unfold methT at h
 split at h<;>try cases h
 rename_i i hi
 split at h<;>try cases h
 rename_i m hm
 split at h<;>try cases h
 rename_i f' pr jH jI
 have ox:i.methods.find? (·.name==name)=some m:=by rw[<-hm,Array.find?_toList]
 split at h<;>try cases h
 ·rename_i el hu
  cases pr<;>simp at h;subst h;simp[method,UY hi,ox,jH,follow,jI,receiverAt,run_underlying hu,Place.get]
 ·rename_i td Ji hu
  cases pr<;>simp at h;subst h;unfold method;simp only[Sem.run_bind,UY hi,Result.andThen_ok,ox,jH,follow,Sem.run_pure,jI,receiverAt,run_underlying hu,Place.get]
def yci {f:FuncId}{nm:String}{args:List Operand}{ts:Array TypeId}{vs:List Value}{u:Value}(hf:CF P f)(hm:methT P t nm=some f)(hx:look e x=some (.iface t u))(ha:looks e args=some vs):
  Yc P e ⟨d,.call ⟨.invoke x nm,args.toArray,ts⟩,ty,pos,aft,g⟩ f (u::vs) w:=fun ρ hρ=>by
 have Ci:=λw=>zaE (P:=P) (w:=w) (u:=u) hm (P.types.size+(Made.depth-1))
 rw[show P.types.size+(Made.depth-1)+1=P.types.size+Made.depth from rfl] at Ci
 have uy:(program).run P w= .ok P w:=rfl
 have ox:=UW hρ _ _ ha
 have h0:=hρ _ _ hx
 simp[execOp,resolve,ox,h0,Deferred.ofValue,invoke,callMethod,uy,Ci,UD hf]
def zgn (hx:look e x=some (I (m:Int)))(hy:look e y=some (I 7))(hm:m<2^62):Y P e ⟨d,.binOp .andNot t x y t',ty,pos,aft,g⟩ (I ((m / 8*8:Nat):Int)) w w:=fun ρ hρ=>by
 have h1:m<2^IntKind.i64.bits:=by simp only[IntKind.bits];omega
 have h3:m&&&18446744073709551608=m / 8*8:=by
  have h4:=WK (s:=3) (a:=m / 8) (b:=m%8) (c:=2305843009213693951) (d:=0) (Nat.mod_lt _ ψ) ψ;rw[Nat.and_zero,Nat.zero_add,Nat.zero_add] at h4;have h5:=Nat.and_two_pow_sub_one_eq_mod (m / 8) 61;rw[show(2:Nat)^61-1=2305843009213693951 from rfl,Nat.mod_eq_of_lt ω] at h5;rw[h5,show(2:Nat)^3=8 from rfl,show 8*2305843009213693951=18446744073709551608 from rfl,show m%8+8*(m / 8)=m by omega] at h4;rw[h4];omega
 have h6:(BitVec.ofInt IntKind.i64.bits (m:Int)&&&~~~(BitVec.ofInt IntKind.i64.bits 7)).toNat=m / 8*8:=by
  rw[BitVec.toNat_and,RS h1,show(~~~(BitVec.ofInt IntKind.i64.bits 7)).toNat=18446744073709551608 by decide,h3]
 simp only[execOp,eqGuard_andNot,binOp_andNot,intBits_andNot,hρ _ _ hx,hρ _ _ hy,pure_bind,Sem.run_pure,bits,h6]
 rw[wrap_i64 ⟨ω,ω⟩]
def zlr {r v q:Nat}(hr:r<=63)(hv:v<2^r)(hq:2^r=q)(hx:look e x=some (.int .u64 ((q+v:Nat):Int)))(hy:look e y=some (.int .u64 (q:Int))):Y P e ⟨d,.binOp .andNot t x y t',ty,pos,aft,g⟩ (.int .u64 (v:Int)) w w:=fun ρ hρ=>by
 subst hq
 have hp:2^r<=2^63:=Nat.pow_le_pow_right ψ hr
 have tW:2^64=2^r*2^(64-r):=by rw[<-Nat.pow_add,show r+(64-r)=64 by omega]
 have h2:2^(64-r)=2*2^(63-r):=by rw[<-Nat.pow_succ',show 64-r=(63-r)+1 by omega]
 have Dx:0<2^(63-r):=Nat.two_pow_pos _
 have h1:2^r+v<2^IntKind.u64.bits:=by simp only[IntKind.bits];omega
 have h3:2^r<2^IntKind.u64.bits:=by simp only[IntKind.bits];omega
 have h4:(2^r+v)&&&(2^64-1-2^r)=v:=by
  have h5:=WK (s:=r) (a:=1) (b:=v) (c:=2^(64-r)-2) (d:=2^r-1) hv (by have:=Nat.two_pow_pos r;omega);rw[Nat.mul_one,Nat.and_two_pow_sub_one_eq_mod,Nat.mod_eq_of_lt hv,Nat.one_and_eq_mod_two,h2,show(2*2^(63-r)-2)%2=0 by omega,Nat.mul_zero,Nat.add_zero] at h5
  have h6:2^r-1+2^r*(2*2^(63-r)-2)=2^64-1-2^r:=by
   rw[Nat.mul_sub,<-h2,<-tW];have:=Nat.two_pow_pos r;omega
  rw[h6,Nat.add_comm v] at h5;exact h5
 have h6:(BitVec.ofInt IntKind.u64.bits ((2^r+v:Nat):Int)&&&~~~(BitVec.ofInt IntKind.u64.bits ((2^r:Nat):Int))).toNat=v:=by
  rw[BitVec.toNat_and,BitVec.toNat_not,RS h1,RS h3];exact h4
 simp only[execOp,eqGuard_andNot,binOp_andNot,intBits_andNot,hρ _ _ hx,hρ _ _ hy,pure_bind,Sem.run_pure,bits,h6]
 rw[z1Z (k:= .u64) O (by simp only[IntKind.bits];omega)]
end
structure Src (t:TypeId)(u:Value)(T:PV) where
 inv:(Nat->Prop)->World->Prop
 fl:FuncId
 fr:FuncId
 cl:CF prog fl
 cr:CF prog fr
 ml:methT prog t "Length"=some fl
 mr:methT prog t "ReadAt"=some fr
 ext:∀{X Y:Nat->Prop} {w w':World},inv X w->Ext w w'->(∀k,Y k->X k\/w.heap.size<=k)->inv Y w'
 step:∀{X Y S:Nat->Prop} {w w':World},inv X w->Kp S w w'->(∀k,S k->X k)->(∀k,Y k->X k\/w.heap.size<=k)->inv Y w'
 len:∀{X:Nat->Prop} {w:World},inv X w->Qu prog fl [u] w λv w'=>v=I (T.length:Int)/\Ext w w'
 rd:∀{X:Nat->Prop} {w:World} (off n:Nat),inv X w->(∀k,X k->k<w.heap.size)->off+n<=T.length->Qu prog fr [u,I (off:Int),I (n:Int)] w λv w'=>v= .tuple #[S ((T.drop off).take n),I 0]/\inv X w'/\Kp (λk=>¬X k) w w'
def Src.own {t:TypeId}{u:Value}{T:PV}(R:Src t u T){X S:Nat->Prop}{w w':World}(h:R.inv X w)(hk:Kp S w w')(hS:∀k,S k->X k):R.inv X w':=R.step h hk hS λ_ e=> .inl e
def z2f {s:PV}{i:Nat}{c:UInt8}(h:s[i]? =some c):QL (Qm (s.take (i+1)))=QL (Qm (s.take i))*256+c.toNat:=by
 rw[QR h,z0j,Ta,show Qm [c]=Qr 8 c.toNat by simp[Qm],Rk,bitsN_length]
 have:=c.toNat_lt
 omega
def Yf (s:PV)(hs:s.length<=8)(w:World):Qu prog 162 [S s] w λv w'=>v=Qg (QL (Qm s))/\Ext w w':=by
 refine py (e:=[(0,_)]) func162 O ntmps162 O O$ qN O$ S7 O$ Qc O$ QS O$ PY O O (zcm U9 Tr U5 O) ?_
 rintro _ w1 ⟨b7,c7,rest,rfl,⟨mH,ad,ai⟩,Ew⟩
 refine SR Tr O$ Q4 O$ PQ$ PS$ SK (α:=Nat) (0) (λi=>[(3,Qg (QL (Qm (s.take i)))),(7,.slice (some ⟨b7,0,none⟩) s.length c7),(8,I (s.length:Int)),(9,I (i:Int))]) (λi w'=>w'=w1/\i<=s.length) (λi=>s.length-i) ?hI ?hround
 case hI=>exact⟨rfl,Nat.zero_le _⟩
 case hround=>
  rintro i w2 ⟨rfl,hi⟩ ih
  try dsimp only
  refine qN O$ RT O$ PQ$ An$ Q8 O (λh0=>?_)$ λh0=>?_
  ·obtain⟨c,hc⟩:∃c,s[i]? =some c:=⟨_,List.getElem?_eq_getElem ω⟩;have fk:=c.toNat_lt;have fJ:=z2f hc
   have aR:QL (Qm (s.take i))<72057594037927936:=by
    have h1:=S9 (Qm (s.take i));rw[bitsT_length,List.length_take] at h1;have h2:2^(8*min i s.length)<=2^56:=Nat.pow_le_pow_right ψ ω;omega
   have bq:w2.cell? ⟨b7,0+i*1,none⟩=some (U8 c):=by
    rw[ai.cell,Nat.zero_add,Nat.mul_one,List.getElem?_append_left (by rw[List.length_map];omega),List.getElem?_map,hc];rfl
   refine PR$ RP$ qN O$ qV (Rh Tr Y7 O O ω)$ qV (QF U5 O O bq) ?_
   generalize QL (Qm (s.take i))=q at fJ aR
   refine Qc O$ St O$ qV (Sr 8 256 O O ψ O)$ Q4 O$ qV ((z4x O U5 SL ψ))$ qV (z1V O O ω ω) ?_
   have pH:(q*256%18446744073709551616 |||c.toNat)=QL (Qm (s.take (i+1))):=by
    rw[fJ,Nat.mod_eq_of_lt ω,Nat.mul_comm q];exact(Nat.two_pow_add_eq_or_of_lt (i:=8) fk q).symm
   rw[pH];refine Qc O$ PM$ PW O$ R7 O$ Q4 O$ PQ ?_;exact(ih (i+1) _ ⟨rfl,ω⟩ ω).qb
  ·have dq:i=s.length:=by omega
   subst dq;rw[List.take_length];refine Q5 O$ Qx O$ Qc O$ PO func162 O ?_;exact⟨_,rfl,rfl,ad⟩
section
variable {P:Program}{e:Env}{d:Option Nat}{ty t t':TypeId}{pos:String}{aft:Array Edge}{g:Option (Nat×Bool)}{x y:Operand}{w:World}
theorem zen {ms:Array (String×TypeId)}{tx:TypeId}{v:Value}(ht:P.underlying t=some (.interface ms)):(binOp .eql t (.iface tx v) .nilIface).run P w= .ok (.bool false) w:=by
 have h:P.methodsAt t=ms:=by unfold Program.methodsAt;rw[ht]
 exact run_eql_held_nil w t tx v (by rw[h];exact ht)
def zfV {ms:Array (String×TypeId)}{tx:TypeId}{v:Value}(ht:P.underlying t=some (.interface ms))(hx:look e x=some (.iface tx v))(hy:look e y=some .nilIface):Y P e ⟨d,.binOp .eql t x y t',ty,pos,aft,g⟩ (.bool false) w w:=fun ρ hρ=>by
 have hg:∀a b,(eqGuard .eql t a b (.iface tx v) .nilIface).run P w= .ok () w:=λa b=>rfl
 simp only[execOp,hρ _ _ hx,hρ _ _ hy,Sem.run_bind,hg,Result.andThen_ok,zen ht,Sem.run_pure]
def ziK {tx:TypeId}{v:Value}(hx:look e x=some (.iface tx v)):Y P e ⟨d,.nilCheck x,ty,pos,aft,g⟩ (.iface tx v) w w:=fun ρ hρ=>by simp[execOp,hρ _ _ hx]
end
structure WJ (l:List Nat)(f:Fm)(z:Nat):Prop where
 n1:1<=l.length
 n2:l.length<=64
 nof:Nof l
 last:l[l.length-1]? =some z
 zb:z<=999999998
 fe:f=Vf l.length (z+1)
def WJ.small {l:List Nat}{f:Fm}{z:Nat}(h:WJ l f z):f.small:=by
 rw[h.fe]
 exact z4c h.n1 (by have:=h.n2;omega) ω (by have:=h.zb;omega)
theorem WJ.len {l:List Nat}{f:Fm}{z:Nat}(h:WJ l f z):(ZS l f).length=f.size:=by
 rw[h.fe]
 exact z5Z h.n1 h.n2 h.nof h.last
theorem WJ.n {l:List Nat}{f:Fm}{z:Nat}(h:WJ l f z):f.n=l.length:=by rw[h.fe];rfl
theorem WJ.u {l:List Nat}{f:Fm}{z:Nat}(h:WJ l f z):f.u=z+1:=by rw[h.fe];rfl
def WJ.size_le {l:List Nat}{f:Fm}{z:Nat}(h:WJ l f z):f.size<=40000000/\12<=f.size:=by
 have h1:=h.small
 have h2:=Fm.Ym h1
 obtain⟨h3,h4,h5⟩:=h1
 unfold Fm.size Fm.Wb
 have:12<=f.high:=by unfold Fm.high;omega
 omega
def piece {A B C:PV}{off n o:Nat}(h:off=A.length+o)(hn:o+n<=B.length):((A++B++C).drop off).take n=(B.drop o).take n:=by
 rw[h,List.append_assoc,List.drop_length_add_append,List.drop_append_of_le_length ω,List.take_append_of_le_length (by rw[List.length_drop];omega)]
def Ur (f:Fm):List Bool:=Qr 32 f.n++Qr 64 f.u
theorem z3r (f:Fm):Qm (Qv (Ur f))=Ur f:=by
 obtain⟨z,h1,h2,h3⟩:=Tw (Ur f)
 have hl:(Ur f).length=96:=by simp[Ur]
 have hz:z=0:=by omega
 rw[h1,hz,List.replicate_zero,List.append_nil]
theorem W3 (f:Fm):(Qv (Ur f)).length=12:=by
 rw[QN];simp[Ur]
def zg5 (f:Fm)(hn:f.n<4294967296):QL (Qm ((Qv (Ur f)).take 4))=f.n:=by
 rw[VT,z3r]
 unfold Ur
 rw[List.take_left' ξ,Rk]
 exact Nat.mod_eq_of_lt hn
def zhc (f:Fm)(hu:f.u<18446744073709551616):QL (Qm ((Qv (Ur f)).drop 4))=f.u:=by
 rw[UT,z3r]
 unfold Ur
 rw[List.drop_left' ξ,Rk]
 exact Nat.mod_eq_of_lt hu
theorem zdf (l:List Nat)(f:Fm):((ZS l f).drop 0).take 12=Qv (Ur f):=by
 have h:=piece (A:=[]) (B:=Qv (Ur f)) (C:=Qv (TF f.width l)++(Qv (hiB f.width 0 0 l)++Qv (To f.width l))) (off:=0) (n:=12) (o:=0) O (by rw[W3];omega)
 rw[List.nil_append] at h
 unfold ZS
 rw[List.append_assoc,List.append_assoc]
 refine h.trans ?_
 rw[List.drop_zero,List.take_of_length_le (by rw[W3];omega)]
def elC (f:Fm)(t:TypeId)(u:Value):List Value:=[I (f.n:Int),Qg f.u,I (f.width:Int),I (f.bits:Int),.iface t u]
def z7d {t:TypeId}{u:Value}{l:List Nat}{f:Fm}{z:Nat}(he:WJ l f z)(R:Src t u (ZS l f)){X:Nat->Prop}{w:World}(hI:R.inv X w)(hX:∀k,X k->k<w.heap.size):
  Qu prog 130 [.iface t u] w λv w'=>∃x,v= .tuple #[ptr x 0,I 0]/\Q7 w' x (elC f t u) 277/\w.heap.size<=x/\R.inv (λk=>X k\/k=x) w'/\Kp (λk=>¬X k) w w':=by
 obtain⟨eA,dy⟩:=he.size_le
 have aH:=he.len
 have qH:=he.n
 have Cg:=he.u
 have kj:=he.n2
 have dl:=he.n1
 have xO:=he.zb
 refine py (e:=[(0,_)]) func130 O ntmps130 O O$ qN O$ Rt O$ RP$ Qx O$ qV (zfV z7B O O)$ Qc O$ PZ O$ Qx O$ RB O O (yci R.cl R.ml O O) (R.len hI) ?_
 rintro _ w1 ⟨rfl,ad⟩
 rw[aH]
 have nj:=R.ext hI ad (λk hk=> .inl hk)
 have dt:∀k,X k->k<w1.heap.size:=λk hk=>by have:=hX k hk;have:=ad.size;omega
 refine RT O$ QW$ Qc O$ TT O$ PM$ Qx O$ RB O O (yci R.cr R.mr O O) (R.rd 0 12 nj dt (by rw[aH];omega)) ?_
 rintro _ w2 ⟨rfl,cX,am⟩
 rw[zdf]
 have dM:Kp (λk=>¬X k) w w2:=ad.kp.trans am
 have fx:∀k,X k->k<w2.heap.size:=λk hk=>by have:=dt k hk;have:=am.size;omega
 have pX:=W3 f
 have uR:((Qv (Ur f)).take 4).length<=8:=by rw[List.length_take];omega
 have nX:((Qv (Ur f)).drop 4).length<=8:=by rw[List.length_drop];omega
 have sW:=zg5 f ω
 have Jj:=zhc f ω
 generalize Qv (Ur f)=hb at pX uR nX sW Jj
 have aa:=Ext.Qh w2
 refine Q4 O$ TK O$ Rt O$ QS O$ RA O$ Re O$ An$ S5 (λw'=>Ext w2 w') O$ Qi 0 O O (aa)$ PT 1 O (z2c U9 O O ω) aa$ Qi 3 O O (aa)$ PT 4 O (ZJ U9 O O ω) aa$ T9 2 O z95 O (Yf (hb.take 4) uR _) ?_
 rintro _ w3 ⟨rfl,ah⟩
 refine⟨aa.trans ah,?_⟩
 refine T9 5 O z95 O (Yf (hb.drop 4) nX _) ?_
 rintro _ w4 ⟨rfl,aC⟩
 refine⟨(aa.trans ah).trans aC,?_⟩
 have dA:=(aa.trans ah).trans aC
 rw[sW,Jj]
 have jJ:=R.ext cX dA (λk hk=> .inl hk)
 refine PT 6 O (Sv O) ((aa.trans ah).trans aC)$ PT 7 O (Sv O) ((aa.trans ah).trans aC)$ qE$ Qy.qb (e:=[(0,_),(2,_),(3,_),(6,_),(7,_)]) ?_
 refine QS O$ RK O$ QW$ Qp O$ RK O$ QW$ QY O$ Qp O$ Ss O$ QW$ Q4 O$ Ss O$ QW$ qV (zf2 O O U4) ?_
 refine QY O$ Re O$ Qx O$ qV (QU O SL U3 ω)$ Q4 O ?_
 have Mb:Vf f.n f.u=f:=by rw[qH,Cg];exact he.fe.symm
 have m7:=Zk f.n f.u ω ω ω ω w4
 rw[Mb] at m7
 refine Qk zby O (m7) ?_
 rintro _ w5 ⟨rfl,aU⟩
 refine PY O O (SE (cs:=[_,_,_,_]) Uz O) ?_
 rintro _ w6 ⟨b8,rfl,jf,aS,co⟩
 refine Qb O (QT (news:=fmC f) Uz O O O O co ξ) ?_
 rintro w7 ⟨rv,aA⟩
 replace rv:Q7 w7 b8 (fmC f) 220:=rv
 have ig:Ext w5 w7:=aS.It aA (λi e=>by omega)
 have zm:=aU.trans ig
 have mO:=R.ext jJ zm (λk hk=> .inl hk)
 refine PQ$ An$ qN O$ qV (QB (news:=fmC f) z5a O Uz O (rv.cells (n:=4) O) O)$ Qk zfj O (z3s f he.small _) ?_
 rintro _ w8 ⟨rfl,cV⟩
 have ER:=R.ext mO cV (λk hk=> .inl hk)
 refine Q4 O$ RB O O (yci R.cl R.ml O O) (R.len ER) ?_
 rintro _ w9 ⟨rfl,fN⟩
 rw[aH]
 have ia:=R.ext ER fN (λk hk=> .inl hk)
 have iW:=cV.trans fN
 have zn:=(dA.trans zm).trans iW
 refine RA O$ QW$ PQ$ Qy.qb (e:=[(0,_),(2,_),(3,_),(8,_),(51,_)]) ?_
 refine TT O$ qN O$ qV (QB (news:=fmC f) z5a O Uz O ((iW.PN rv).cells (n:=4) O) O)$ Q4 O$ qV (Tq (cs:=[_,_,_,_,_]) zhz O ziV O O)$ PY O O (Se O (cs:=elC f t u) O) ?_
 rintro _ w10 ⟨x,rfl,hx,bQ,fM⟩
 refine Rt O$ PO func130 O ?_
 exact⟨_,rfl,x,rfl,fM,by have:=dM.size;have:=zn.size;omega,R.ext ia bQ (λk hk=>hk.imp id λe=>by omega),dM.trans (zn.trans bQ).kp⟩
def zba {t:TypeId}{u:Value}{f:Fm}{x:Nat}{w:World}(hB:Q7 w x (elC f t u) 277):Qu prog 131 [ptr x 0] w λv w'=>v=I (f.n:Int)/\w'=w:=by
 replace hB:Q7 w x [I (f.n:Int),Qg f.u,I (f.width:Int),I (f.bits:Int),.iface t u] 277:=hB
 refine py (e:=[(0,_)]) func131 O ntmps131 O O$ RN O$ QS O$ qV (R9 z4w O O)$ Re O$ Qx O$ QA O$ Qd TE O$ Qd ZQ O$ qV (PX U3 O O hB O)$ Qc O$ PO func131 O ?_
 exact⟨_,rfl,rfl,rfl⟩
theorem zcc (k:Nat)(a b:List Nat):TF k (a++b)=TF k a++TF k b:=by simp[TF]
def ze9 {k i v:Nat}{l:List Nat}(h:l[i]? =some v)(rest:List Bool):((TF k l++rest).drop (i*k)).take k=Qr k (v%2^k):=by
 have hi:=(List.getElem?_eq_some_iff.1 h).1
 have e:l=l.take i++(v::l.drop (i+1)):=by
  conv=>lhs;rw[<-List.take_append_drop i l]
  congr 1
  rw[List.drop_eq_getElem_cons hi,(List.getElem?_eq_some_iff.1 h).2]
 have hl:(TF k (l.take i)).length=i*k:=by rw[VZ,List.length_take,Nat.min_eq_left ω]
 rw[e,zcc,List.append_assoc,List.drop_left' hl]
 show((Qr k (v%2^k)++TF k (l.drop (i+1)))++rest).take k=_
 rw[List.append_assoc,List.take_left' ξ]
def z3e {B:PV}{o n a m:Nat}(h:a+m<=8*n):((Qm ((B.drop o).take n)).drop a).take m=((Qm B).drop (8*o+a)).take m:=by
 rw[VT,UT,List.drop_take,List.drop_drop,List.take_take,Nat.min_eq_left ω]
def zer (l:List Nat)(f:Fm){o n:Nat}(h:o+n<=(Qv (TF f.width l)).length):((ZS l f).drop (12+o)).take n=((Qv (TF f.width l)).drop o).take n:=by
 unfold ZS
 rw[List.append_assoc (Qv (Qr 32 f.n++Qr 64 f.u)++Qv (TF f.width l))]
 exact piece (by rw[show Qv (Qr 32 f.n++Qr 64 f.u)=Qv (Ur f) from rfl,W3]) h
def zao {t:TypeId}{u:Value}{l:List Nat}{f:Fm}{z:Nat}(he:WJ l f z)(R:Src t u (ZS l f)){X:Nat->Prop}{w:World}(hI:R.inv X w)(hX:∀k,X k->k<w.heap.size){x:Nat}(hx:X x)(hB:Q7 w x (elC f t u) 277){i v:Nat}(hv:l[i]? =some v):
  Qu prog 229 [ptr x 0,I (i:Int)] w λr w'=>r= .tuple #[Qg (v%2^f.width),I 0]/\R.inv X w'/\Kp (λk=>¬X k) w w':=by
 have dq:=(List.getElem?_eq_some_iff.1 hv).1
 have aH:=he.len
 obtain⟨yf,zo⟩:=he.size_le
 have kj:=he.n2
 have xt:f.width<=30:=by rw[he.fe];exact z0r (by have:=he.zb;omega)
 replace hB:Q7 w x [I (f.n:Int),Qg f.u,I (f.width:Int),I (f.bits:Int),.iface t u] 277:=hB
 refine py (e:=[(0,_),(1,_)]) func229 O ntmps229 O O$ qN O$ Rt O$ QS O$ QA O$ Qd TE O$ Qd UH O$ qV (PX U3 O O hB O)$ Ss O$ PQ$ Q8 O (λh0=>?_)$ λh0=>?_
 ·have o4:f.width=0:=by omega
  refine qN O$ Rt O$ PO func229 O (⟨_,rfl,?_,hI,Kp.refl _ _⟩);rw[o4,Nat.pow_zero,Nat.mod_one]
  rfl
 ·have IX:1<=f.width:=by omega
  have Mc:i*f.width<=64*30:=Nat.mul_le_mul ω xt;have Jk:(i+1)*f.width=i*f.width+f.width:=by rw[Nat.add_mul,Nat.one_mul]
  have fF:(i+1)*f.width<=l.length*f.width:=Nat.mul_le_mul_right _ dq;have e1:((i*f.width:Nat):Int)=(i:Int)*(f.width:Int):=Int.natCast_mul _ _;have e2:(((i+1)*f.width:Nat):Int)=((i:Int)+1)*(f.width:Int):=Int.natCast_mul _ _;have hg:=Ext.Qh w;refine PR$ An$ S5 (λw'=>Ext w w') O$ Qi 0 O O (hg)$ Qi 1 O O (hg)$ PT 2 O (R8 O) hg$ PT 3 O (Qz TE O) hg$ PT 4 O (Qz UH O) hg$ qT 5 O (λ_ h=>PX U3 O O (h.PN hB) O) hg$ Qi 7 O O (hg)$ PT 8 O (Wa O O ω) hg$ Qi 9 O O (hg)$ PT 10 O (R8 O) hg$ PT 11 O (Qz TE O) hg ?_;refine PT 12 O (Qz UH O) hg$ qT 13 O (λ_ h=>PX U3 O O (h.PN hB) O) hg$ PT 6 O (Xq O O (by rw[<-e1];omega)) hg ?_;rw[<-e1];refine PT 15 O (Sv O) hg$ PT 14 O (Xq O O (by rw[<-e2];omega)) hg ?_;rw[<-e2,Jk];refine PT 16 O (Sv O) hg$ qE$ Qy.qb (e:=[(0,_),(4,_),(5,_),(6,_),(7,_)]) ?_;refine Qx O$ QA O$ Qd z4r O$ qV (PX z7B O O hB O)$ Q4 O$ qV (Yh O O ω)$ R7 O$ Q4 O$ R7 O$ qV (Yh O O ω)$ Q4 O$ qV (Yh O O ω)$ SA O ?_;have vg:=hg.PN hB;have Md:=R.ext hI hg (λk hk=> .inl hk);have Me:∀k,X k->k<w.drew.heap.size:=λk hk=>by have:=hX k hk;have:=hg.size;omega
  have ES:(Qv (TF f.width l)).length=(l.length*f.width+7) / 8:=by rw[QN,VZ]
  have ET:=ze9 (k:=f.width) hv;have qx:∀rest,((TF f.width l++rest).drop (i*f.width)).take f.width=Qr f.width (v%2^f.width):=ET;rw[Jk] at fF
  generalize i*f.width=fr at Mc fF qx e1
  rw[show(12:Int)+(fr:Int) / 8=((12+fr / 8:Nat):Int) by omega,show((fr+f.width:Nat):Int)+7=((fr+f.width+7:Nat):Int) by omega,show((fr+f.width+7:Nat):Int) / 8-(fr:Int) / 8=(((fr+f.width+7) / 8-fr / 8:Nat):Int) by omega];have vh:fr / 8+((fr+f.width+7) / 8-fr / 8)<=(Qv (TF f.width l)).length:=by rw[ES];omega
  have kh:=zer l f vh
  have vp:12+fr / 8+((fr+f.width+7) / 8-fr / 8)<=(ZS l f).length:=by
   have e:(ZS l f).length=12+(Qv (TF f.width l)).length+(Qv (hiB f.width 0 0 l)).length+(Qv (To f.width l)).length:=by
    unfold ZS;rw[List.length_append,List.length_append,List.length_append,show Qv (Qr 32 f.n++Qr 64 f.u)=Qv (Ur f) from rfl,W3]
   omega
  refine RB O O (yci R.cr R.mr O O) (R.rd (12+fr / 8) ((fr+f.width+7) / 8-fr / 8) Md Me vp) ?_;rintro _ w1 ⟨rfl,nj,ay⟩;rw[kh];have dC:Kp (λk=>¬X k) w w1:=hg.kp.trans ay;have ai:=dC.PN hB (λe=>e hx)
  have gj:(((Qv (TF f.width l)).drop (fr / 8)).take ((fr+f.width+7) / 8-fr / 8)).length=(fr+f.width+7) / 8-fr / 8:=by
   rw[List.length_take,List.length_drop];omega
  obtain⟨zz,nR,-,-⟩:=Tw (TF f.width l);have cf:=z3e (B:=Qv (TF f.width l)) (o:=fr / 8) (n:=(fr+f.width+7) / 8-fr / 8) (a:=fr%8) (m:=f.width) ω;rw[show 8*(fr / 8)+fr%8=fr by omega,nR,qx] at cf
  generalize ((Qv (TF f.width l)).drop (fr / 8)).take ((fr+f.width+7) / 8-fr / 8)=pt at gj cf
  refine Q4 O$ TK O$ Rt O$ QS O$ RA O$ PQ$ Qy.qb (e:=[(0,_),(4,_),(5,_),(6,_),(8,_),(9,_),(52,_)]) ?_;refine TT O$ Qx O$ Qk z9F O (Yk pt ω w1) ?_;rintro _ w2 ⟨r,rfl,dc,ae,dv⟩;refine S7 O$ Qp O$ qV (YO O O ω ω) ?_;rw[show fr&&&7=fr%8 from Nat.and_two_pow_sub_one_eq_mod fr 3];refine Qk zbK O (z0P dc (fr%8) ω) ?_;rintro _ w3 ⟨rfl,jo,av⟩;have aZ:Ext w1 w3:=ae.It av (λi e=>by omega);have aw:=aZ.PN ai;refine qM O$ Qp O$ QA O$ Qd TE O$ Qd UH O$ qV (PX U3 O O aw O)$ Qk z5Q O (WE jo f.width ω) ?_;rintro v4 w4 qr
  have ju:v4= .tuple #[Qg (v%2^f.width),I 0]/\Kp (λk=>k=r) w3 w4:=by
   rcases qr with⟨-,e,-,hk⟩|⟨e,-,-⟩
   ·rw[cf,Rk,Nat.mod_mod] at e;exact⟨e,hk⟩
   ·omega
  obtain⟨rfl,ar⟩:=ju;have dY:Ext w1 w4:=aZ.It ar (λi e=>by omega);refine Q4 O$ TK O$ Rt O$ Qy.qb (e:=[(4,_),(5,_),(11,_)]) ?_;refine Qx O$ Rt O$ PO func229 O ?_;exact⟨_,rfl,rfl,R.ext nj dY (λk hk=> .inl hk),dC.trans dY.kp⟩
theorem z2n (n:Nat):QL (List.replicate n false)=0:=by
 rw[<-WS,Rk];simp
theorem z5G (b:List Bool)(k:Nat):QL (b++List.replicate k false)=QL b*2^k:=by
 rw[Ta,z2n,List.length_replicate,Nat.add_zero]
theorem z3L (b:List Bool)(k:Nat):QL (List.replicate k false++b)=QL b:=by
 rw[Ta,z2n];simp
theorem z26 {D:List Bool}{a b m:Nat}(ha:m<=D.length+a)(hb:m<=D.length+b):(D++List.replicate a false).take m=(D++List.replicate b false).take m:=by
 rw[List.take_append,List.take_append,List.take_replicate,List.take_replicate,Nat.min_eq_left ω,Nat.min_eq_left ω]
def wdB (H:List Bool)(a:Nat):List Bool:=List.replicate (a%8) false++(H.drop a++List.replicate 64 false).take (64-a%8)
def z9E (H:List Bool)(a:Nat):(wdB H a).length=64:=by
 unfold wdB
 rw[List.length_append,List.length_replicate,List.length_take,List.length_append,List.length_replicate]
 omega
def zaQ {H:List Bool}{fq n:Nat}(hf:8*fq<H.length)(hn:n=min 8 ((H.length+7) / 8-fq)):
  Qm (((Qv H).drop fq).take n)++List.replicate (64-8*n) false=(H.drop (8*fq)++List.replicate 64 false).take 64:=by
 obtain⟨z,h1,h2,h3⟩:=Tw H
 rw[VT,UT,h1,List.drop_append_of_le_length ω]
 have hD:(H.drop (8*fq)).length=H.length-8*fq:=List.length_drop
 generalize H.drop (8*fq)=D at hD
 rcases Nat.lt_or_ge n 8 with h| h
 ·have e:8*n=D.length+z:=by omega
  rw[List.take_of_length_le (by rw[List.length_append,List.length_replicate];omega),List.append_assoc,List.replicate_append_replicate];rw[z26 (a:=64) (b:=z+(64-8*n)) ω ω,List.take_of_length_le (by rw[List.length_append,List.length_replicate];omega)]
 ·have e:n=8:=by omega
  subst e;rw[show 64-8*8=0 from rfl,List.replicate_zero,List.append_nil];exact z26 ω ω
def zan {W:List Bool}(hW:W.length=64){d:Nat}(hd:d<=64):QL W%2^(64-d)=QL (List.replicate d false++W.drop d):=by
 have h1:=Ta (W.take d) (W.drop d)
 rw[List.take_append_drop,List.length_drop,hW] at h1
 have h2:=S9 (W.drop d)
 rw[List.length_drop,hW] at h2
 rw[z3L,h1,Nat.add_comm,Nat.add_mul_mod_self_right,Nat.mod_eq_of_lt h2]
def zbs {H:List Bool}{a:Nat}(ha:a<H.length):List.replicate (a%8) false++((H.drop (8*(a / 8))++List.replicate 64 false).take 64).drop (a%8)=wdB H a:=by
 unfold wdB
 congr 1
 have hd:a%8<=(H.drop (8*(a / 8))).length:=by rw[List.length_drop];omega
 rw[List.drop_take,List.drop_append_of_le_length hd,List.drop_drop,show 8*(a / 8)+a%8=a by omega]
def zcy {H:List Bool}{a r:Nat}(ha:a<H.length)(hr:a / 8*8+64=H.length+r):∃q,QL (wdB H a)=q*2^r:=by
 have hD:(H.drop a).length=H.length-a:=List.length_drop
 refine⟨QL (List.replicate (a%8) false++H.drop a),?_⟩
 rw[<-z5G]
 congr 1
 unfold wdB
 rw[List.append_assoc,z26 (a:=64) (b:=r) ω ω,List.take_of_length_le (by rw[List.length_append,List.length_replicate];omega)]
theorem zbg {d:Nat}(hd:d<=64):18446744073709551615 / 2^d=2^(64-d)-1:=by
 have hp:0<2^d:=Nat.two_pow_pos d
 have h1:2^64=2^d*2^(64-d):=by rw[<-Nat.pow_add,show d+(64-d)=64 by omega]
 have h2:0<2^(64-d):=Nat.two_pow_pos _
 have h3:18446744073709551615=(2^d-1)+2^d*(2^(64-d)-1):=by
  rw[Nat.mul_sub,<-h1,Nat.mul_one];have h4:2^d<=2^64:=Nat.pow_le_pow_right ψ hd;omega
 rw[h3,Nat.add_mul_div_left _ _ hp,Nat.div_eq_of_lt ω,Nat.zero_add]
def z8E {b:List Bool}(h:b.length=64):QL b<18446744073709551616:=by
 have:=S9 b
 rw[h] at this
 exact this
def zgy (l:List Nat)(f:Fm)(hf:f.high=12+(Qv (TF f.width l)).length){o n:Nat}(h:o+n<=(Qv (hiB f.width 0 0 l)).length):((ZS l f).drop (f.high+o)).take n=((Qv (hiB f.width 0 0 l)).drop o).take n:=by
 unfold ZS
 exact piece (by rw[List.length_append,show Qv (Qr 32 f.n++Qr 64 f.u)=Qv (Ur f) from rfl,W3,hf]) h
theorem WJ.high {l:List Nat}{f:Fm}{z:Nat}(he:WJ l f z):f.high=12+(Qv (TF f.width l)).length:=by
 unfold Fm.high
 rw[QN,VZ,he.n]
theorem WJ.bits {l:List Nat}{f:Fm}{z:Nat}(he:WJ l f z):f.bits=(hiB f.width 0 0 l).length:=by
 rw[z2h f.width he.nof he.last]
 rw[he.fe]
 show(z+1-1) / _+_=_
 rw[Nat.add_sub_cancel]
 rfl
def z8q {t:TypeId}{u:Value}{l:List Nat}{f:Fm}{z:Nat}(he:WJ l f z)(R:Src t u (ZS l f)){X:Nat->Prop}{w:World}(hI:R.inv X w)(hX:∀k,X k->k<w.heap.size){x b3 b8 v0:Nat}(hx:X x)(h3:X b3)(h8:X b8)(tU:b8≠x/\b8≠b3)(hB:Q7 w x (elC f t u) 277)(aw:Q7 w b3 [ptr x 0] 137)(co:Q7 w b8 [Qg v0] 39){a:Nat}(ha:a<f.bits):
  Qu prog 236 [I (a:Int),ptr b3 0,ptr b8 0] w λr w'=>r=I 0/\R.inv X w'/\Kp (λk=>¬X k\/k=b8) w w'/\Q7 w' b8 [Qg (QL (wdB (hiB f.width 0 0 l) a))] 39:=by
 have aH:=he.len
 obtain⟨yf,zo⟩:=he.size_le
 have vw:=he.small
 have pX:=Fm.Ym vw
 have eP:=vw.2.2
 have cf:=he.bits
 have zp:=he.high
 have gj:(Qv (hiB f.width 0 0 l)).length=(f.bits+7) / 8:=by rw[QN,cf]
 replace hB:Q7 w x [I (f.n:Int),Qg f.u,I (f.width:Int),I (f.bits:Int),.iface t u] 277:=hB
 refine py (e:=[(0,_),(1,_),(2,_)]) func236 O ntmps236 O O$ qN O$ RZ O$ qV (zgn O O ω)$ S7 O$ qV ((PX z4w O O aw O))$ QA O$ Qd TE O$ Qd z06 O$ qV ((PX U3 O O hB O))$ R7 O$ qV (Yh O O ω)$ Q4 O$ qV (Yh O O ω) ?_
 refine SA O ?_
 rw[show((f.bits:Int)+7) / 8-((a / 8*8:Nat):Int) / 8=(((f.bits+7) / 8-a / 8:Nat):Int) by omega]
 refine qV (ymi O O) ?_
 rw[show min (8:Int) (((f.bits+7) / 8-a / 8:Nat):Int)=((min 8 ((f.bits+7) / 8-a / 8):Nat):Int) by omega]
 obtain⟨n,hn⟩:∃n,n=min 8 ((f.bits+7) / 8-a / 8):=⟨_,rfl⟩
 rw[<-hn]
 have hg:=Ext.Qh w
 refine Qc O$ An$ S5 (λw'=>Kp (λk=>¬X k) w w') O$ qT 0 O (λ_ hS=>(PX z4w O O (hS.PN aw (λe=>e h3)) O)) (hg.kp)$ PT 1 O (R8 O) (hg.kp)$ PT 2 O (Qz z4r O) (hg.kp)$ qT 3 O (λ_ hS=>(PX z7B O O (hS.PN hB (λe=>e hx)) O)) (hg.kp)$ qT 4 O (λ_ hS=>(PX z4w O O (hS.PN aw (λe=>e h3)) O)) (hg.kp)$ PT 5 O (R8 O) (hg.kp)$ PT 6 O (Qz TE O) (hg.kp)$ Qi 9 O O (hg.kp)$ PT 10 O (Yh O O ω) (hg.kp)$ Qi 12 O O (hg.kp)$ qT 7 O (λ_ hS=>QB (news:=fmC f) z5a O Uz O ((hS.PN hB (λe=>e hx)).cells (n:=4) O) O) (hg.kp) ?_
 refine PT 13 O (ziK O) (hg.kp)$ Qi 14 O O (hg.kp)$ T9 8 O zfl O (z5C f vw _) ?_
 rintro _ w1 ⟨rfl,ad⟩
 refine⟨(hg.trans ad).kp,?_⟩
 have ci:=hg.trans ad
 refine PT 11 O (Wa O O ω) ((hg.trans ad).kp) ?_
 rw[show(f.high:Int)+((a / 8*8:Nat):Int) / 8=((f.high+a / 8:Nat):Int) by omega]
 have nj:=R.ext hI ci (λk hk=> .inl hk)
 have dt:∀k,X k->k<w1.heap.size:=λk hk=>by have:=hX k hk;have:=ci.size;omega
 have vh:a / 8+n<=(Qv (hiB f.width 0 0 l)).length:=by rw[gj];omega
 have vp:f.high+a / 8+n<=(ZS l f).length:=by
  rw[aH];have e:f.size=f.Wb+4*((f.n+63) / 64):=rfl;have e2:f.Wb=f.high+(f.bits+7) / 8:=rfl;omega
 have kh:=zgy l f zp vh
 have oF:=zaQ (H:=hiB f.width 0 0 l) (fq:=a / 8) (n:=n) ω (by rw[<-cf];exact hn)
 refine qO 15$ Xr (i:=15) O O O (yci R.cr R.mr O O) (R.rd (f.high+a / 8) n nj dt vp) ?_
 rintro _ w2 ⟨rfl,cX,am⟩
 refine⟨ci.kp.trans am,?_⟩
 rw[kh]
 have dM:Kp (λk=>¬X k) w w2:=ci.kp.trans am
 have ak:=dM.PN hB (λe=>e hx)
 have dx:=dM.PN aw (λe=>e h3)
 have uP:=dM.PN co (λe=>e h8)
 have EU:(((Qv (hiB f.width 0 0 l)).drop (a / 8)).take n).length=n:=by rw[List.length_take,List.length_drop];omega
 generalize ((Qv (hiB f.width 0 0 l)).drop (a / 8)).take n=pt at oF EU
 refine Qi 16 O O (ci.kp.trans am)$ PT 17 O (Sz O O) (ci.kp.trans am)$ PT 18 O (Sz O O) (ci.kp.trans am)$ PT 19 O (Sv O) (ci.kp.trans am)$ PT 20 O (Sv O) (ci.kp.trans am)$ qE$ Qy.qb (e:=[(0,_),(1,_),(2,_),(4,_),(5,_),(6,_),(7,_),(8,_)]) ?_
 refine Qx O$ Qk z95 O (Yf pt ω w2) ?_
 rintro _ w3 ⟨rfl,ah⟩
 refine Q4 O$ qV (Xq O O ω)$ SA O ?_
 rw[show(64:Int)-8*(n:Int)=((64-8*n:Nat):Int) by omega]
 refine qV (Sr (64-8*n) (2^(64-8*n)) O O ω O) ?_
 have EV:=z5G (Qm pt) (64-8*n)
 rw[oF] at EV
 have Mf:((hiB f.width 0 0 l).drop (8*(a / 8))++List.replicate 64 false).take 64=((hiB f.width 0 0 l).drop (8*(a / 8))++List.replicate 64 false).take 64:=rfl
 obtain⟨W0,zr⟩:∃W0,W0=((hiB f.width 0 0 l).drop (8*(a / 8))++List.replicate 64 false).take 64:=⟨_,rfl⟩
 have zt:W0.length=64:=by rw[zr,List.length_take,List.length_append,List.length_replicate];omega
 have Jl:=zbs (H:=hiB f.width 0 0 l) (a:=a) ω
 rw[<-zr] at EV Jl
 have fF:=zan zt (d:=a%8) ω
 rw[Jl] at fF
 have vx:=z8E zt
 rw[<-EV,Nat.mod_eq_of_lt vx]
 refine Qb O (RV UK O O O (ah.PN uP) ξ) ?_
 rintro w4 ⟨eV,ar⟩
 replace eV:Q7 w4 b8 [Qg (QL W0)] 39:=eV
 have aM:=ar.PN (ah.PN ak) (λe=>tU.1 e.symm)
 have eF:=ar.PN (ah.PN dx) (λe=>tU.2 e.symm)
 have jJ:=R.own (R.ext cX ah (λk hk=> .inl hk)) ar (λk e=>by rw[e];exact h8)
 have af:=Ext.Qh w4
 refine PQ$ An$ Qn [6] (λw'=>Ext w4 w') (by kernel_rfl) O$ qL 0 O (λ_ h=>PX SL O O (h.PN eV) O) af$ R1 1 O O (af)$ R1 2 O O (af)$ Qs 3 O (YM O O ω) af ?_
 rw[show(a:Int)-((a / 8*8:Nat):Int)=((a%8:Nat):Int) by omega]
 refine Qs 4 O (Vm (m:=18446744073709551615) (a%8) (2^(a%8)) O O (by show a%8<=64;omega) O) af ?_
 rw[zbg (d:=a%8) ω]
 have Mg:2^(64-a%8)<=2^64:=Nat.pow_le_pow_right ψ ω
 refine Qs 5 O (VY O O ω ω) af ?_
 rw[Nat.and_two_pow_sub_one_eq_mod,fF]
 refine Ut [6]$ qO 6$ QO (i:=6) O O (RV UK O O O (af.PN eV) ξ) ?_
 rintro w5 ⟨bK,aj⟩
 refine⟨trivial,?_⟩
 replace bK:Q7 w5 b8 [Qg (QL (wdB (hiB f.width 0 0 l) a))] 39:=bK
 have aJ:=aj.PN (af.PN aM) (λe=>tU.1 e.symm)
 have cY:=aj.PN (af.PN eF) (λe=>tU.2 e.symm)
 have kX:=R.own (R.ext jJ af (λk hk=> .inl hk)) aj (λk e=>by rw[e];exact h8)
 have cO:Kp (λk=>¬X k\/k=b8) w w5:=(((dM.PU λk e=> .inl e).trans ah.kp).trans (ar.PU λk e=> .inr e)).trans (af.kp.trans (aj.PU λk e=> .inr e))
 have EW:=z8E (z9E (hiB f.width 0 0 l) a)
 refine qE$ QS O$ R7 O$ qV ((PX z4w O O cY O))$ QA O$ Qd TE O$ Qd z06 O$ qV ((PX U3 O O aJ O))$ SA O$ Qc O$ Qy.qb (e:=[(2,_),(4,_),(8,_),(9,_)]) ?_
 refine Qx O$ RK O$ PQ$ Q8 O (λh0=>?_)$ λh0=>?_
 ·obtain⟨r,hr⟩:∃r,a / 8*8+64=f.bits+r:=⟨a / 8*8+64-f.bits,ω⟩;obtain⟨q,hq⟩:=zcy (H:=hiB f.width 0 0 l) (a:=a) (r:=r) ω ω;rw[show((a / 8*8:Nat):Int)+64-(f.bits:Int)=(r:Int) by omega];have hp:=Nat.two_pow_pos r
  have zu:QL (wdB (hiB f.width 0 0 l) a) / 2^r*2^r%18446744073709551616=QL (wdB (hiB f.width 0 0 l) a):=by
   rw[Nat.mod_eq_of_lt (Nat.lt_of_le_of_lt (Nat.div_mul_le_self _ _) EW),hq,Nat.mul_div_cancel _ hp]
  refine PW O$ qV (PX SL O O bK O)$ Q4 O$ qV (Vm r (2^r) O O (by show r<=64;omega) O) ?_;refine Q4 O$ qV (Sr r (2^r) O O ω O) ?_;rw[zu];refine Qb O (RV UK O O O bK ξ) ?_;rintro w6 ⟨lB,aL⟩;refine qM O$ Q4 O$ Qc O$ PO func236 O ?_;exact⟨_,rfl,rfl,R.own kX aL (λk e=>by rw[e];exact h8),cO.trans (aL.PU λk e=> .inr e),lB⟩
 ·refine PR$ Qx O$ Qc O$ PO func236 O ?_;exact⟨_,rfl,rfl,kX,cO,bK⟩
def z6f:∀{W:List Bool} {k p:Nat},SI W k=some p->∃z r,W=List.replicate z false++true::r
 |true::W,k,p,h=>⟨0,W,rfl⟩
 | false :: W, k, p, h => by
   simp only[SI,Option.map_eq_some_iff] at h;obtain⟨q,hq,-⟩:=h;obtain⟨z,r,e⟩:=z6f hq
   exact⟨z+1,r,by rw[e,List.replicate_succ];rfl⟩
 |[],k,p,h=>by simp[SI] at h
theorem z7M (z:Nat)(r:List Bool)(k:Nat):SI (List.replicate z false++true::r) (k+1)=SI (List.replicate (z+1) false++r) k:=by
 rw[VX,VX,SI,Option.map_map]
 congr 1
 funext j;show j+1+z=j+(z+1);omega
theorem zaB (z:Nat)(r:List Bool):SI (List.replicate z false++true::r) 0=some z:=by
 rw[VX,SI];simp
def z8b (z:Nat)(r:List Bool):R3 (QL (List.replicate z false++true::r))=r.length+1:=by
 rw[Zd]
 have:=S9 r
 exact z98 ω (by rw[Nat.pow_succ];omega)
theorem z3C (n:Nat):(List.replicate n false).count true=0:=by
 rw[List.count_replicate];rfl
theorem z3Z (H:List Bool)(a:Nat):(wdB H a).count true=((H.drop a).take (64-a%8)).count true:=by
 unfold wdB
 rw[List.count_append,z3C,Nat.zero_add,List.take_append,List.count_append,List.take_replicate,z3C];omega
def ze1 {W:List Bool}(h:W.length=64):(Qr 64 (QL W)).count true=W.count true:=by
 have:=z2Q W
 rw[h] at this
 rw[this]
def zdE {H:List Bool}{a k q:Nat}(h:SI (H.drop a) k=some q)(hk:k<(wdB H a).count true):SI (wdB H a) k=some (a%8+q):=by
 rw[z3Z] at hk
 have h1:=XO ((H.drop a).take (64-a%8)) ((H.drop a).drop (64-a%8)) k
 rw[List.take_append_drop,if_pos hk,h] at h1
 unfold wdB
 rw[VX,List.take_append,XO,if_pos hk,<-h1]
 show some (q+a%8)=_
 rw[Nat.add_comm]
def za3 {H:List Bool}{a k q:Nat}(h:SI (H.drop a) k=some q)(hk:(wdB H a).count true<=k):64-a%8<=q/\SI (H.drop (a / 8*8+64)) (k-(wdB H a).count true)=some (q-(64-a%8)):=by
 rw[z3Z] at hk⊢
 have h1:=XO ((H.drop a).take (64-a%8)) ((H.drop a).drop (64-a%8)) k
 rw[List.take_append_drop,if_neg ω,h] at h1
 obtain⟨p,hp,EX⟩:=Option.map_eq_some_iff.1 h1.symm
 have h2:=(z1Q hp).1
 rw[List.length_drop] at h2
 rw[List.length_take,Nat.min_eq_left ω] at EX
 rw[List.drop_drop,show a+(64-a%8)=a / 8*8+64 by omega] at hp
 exact⟨ω,by rw[hp];congr 1;omega⟩
def zaj {t:TypeId}{u:Value}{l:List Nat}{f:Fm}{z:Nat}(he:WJ l f z)(R:Src t u (ZS l f)){X:Nat->Prop}{w:World}(hI:R.inv X w)(hX:∀k,X k->k<w.heap.size){x:Nat}(hx:X x)(hB:Q7 w x (elC f t u) 277){p k q:Nat}(ay:k<=1000000)(hq:SI ((hiB f.width 0 0 l).drop p) k=some q):
  Qu prog 228 [ptr x 0,I (p:Int),I (k:Int)] w λr w'=>r= .tuple #[I ((p+q:Nat):Int),I 0]/\R.inv X w'/\Kp (λj=>¬X j) w w':=by
 have cf:=he.bits
 have eP:=he.small.2.2
 have bR:=hX x hx
 refine py (e:=[(0,_),(1,_),(2,_)]) func228 O ntmps228 O O$ qN O$ PY O O (Se O (cs:=[ptr x 0]) O) ?_
 rintro _ w1 ⟨b3,rfl,dP,ad,aw⟩
 refine TN O$ S7 O$ PY O O (SE (cs:=[_]) UK O) ?_
 rintro _ w2 ⟨b8,rfl,jf,ae,co⟩
 have z1:=ad.size
 have z2:=ae.size
 have l3:=aw.lt
 have l8:=co.lt
 have aI:=ad.trans ae
 have cX:R.inv (λj=>X j\/j=b3\/j=b8) w2:=R.ext hI aI (λj hj=>by rcases hj with e|e|e;exact .inl e;exact .inr ω;exact .inr ω)
 replace co:Q7 w2 b8 [Qg 0] 39:=co
 refine qM O$ qV (ymf (first:=[]) (caps:=[.tmp 3,.tmp 8]) O O)$ Qc O$ QS O$ Qc O$ PS$ SK (α:=Nat×Nat×Nat×Nat) ((p,k,q,0)) (λy=>[(2,I (y.2.1:Int)),(3,ptr b3 0),(8,ptr b8 0),(9,.func (.func 236) #[] #[ptr b3 0,ptr b8 0]),(10,I (y.1:Int))]) (λy w'=>R.inv (λj=>X j\/j=b3\/j=b8) w'/\Kp (λj=>¬X j) w w'/\w2.heap.size<=w'.heap.size/\Q7 w' x (elC f t u) 277/\Q7 w' b3 [ptr x 0] 137/\Q7 w' b8 [Qg y.2.2.2] 39/\SI ((hiB f.width 0 0 l).drop y.1) y.2.1=some y.2.2.1/\y.1+y.2.2.1=p+q/\y.2.1<=1000000) (λy=>f.bits-y.1) ?hI ?hround
 case hI=>exact⟨cX,aI.kp,Nat.le_refl _,aI.PN hB,ae.PN aw,co,hq,rfl,ay⟩
 case hround =>
  rintro⟨a,k4,q4,v4⟩ w4 ⟨jJ,ar,Jm,aM,eF,eV,cK,Ed,zv⟩ ih;dsimp only at jJ ar Jm aM eF eV cK Ed zv;have zw:=(z1Q cK).1;rw[List.length_drop] at zw;have q9:a<f.bits:=by omega
  have EY:∀j,(X j\/j=b3\/j=b8)->j<w4.heap.size:=λj hj=>by
   rcases hj with e|e| e
   ·have:=hX j e;omega
   ·omega
   ·omega
  have fC:Q7 w4 x [I (f.n:Int),Qg f.u,I (f.width:Int),I (f.bits:Int),.iface t u] 277:=aM
  try dsimp only
  refine QS O$ qV ((PX z4w O O eF O))$ QA O$ Qd TE O$ Qd z06 O$ qV ((PX U3 O O fC O))$ RT O$ PQ$ Q8 O (λh0=>?_)$ λh0=>?_
  ·refine PR$ RP$ An$ RI O$ RB O O (T6 zjb O O) (z8q he R jJ EY (.inl hx) (.inr (.inl O)) (.inr (.inr O)) ⟨ω,ω⟩ aM eF eV q9) ?_;rintro _ w5 ⟨rfl,kX,aj,bK⟩;have z5:=aj.size;have cO:Kp (λj=>¬X j) w w5:=ar.It aj (λj hj=>by rcases hj with e|e;exact .inr (λh=>e (.inl h));exact .inl ω);have aJ:=aj.PN aM (λe=>by rcases e with e|e;exact e (.inl hx);omega);have cY:=aj.PN eF (λe=>by rcases e with e|e;exact e (.inr (.inl O));omega);have zx:=z9E (hiB f.width 0 0 l) a;have zC:=z8E zx;have Cj:=ze1 zx;have kw:=λh=>zdE (H:=hiB f.width 0 0 l) cK h;have Jn:=λh=>za3 (H:=hiB f.width 0 0 l) cK h
   generalize wdB (hiB f.width 0 0 l) a=W at zx zC Cj kw Jn bK
   have fk:W.count true<=64:=by rw[<-zx];exact List.count_le_length
   refine RZ O$ RA O$ Re O$ An$ qN O$ qV (PX SL O O bK O)$ Qk zii O (zbN (QL W) zC w5) ?_;rintro _ w5 ⟨rfl,rfl⟩;rw[Cj];refine S7 O$ Qp O$ zle O$ PQ$ Q8 O (λh1=>?_)$ λh1=>?_
   ·obtain⟨eA,dy⟩:=Jn ω;refine RI O$ SA O$ Qc O$ Q5 O$ St O ?_;rw[show(k4:Int)-((W.count true:Nat):Int)=((k4-W.count true:Nat):Int) by omega];refine qV (zgn O O ω)$ R7 O$ Qc O ?_;rw[show((a / 8*8:Nat):Int)+64=((a / 8*8+64:Nat):Int) by omega];exact(ih (a / 8*8+64,k4-W.count true,q4-(64-a%8),QL W) _ ⟨kX,cO,ω,aJ,cY,bK,dy,by dsimp only;omega,by dsimp only;omega⟩ (by dsimp only;omega)).qb
   ·have sQ:=kw ω;refine PR$ RP$ SK (α:=List Bool×Nat) ((W,k4)) (λy=>[(2,I (y.2:Int)),(8,ptr b8 0),(10,I (a:Int))]) (λy w'=>R.inv (λj=>X j\/j=b3\/j=b8) w'/\Kp (λj=>¬X j) w w'/\Q7 w' b8 [Qg (QL y.1)] 39/\y.1.length=64/\SI y.1 y.2=some (a%8+q4)/\y.2<=1000000) (λy=>y.2) ?hI ?hround
    case hI=>exact⟨kX,cO,bK,zx,sQ,zv⟩
    case hround=>
     rintro⟨W6,k6⟩ w6 ⟨qz,aL,lB,mI,qa,EZ⟩ ih2;dsimp only at qz aL lB mI qa EZ;obtain⟨zz,r,rfl⟩:=z6f qa;have zD:=z8b zz r;have Mh:=Zd zz r;have rx:=S9 r;have zE:=z8E mI;rw[List.length_append,List.length_replicate,List.length_cons] at mI
     try dsimp only
     refine QS O$ RK O$ PQ$ Q8 O (λh2=>?_)$ λh2=>?_
     ·obtain⟨k7,rfl⟩:∃k7,k6=k7+1:=⟨k6-1,ω⟩;rw[z7M] at qa;have dR:=Ext.Qh w6;refine PR$ RP$ Qn [6] (λw'=>Ext w6 w') (by kernel_rfl) O$ qL 0 O (λ_ h=>PX SL O O (h.PN lB) O) dR$ qL 1 O (λ_ h=>PX SL O O (h.PN lB) O) dR$ Sc (i:=2) (by kernel_rfl)$ SW (i:=2) O O O (yc zfM O) (zc2 _ zE _) ?_;rintro _ w7 ⟨rfl,rfl⟩;refine⟨dR,?_⟩;rw[zD];refine Qs 3 O (YM O O ω) dR ?_;rw[show(63:Int)-((64-(r.length+1):Nat):Int)=(r.length:Int) by omega];refine Qs 4 O (Sr r.length (2^r.length) O O ω O) dR ?_;have gj:2^r.length<=2^63:=Nat.pow_le_pow_right ψ ω;rw[show 1*2^r.length%18446744073709551616=2^r.length by rw[Nat.one_mul];exact Nat.mod_eq_of_lt ω];rw[Mh];refine Qs 5 O (zlr ω rx O O O) dR$ Ut [6]$ qO 6$ QO (i:=6) O O (RV UK O O O (dR.PN lB) ξ) ?_;rintro w8 ⟨vy,aK⟩;refine⟨trivial,?_⟩;replace vy:Q7 w8 b8 [Qg (QL r)] 39:=vy;refine qE$ PM$ St O$ SA O$ Qc O ?_;rw[show((k7+1:Nat):Int)-1=(k7:Int) by omega];refine(ih2 (List.replicate (zz+1) false++r,k7) _ ⟨R.own (R.ext qz dR (λj hj=> .inl hj)) aK (λj e=> .inr (.inr e)),(aL.trans dR.kp).It aK (λj e=> .inl ω),?_,?_,qa,by dsimp only;omega⟩ (by dsimp only;omega)).qb
      ·dsimp only;rw[z3L];exact vy
      ·dsimp only;rw[List.length_append,List.length_replicate];omega
     ·have F0:k6=0:=by omega
      subst F0;rw[zaB] at qa;have P7:zz=a%8+q4:=SH qa;refine Q5 O$ Qx O$ qV (zgn O O ω)$ qV (PX SL O O lB O)$ Qk zfM O (zc2 _ zE _) ?_;rintro _ w7 ⟨rfl,rfl⟩;rw[zD];refine R7 O ?_;rw[show((a / 8*8:Nat):Int)+((64-(r.length+1):Nat):Int)=((p+q:Nat):Int) by omega];refine Rt O$ PO func228 O ?_;exact⟨_,rfl,rfl,R.ext qz (Ext.refl _) (λj hj=> .inl (.inl hj)),aL⟩
  ·omega
def zcn (l:List Nat)(f:Fm)(hf:f.Wb=12+(Qv (TF f.width l)).length+(Qv (hiB f.width 0 0 l)).length)(h4:(Qv (To f.width l)).length=4):((ZS l f).drop f.Wb).take 4=Qv (To f.width l):=by
 have h:=piece (A:=Qv (Qr 32 f.n++Qr 64 f.u)++Qv (TF f.width l)++Qv (hiB f.width 0 0 l)) (B:=Qv (To f.width l)) (C:=[]) (off:=f.Wb) (n:=4) (o:=0) (by rw[List.length_append,List.length_append,show Qv (Qr 32 f.n++Qr 64 f.u)=Qv (Ur f) from rfl,W3,hf];omega) ω
 have h2:((Qv (To f.width l)).drop 0).take 4=Qv (To f.width l):=by rw[List.drop_zero];exact List.take_of_length_le ω
 rw[List.append_nil] at h
 exact h.trans h2
def zdw {k:Nat}{l:List Nat}{y:Nat}(h:l[0]? =some y)(hy:y<4294967296):QL (Qm (Qv (To k l)))=y / 2^k/\(Qv (To k l)).length=4:=by
 obtain⟨r,rfl⟩:∃r,l=y::r:=by
  cases l with
  |nil=>simp at h
  |cons a r=>simp at h;subst h;exact⟨r,rfl⟩
 have hr:To k (y::r)=Qr 32 (y / 2^k):=rfl
 obtain⟨z,h1,h2,h3⟩:=Tw (Qr 32 (y / 2^k))
 rw[bitsN_length] at h2
 have hz:z=0:=by omega
 rw[hr,h1,hz,List.replicate_zero,List.append_nil,Rk,QN,bitsN_length]
 have:=Nat.div_le_self y (2^k)
 exact⟨Nat.mod_eq_of_lt ω,rfl⟩
def z3o {t:TypeId}{u:Value}{l:List Nat}{f:Fm}{z:Nat}(he:WJ l f z)(R:Src t u (ZS l f)){X:Nat->Prop}{w:World}(hI:R.inv X w)(hX:∀k,X k->k<w.heap.size){x:Nat}(hx:X x)(hB:Q7 w x (elC f t u) 277){i v:Nat}(hv:l[i]? =some v):
  Qu prog 222 [ptr x 0,I (i:Int)] w λr w'=>r= .tuple #[Qg v,I 0]/\R.inv X w'/\Kp (λj=>¬X j) w w':=by
 have dq:=(List.getElem?_eq_some_iff.1 hv).1
 have aH:=he.len
 have kj:=he.n2
 have qH:=he.n
 have xO:=he.zb
 have xt:f.width<=30:=by rw[he.fe];exact z0r ω
 have vw:=he.small
 have sX:∀j y k y2,l[j]? =some y->l[k]? =some y2->j<=k->y<=y2:=λj y k y2 hj hk ry=>by
  obtain⟨a1,a2⟩:=List.getElem?_eq_some_iff.1 hj;obtain⟨b1,b2⟩:=List.getElem?_eq_some_iff.1 hk;rcases Nat.lt_or_ge j k with h| h
  ·have:=List.pairwise_iff_getElem.1 he.nof j k a1 b1 h
   rwa [a2,b2] at this
  ·have e:j=k:=Nat.le_antisymm ry h;subst e;rw[hj] at hk;cases hk;exact Nat.le_refl _
 have Ja:v<=z:=sX i v _ z hv he.last ω
 obtain⟨y0,F9⟩:∃y,l[0]? =some y:=⟨_,List.getElem?_eq_getElem ω⟩
 have Fa:y0<=v:=sX 0 y0 i v F9 hv (Nat.zero_le _)
 obtain⟨Mi,iy⟩:=zdw (k:=f.width) F9 ω
 have zF:=zcn l f (by
  have e:f.Wb=f.high+(f.bits+7) / 8:=rfl
  rw[e,he.high,QN (hiB f.width 0 0 l),he.bits]) iy
 have dl:=z2G f.width l 0 0 0 y0 he.nof F9 (λy _=>Nat.zero_le _)
 have xw:=z2G f.width l 0 0 i v he.nof hv (λy _=>Nat.zero_le _)
 simp only[Nat.add_zero,Nat.sub_zero] at dl xw
 have eY:=z0M (hiB f.width 0 0 l) 0 (y0 / 2^f.width) i dl
 rw[Nat.zero_add,xw] at eY
 have Jo:y0 / 2^f.width<=v / 2^f.width:=Nat.div_le_div_right Fa
 have sY:f.Wb+4<=(ZS l f).length:=by
  rw[aH];have e:f.size=f.Wb+4*((f.n+63) / 64):=rfl;rw[e,qH];omega
 have fU:f.Wb<=40000000:=by have:=he.size_le.1;rw[aH] at sY;omega
 replace hB:Q7 w x [I (f.n:Int),Qg f.u,I (f.width:Int),I (f.bits:Int),.iface t u] 277:=hB
 refine py (e:=[(0,_),(1,_)]) func222 O ntmps222 O O$ qN O$ Rt O$ RP$ Qx O$ qV (R9 z4w O O)$ Qc O$ PZ O$ Qx O$ RT O$ QW$ Qp O$ Q4 O$ QA O ?_
 refine Qd TE O$ Qd ZQ O$ qV (PX U3 O O hB O)$ UZ O$ QW$ QY O$ Qc O$ TT O$ PM$ An ?_
 have hg:=Ext.Qh w
 refine S5 (λw'=>Kp (λk=>¬X k) w w') O$ Qi 0 O O (hg.kp)$ PT 1 O (R8 O) (hg.kp)$ PT 2 O (Qz z4r O) (hg.kp)$ qT 3 O (λ_ h=>PX z7B O O (h.PN hB (λe=>e hx)) O) (hg.kp)$ Qi 4 O O (hg.kp)$ PT 5 O (R8 O) (hg.kp)$ PT 6 O (Qz TE O) (hg.kp)$ Qi 9 O O (hg.kp)$ PT 10 O (Yh O O ω) (hg.kp)$ PT 11 O (Xq O O ω) (hg.kp)$ qT 7 O (λ_ hS=>QB (news:=fmC f) z5a O Uz O ((hS.PN hB (λe=>e hx)).cells (n:=4) O) O) (hg.kp)$ PT 13 O (ziK O) (hg.kp)$ Qi 14 O O (hg.kp) ?_
 refine T9 8 O zfY O (z5B f vw _) ?_
 rintro _ w1 ⟨rfl,ad⟩
 refine⟨(hg.trans ad).kp,?_⟩
 have ci:=hg.trans ad
 have nj:=R.ext hI ci (λk hk=> .inl hk)
 have dt:∀k,X k->k<w1.heap.size:=λk hk=>by have:=hX k hk;have:=ci.size;omega
 refine PT 12 O (Wa O O ω) ((hg.trans ad).kp) ?_
 rw[show(f.Wb:Int)+4*((i:Int) / 64)=((f.Wb:Nat):Int) by omega]
 refine qO 15$ Xr (i:=15) O O O (yci R.cr R.mr O O) (R.rd f.Wb 4 nj dt sY) ?_
 rintro _ w2 ⟨rfl,cX,am⟩
 refine⟨ci.kp.trans am,?_⟩
 rw[zF]
 have dM:Kp (λk=>¬X k) w w2:=ci.kp.trans am
 refine Qi 16 O O (ci.kp.trans am)$ PT 17 O (Sz O O) (ci.kp.trans am)$ PT 18 O (Sz O O) (ci.kp.trans am)$ PT 19 O (Sv O) (ci.kp.trans am)$ PT 20 O (Sv O) (ci.kp.trans am)$ qE$ Qy.qb (e:=[(0,_),(1,_),(4,_),(5,_),(6,_),(7,_)]) ?_
 refine QS O$ RA O$ Re O$ RI O$ Qk z95 O (Yf (Qv (To f.width l)) ω w2) ?_
 rintro _ w3 ⟨rfl,ah⟩
 rw[Mi]
 have cA:Kp (λk=>¬X k) w w3:=dM.trans ah.kp
 have Fb:=R.ext cX ah (λk hk=> .inl hk)
 have pU:∀k,X k->k<w3.heap.size:=λk hk=>by have:=hX k hk;have:=cA.size;omega
 have aw:=cA.PN hB (λe=>e hx)
 have Mj:y0 / 2^f.width<=y0:=Nat.div_le_self _ _
 have Mk:v / 2^f.width<=v:=Nat.div_le_self _ _
 have pH:v / 2^f.width*2^f.width%18446744073709551616 |||v%2^f.width=v:=by
  have h1:=Nat.div_mul_le_self v (2^f.width);rw[Nat.mod_eq_of_lt ω,Nat.mul_comm,<-Nat.two_pow_add_eq_or_of_lt (Nat.mod_lt _ (Nat.two_pow_pos _))];exact Nat.div_add_mod v (2^f.width)
 have i7:v%2^f.width<=v:=Nat.mod_le _ _
 generalize Ml:v / 2^f.width=vq at eY Jo Mk pH
 generalize y0 / 2^f.width=yq at eY Jo Mj
 refine qV (QU O SL U3 ω)$ Q4 O$ qV (yre O O ω) ?_
 rw[show(i:Int)%64=(i:Int) by omega]
 refine Qk zjj O (zaj he R Fb pU hx aw (k:=i) ω eY) ?_
 rintro _ w4 ⟨rfl,jJ,ar⟩
 rw[show yq+(vq+i-yq)=vq+i by omega]
 have fW:=cA.trans ar
 have EY:∀k,X k->k<w4.heap.size:=λk hk=>by have:=hX k hk;have:=fW.size;omega
 have aM:=fW.PN hB (λe=>e hx)
 refine Q4 O$ TK O$ Rt O$ QS O$ RA O$ Re O$ RI O$ Qk zhD O (zao he R jJ EY hx aM hv) ?_
 rintro _ w5 ⟨rfl,kX,aj⟩
 have cO:=fW.trans aj
 have aJ:=cO.PN hB (λe=>e hx)
 have Cg:=he.u
 refine Q4 O$ TK O$ Rt O$ Qy.qb (e:=[(0,_),(1,_),(4,_),(5,_),(7,_),(8,_),(9,_)]) ?_
 refine QS O$ RA O$ Re O$ RI O$ SA O ?_
 rw[show((vq+i:Nat):Int)-(i:Int)=(vq:Int) by omega]
 refine qV ((Rp O U3 SL ω))$ Q4 O$ QA O$ Qd TE O$ Qd UH O$ qV (PX U3 O O aJ O)$ qV (Sr f.width (2^f.width) O O ω O)$ Q4 O ?_
 have Ck:=Nat.mod_lt (vq*2^f.width) (show 0<18446744073709551616 by decide)
 refine qV (z1V O O ω ω) ?_
 rw[pH]
 refine Qc O$ An$ RI O$ RT O$ QW$ Qp O$ Q4 O$ QA O$ Qd TE O$ Qd zeu O$ qV (PX SL O O aJ O)$ UZ O$ QW$ QY O ?_
 refine PQ$ Qy.qb (e:=[(4,_),(5,_),(10,_),(93,_)]) ?_
 refine TT O$ Qx O$ Rt O$ PO func222 O ?_
 exact⟨_,rfl,rfl,kX,cO⟩
def zbG (a b:PV)(w:World)(hl:(a++b).length<=100000000000):Qu prog 137 [S (a++b),S a] w λu w'=>u= .bool true/\w'=w:=by
 rw[List.length_append] at hl
 have kg:(a++b).length=a.length+b.length:=List.length_append
 have ht:(a++b).take a.length=a:=List.take_left
 refine py (e:=[(0,_),(1,_)]) func137 O ntmps137 O O$ qN O$ RZ O$ qV (Wf U9 O)$ Q4 O$ qV (Wf U9 O)$ UZ O$ SM$ Qp O$ Q4 O$ qV (Wf U9 O)$ qV (z2c U9 O O ω)$ Q4 O ?_
 rw[ht]
 refine qV (zl3 O O)$ SM$ Sa O$ Qc O$ PO func137 O ?_
 exact⟨_,rfl,rfl,rfl⟩
def zbP (a b:PV)(w:World)(hl:(a++b).length<=100000000000):Qu prog 186 [S (a++b),S a] w λu w'=>u= .tuple #[S b,.bool true]/\w'=w:=by
 have kg:(a++b).length=a.length+b.length:=List.length_append
 have hd:(a++b).drop a.length=b:=List.drop_left
 refine py (e:=[(0,_),(1,_)]) func186 O ntmps186 O O$ qN O$ Rt O$ An$ RI O$ Qk zjt O (zbG a b w hl) ?_
 rintro _ w ⟨rfl,rfl⟩
 refine qV ((T7 O))$ Re O$ RI O$ qV (Wf U9 O)$ qV (ZJ U9 O O ω) ?_
 rw[hd]
 refine Rt O$ PO func186 O ?_
 exact⟨_,rfl,rfl,rfl⟩
def z7g (a b:PV)(w:World)(hl:(a++b).length<=100000000000):Qu prog 157 [S (a++b),S a] w λu w'=>u= .tuple #[S b,.bool true]/\w'=w:=by
 refine py (e:=[(0,_),(1,_)]) func157 O ntmps157 O O$ qN O$ TN O$ S7 O$ Qp O$ Qk zkR O (zbP a b w hl) ?_
 rintro _ w ⟨rfl,rfl⟩
 refine TK O$ Rt O$ PO func157 O ?_
 exact⟨_,rfl,rfl,rfl⟩
def Uh {w:World}{r a b6 b7:Nat}{s:PV}(h:V7 w r s a)(aY:Q7 w b6 [ptr r 0] 273)(bU:Q7 w b7 [.bool false] 4)(h6:b6≠r/\b7≠r/\b6≠b7)(n v:Nat)(hn:n<=64)(hv:v<2^n)(nH:v<=134217728)(rest:List Bool)(hb:(Qm s).drop a=Qr n v++rest):
  Qu prog 159 [I (n:Int),ptr b6 0,ptr b7 0] w λu w'=>u=I (v:Int)/\V7 w' r s (a+n)/\Q7 w' b6 [ptr r 0] 273/\Q7 w' b7 [.bool false] 4/\Kp (λk=>k=r\/k=b7) w w':=by
 have aH:a+n<=8*s.length:=by
  have e:=congrArg List.length hb;rw[List.length_drop,bitsT_length,List.length_append,bitsN_length] at e;have:=h.2.1;omega
 have Fc:QL (((Qm s).drop a).take n)=v:=by
  rw[hb,List.take_left' ξ,Rk];exact Nat.mod_eq_of_lt hv
 refine py (e:=[(0,_),(1,_),(2,_)]) func159 O ntmps159 O O$ qN O$ S7 O$ qV (PX Wx O O aY O)$ Q4 O$ Qk z5Q O (WE h n hn) ?_
 rintro v1 w1 fO
 have ju:v1= .tuple #[Qg v,I 0]/\V7 w1 r s (a+n)/\Kp (λk=>k=r) w w1:=by
  rcases fO with⟨-,e,h1,hk⟩|⟨e,-,-⟩
  ·rw[Fc] at e;exact⟨e,h1,hk⟩
  ·omega
 obtain⟨rfl,h1,ay⟩:=ju
 have zH:=ay.PN bU h6.2.1
 have Fe:=ay.PN aY h6.1
 refine Q4 O$ TK O$ TN O$ S7 O$ qV (PX U4 O O zH O)$ Qp O$ RA O$ QY O$ Qp O$ RK O$ QW$ QY O$ Qb O (RV VK O O O zH ξ) ?_
 rintro w2 ⟨eE,am⟩
 refine qM O$ Q4 O$ qV (VY O O ω ω) ?_
 rw[show v&&&268435455=v from(Nat.and_two_pow_sub_one_eq_mod v 28).trans (Nat.mod_eq_of_lt ω)]
 refine qV (QU O SL U3 ω)$ Qc O$ PO func159 O ?_
 exact⟨_,rfl,rfl,⟨am.PN h1.1 (λe=>h6.2.1 e.symm),h1.2⟩,am.PN Fe h6.2.2,eE,(ay.PU λk e=> .inl e).trans (am.PU λk e=> .inr e)⟩
def Uk {s:List Bool}{n v a:Nat}{rest:List Bool}(h:s.drop a=Qr n v++rest):s.drop (a+n)=rest:=by
 rw[<-List.drop_drop,h,List.drop_left' ξ]
def zdG (h:PHd):Qm (Qv (Sx (hdL h)))=Qr 32 h.n++(Qr 32 h.m++(Qr 8 h.p.Qq++(Qr 8 h.p.chain++(Qr 8 h.p.interval++(Qr 8 h.p.zeta++(Qr 32 h.p.most++(Qr 64 h.bits++[]))))))):=by
 obtain⟨z,h1,h2,h3⟩:=Tw (Sx (hdL h))
 have hl:=VO h
 have hz:z=0:=by omega
 rw[h1,hz,List.replicate_zero,List.append_nil]
 rfl
def zbl (h:PHd)(hh:h.RE)(w:World):Qu prog 128 [S (hdT h)] w λu w'=>u= .tuple #[hdV h,I 0]/\Ext w w':=by
 obtain⟨g1,g2,g3,g4,g5⟩:=id hh
 obtain⟨q1,q2,q3⟩:=id g5
 obtain⟨r1,r2,r3,r4⟩:=id q1
 have r1':h.p.Qq<=16:=r1
 have r2':h.p.interval<=64:=by
  have:h.p.interval=0\/2<=h.p.interval/\h.p.interval<=64:=r2;omega
 have r4':h.p.zeta<=16:=r4
 have Mm:=Yz h
 have qc:=zdG h
 rw[show Qm (Qv (Sx (hdL h)))=(Qm (Qv (Sx (hdL h)))).drop 0 from List.drop_zero.symm] at qc
 have gj:(Qv (Sx (hdL h))).length=24:=by rw[QN,VO]
 refine py (e:=[(0,_)]) func128 O ntmps128 O O$ qN O$ PY O O (SE (cs:=[_,_,_,_,_,_,_,_]) Vl O) ?_
 rintro _ w1 ⟨b2,rfl,bO,ad,ak⟩
 refine RZ O$ RB O O (yc (args:=[.tmp 11,.const (Value.string (⟨#[119,116,108,49]⟩))]) zk4 O) (z7g z94 (Qv (Sx (hdL h))) _ (by rw[show z94++Qv (Sx (hdL h))=hdT h from rfl];omega)) ?_
 rintro _ w1 ⟨rfl,rfl⟩
 refine Q4 O$ TK O$ Rt O$ QS O$ qV ((T7 O))$ Qp O$ qV (Wf U9 O)$ RT O$ QW$ QY O$ Re O$ Qx O ?_
 generalize Qv (Sx (hdL h))=pt at qc gj
 refine Qk z9F O (Yk pt ω w1) ?_
 rintro _ w2 ⟨r,rfl,dc,ae,dv⟩
 refine PY O O (SE (cs:=[_]) z3S O) ?_
 rintro _ w3 ⟨b6,rfl,nV,ah,aY⟩
 refine Qb O (RV z3S O O O aY ξ) ?_
 rintro w4 ⟨rz,ar⟩
 replace rz:Q7 w4 b6 [ptr r 0] 273:=rz
 refine qM O$ PY O O (SE (cs:=[_]) VK O) ?_
 rintro _ w5 ⟨b7,rfl,mH,aU,bU⟩
 refine Qb O (RV VK O O O bU ξ) ?_
 rintro w6 ⟨rA,aL⟩
 replace rA:Q7 w6 b7 [.bool false] 4:=rA
 have z1:=ad.size
 have z2:=ae.size
 have z3:=ah.size
 have z4:=ar.size
 have z5:=aU.size
 have lr:=dc.1.lt
 have l6:=rz.lt
 have l2:=ak.lt
 have vz:=aL.PN (aU.PN rz) ω
 have gU:V7 w6 r pt 0:=⟨aL.PN (aU.PN (ar.PN (ah.PN dc.1) ω)) ω,dc.2⟩
 have bB:Ext w1 w6:=(((ae.trans ah).It ar (λi e=>by omega)).trans aU).It aL (λi e=>by omega)
 refine qM O$ qV (ymf (first:=[]) (caps:=[.tmp 6,.tmp 7]) O O)$ RZ O$ RB O O (T6 z1l O O) (Uh gU vz rA ⟨ω,ω,ω⟩ 32 h.n ψ ω ω _ qc) ?_
 rintro _ v0 ⟨rfl,Ff,zI,zJ,zK⟩
 have zL:=Uk qc
 refine Q4 O$ RB O O (T6 z1l O O) (Uh Ff zI zJ ⟨ω,ω,ω⟩ 32 h.m ψ ω ω _ zL) ?_
 rintro _ v1 ⟨rfl,zM,zN,zO,zP⟩
 have zQ:=Uk zL
 refine qV (Tq (cs:=[_,_,_,_,_,_,_,_]) Vl O zfs O O)$ PY O O (SE (cs:=[_,_,_,_,_,_,_,_]) Vl O) ?_
 rintro _ w7 ⟨b9,rfl,jg,cu,cF⟩
 have zv1:=zK.size
 have zv2:=zP.size
 have z7:=cu.size
 have z6:=aL.size
 have l9:=cF.lt
 refine Qb O (QT (news:=[I (h.n:Int),I (h.m:Int),I 0,I 0,I 0,I 0,I 0,I 0]) Vl O O O O cF ξ) ?_
 rintro w8 ⟨vA,aK⟩
 replace vA:Q7 w8 b9 [I (h.n:Int),I (h.m:Int),I 0,I 0,I 0,I 0,I 0,I 0] 134:=vA
 have l7:=rA.lt
 have cV:Ext v1 w8:=cu.It aK (λi e=>by omega)
 have lV:V7 w8 r pt (0+32+32):=⟨cV.PN zM.1,zM.2⟩
 have ey:=cV.PN zN
 have Fg:=cV.PN zO
 have pQ:Kp (λk=>k=r\/k=b7) w6 w8:=(zK.trans zP).trans cV.kp
 refine PQ$ Qy.qb (e:=[(2,_),(3,_),(7,_),(8,_),(9,_)]) ?_
 refine Qx O$ RB O O (T6 z1l O O) (Uh lV ey Fg ⟨ω,ω,ω⟩ 8 h.p.Qq ψ ω ω _ zQ) ?_
 rintro _ v2 ⟨rfl,Fh,zR,zS,Fi⟩
 have zT:=Uk zQ
 refine Q4 O$ RB O O (T6 z1l O O) (Uh Fh zR zS ⟨ω,ω,ω⟩ 8 h.p.chain ψ ω ω _ zT) ?_
 rintro _ v3 ⟨rfl,Fj,zU,zV,Fk⟩
 have zW:=Uk zT
 refine Q4 O$ RB O O (T6 z1l O O) (Uh Fj zU zV ⟨ω,ω,ω⟩ 8 h.p.interval ψ ω ω _ zW) ?_
 rintro _ v4 ⟨rfl,Fl,zX,zY,Fn⟩
 have zZ:=Uk zW
 refine Q4 O$ RB O O (T6 z1l O O) (Uh Fl zX zY ⟨ω,ω,ω⟩ 8 h.p.zeta ψ ω ω _ zZ) ?_
 rintro _ v5 ⟨rfl,Fo,A0,A1,Fp⟩
 have A3:=Uk zZ
 refine Q4 O$ RB O O (T6 z1l O O) (Uh Fo A0 A1 ⟨ω,ω,ω⟩ 32 h.p.most ψ ω ω _ A3) ?_
 rintro _ v6 ⟨rfl,A4,A7,A8,Fr⟩
 have A9:=Uk A3
 have jy:Kp (λk=>k=r\/k=b7) w8 v6:=(((Fi.trans Fk).trans Fn).trans Fp).trans Fr
 have Fs:=jy.PN vA ω
 refine qV (Tq (cs:=[_,_,_,_,_]) SO O zeH O O)$ Qd ZK O$ Qb O (QT (news:=Wz h.p) SO O O O O Fs ξ) ?_
 rintro w9 ⟨vB,ax⟩
 replace vB:Q7 w9 b9 [I (h.n:Int),I (h.m:Int),I (h.p.Qq:Int),I (h.p.chain:Int),I (h.p.interval:Int),I (h.p.zeta:Int),I (h.p.most:Int),I 0] 134:=vB
 have pK:V7 w9 r pt (0+32+32+8+8+8+8+32):=⟨ax.PN A4.1 ω,A4.2⟩
 have iX:=ax.PN A7 ω
 have Ft:=ax.PN A8 ω
 refine qM O$ Q4 O$ RB O O (T6 z1l O O) (Uh pK iX Ft ⟨ω,ω,ω⟩ 64 h.bits ψ ω ω _ A9) ?_
 rintro _ v7 ⟨rfl,Mn,Jp,Aa,Ab⟩
 have Mo:=Uk A9
 have Fu:=Ab.PN vB ω
 refine Qd Wh O$ Qb O (RV Rl O O O Fu ξ) ?_
 rintro w10 ⟨mv,aB⟩
 replace mv:Q7 w10 b9 (hdC h) 134:=mv
 have Ac:=aB.PN Aa ω
 have Ad:Kp (λk=>k=r\/k=b7\/k=b9) w6 w10:=((((pQ.trans jy).PU λk e=>by omega).trans (ax.PU λk e=>by omega)).trans (Ab.PU λk e=>by omega)).trans (aB.PU λk e=>by omega)
 have gI:Ext w1 w10:=bB.It Ad (λk e=>by omega)
 refine PQ$ An$ qN O$ qV (PX U4 O O Ac O)$ Q4 O$ qV (QB (news:=hdC h) z80 O Vl O (mv.cells (n:=8) O) O)$ Qk zcN O (Z5 h hh _) ?_
 rintro _ w11 ⟨rfl,bc⟩
 refine RA O$ QY O$ PQ$ Qy.qb (e:=[(2,_),(3,_),(9,_),(51,_)]) ?_
 refine TT O$ qN O$ qV (QB (news:=hdC h) z80 O Vl O ((bc.PN mv).cells (n:=8) O) O) ?_
 have Ae:=(gI.trans bc).PN ak
 refine Qb O (QT (news:=hdC h) Vl O O O O Ae ξ) ?_
 rintro w12 ⟨jK,bA⟩
 replace jK:Q7 w12 b2 (hdC h) 134:=jK
 replace jK:Q7 w12 b2 [I (h.n:Int),I (h.m:Int),I (h.p.Qq:Int),I (h.p.chain:Int),I (h.p.interval:Int),I (h.p.zeta:Int),I (h.p.most:Int),I (h.bits:Int)] 134:=jK
 refine Qc O$ Qt func128 (.cell z80 O Vl O (Q7.cells (n:=8) jK (news:=[_,_,_,_,_,_,_,_]) O) O (.tmp O .nil)) ?_
 exact⟨_,rfl,rfl,((ad.trans gI).trans bc).It bA (λk e=>by omega)⟩
def za2 (h:PHd)(hh:h.RE)(bO:h.n<=500)(w:World):Qu prog 129 [hdV h] w λu w'=>u= .tuple #[I ((28+(h.bits+7) / 8+(Vf (h.n+1) (h.bits+1)).size:Nat):Int),I 0]/\Ext w w':=by
 obtain⟨g1,g2,g3,g4,g5⟩:=id hh
 have hs:=z4c (n:=h.n+1) (u:=h.bits+1) ω ω ω ω
 have cJ:(Vf (h.n+1) (h.bits+1)).size<=40000000:=by
  have h2:=Fm.Ym hs;obtain⟨h3,h4,h5⟩:=hs;unfold Fm.size Fm.Wb;omega
 refine py (e:=[(0,_)]) func129 O ntmps129 O O$ qN O$ PY O O (Se O (cs:=hdC h) O) ?_
 rintro _ w1 ⟨b1,rfl,bL,ad,ai⟩
 replace ai:Q7 w1 b1 [I (h.n:Int),I (h.m:Int),I (h.p.Qq:Int),I (h.p.chain:Int),I (h.p.interval:Int),I (h.p.zeta:Int),I (h.p.most:Int),I (h.bits:Int)] 134:=ai
 refine Rt O$ An$ qN O$ qV (QB (news:=hdC h) z80 O Vl O (ai.cells (n:=8) O) O)$ Qk zcN O (Z5 h hh _) ?_
 rintro _ w2 ⟨rfl,ae⟩
 have aX:=ae.PN ai
 refine RZ O$ RA O$ Re O$ qN O$ Qd Vv O$ qV (PX U3 O O aX O)$ R7 O$ Qd Wh O$ qV (PX U3 O O aX O)$ qV ((Rp O U3 SL ω)) ?_
 rw[show(h.n:Int)+1=((h.n+1:Nat):Int) by omega]
 refine Qk zkG O (z6O (h.n+1) h.bits ω ω ω _) ?_
 rintro _ w3 ⟨rfl,ah⟩
 have bZ:=ah.PN aX
 refine Q4 O$ qV (Sz (v:=I ((Vf (h.n+1) (h.bits+1)).size:Int)) O O)$ qV (Sz (v:=I 0) O O) ?_
 generalize (Vf (h.n+1) (h.bits+1)).size=q at cJ
 refine TN O$ S7 O$ Qd Wh O$ qV (PX U3 O O bZ O)$ R7 O$ qV (Yh O O ω)$ R7 O$ Q4 O$ R7 O$ Q4 O$ Rt O$ Qy.qb (e:=[(2,_),(3,_)]) ?_
 refine PO func129 O (⟨_,rfl,?_,(ad.trans ae).trans ah⟩)
 show Value.tuple #[I (28+((h.bits:Int)+7) / 8+(q:Int)),I 0]= .tuple #[I ((28+(h.bits+7) / 8+q:Nat):Int),I 0]
 rw[show(28:Int)+((h.bits:Int)+7) / 8+(q:Int)=((28+(h.bits+7) / 8+q:Nat):Int) by omega]
section
variable {P:Program}{e:Env}{d:Option Nat}{ty t:TypeId}{pos:String}{aft:Array Edge}{g:Option (Nat×Bool)}{x:Operand}{w:World}
def z86 {f:FuncId}{name:String}{u:Value}(h:methT P t name=some f):(nilAhead (P.types.size+Made.depth) t u name).run P w= .ok (some false) w:=by
 rw[show P.types.size+Made.depth=P.types.size+(Made.depth-1)+1 from rfl]
 unfold methT at h
 split at h<;>try cases h
 rename_i i hi
 split at h<;>try cases h
 rename_i m hm
 split at h<;>try cases h
 rename_i f' pr jH jI
 have ox:i.methods.find? (·.name==name)=some m:=by rw[<-hm,Array.find?_toList]
 unfold nilAhead
 split at h<;>try cases h
 ·rename_i el hu
  cases pr<;>simp at h;subst h;simp[UY hi,ox,jH,followBlind,jI]
 ·rename_i td Ji hu
  cases pr<;>simp at h;subst h;simp only[Sem.run_bind,UY hi,Result.andThen_ok,ox,jH,followBlind,Sem.run_pure,jI,run_underlying hu];cases td<;>first|exact absurd rfl (Ji _)|rfl
def zkj {td:TypeDesc}{v:Value}(ht:P.underlying t=some td)(hn:∀ms,td≠ .interface ms)(hx:look e x=some v):Y P e ⟨d,.makeInterface t x,ty,pos,aft,g⟩ (.iface t v) w w:=fun ρ hρ=>by
 simp only[execOp,hρ _ _ hx,Instr.makeInterface,Sem.run_bind,run_underlying ht,Result.andThen_ok]
 cases td<;>first|rfl|exact(hn _ rfl).elim
def ymm {nm:String}{v:Value}(hx:look e x=some v):Y P e ⟨d,.makeFunc (.method nm) #[x] #[],ty,pos,aft,g⟩ (.func (.method nm) #[v] #[]) w w:=fun ρ hρ=>by
 simp[execOp,hρ _ _ hx,Instr.makeFunc]
def zll {f:FuncId}{nm:String}{tx:TypeId}{v:Value}(hm:methT P tx nm=some f)(hx:look e x=some (.func (.method nm) #[.iface tx v] #[])):Y P e ⟨d,.nilCheck x,ty,pos,aft,g⟩ (.func (.method nm) #[.iface tx v] #[]) w w:=fun ρ hρ=>by
 have hn:=z86 (w:=w) (u:=v) hm
 have uy:(program).run P w= .ok P w:=rfl
 simp[execOp,hρ _ _ hx,uy,hn]
end
def z1p (t:TypeId)(u:Value)(a n:Nat):Value:= .agg #[.iface t u,I (a:Int),I (n:Int)]
def z6B (t:TypeId)(u:Value)(a n:Nat)(w:World):Qu prog 282 [z1p t u a n] w λv w'=>v=I (n:Int)/\Ext w w':=by
 unfold z1p
 refine py (e:=[(0,_)]) func282 O ntmps282 O O$ qN O$ PY O O (Se O (cs:=[.iface t u,I (a:Int),I (n:Int)]) O) ?_
 rintro _ w1 ⟨b1,rfl,bL,ad,ai⟩
 refine S7 O$ Qd z4T O$ qV (PX U3 O O ai O)$ Qc O$ PO func282 O ?_
 exact⟨_,rfl,rfl,ad⟩
def z7K {t:TypeId}{u:Value}{T:PV}(R:Src t u T){X:Nat->Prop}{w:World}(a n:Nat)(qd:a+n<=T.length)(hT:T.length<=100000000000)(off m:Nat)(hI:R.inv X w)(hX:∀k,X k->k<w.heap.size)(h:off+m<=n):
  Qu prog 283 [z1p t u a n,I (off:Int),I (m:Int)] w λv w'=>v= .tuple #[S ((((T.drop a).take n).drop off).take m),I 0]/\R.inv X w'/\Kp (λk=>¬X k) w w':=by
 have e:(((T.drop a).take n).drop off).take m=(T.drop (a+off)).take m:=by
  rw[List.drop_take,List.take_take,List.drop_drop,show min m (n-off)=m by omega]
 rw[e]
 unfold z1p
 refine py (e:=[(0,_),(1,_),(2,_)]) func283 O ntmps283 O O$ qN O$ PY O O (Se O (cs:=[.iface t u,I (a:Int),I (n:Int)]) O) ?_
 rintro _ w1 ⟨b1,rfl,bL,ad,ai⟩
 refine Rt O$ QS O$ RT O$ Qp O$ RT O$ QW$ QY O$ Qp O$ Qd z4T O$ qV (PX U3 O O ai O)$ RK O$ QW$ QY O$ Qp O ?_
 refine Qd z4T O$ qV (PX U3 O O ai O)$ Q4 O$ SA O$ RK O$ QW$ QY O$ PQ$ Qy.qb (e:=[(1,_),(2,_),(3,_),(6,_),(7,_),(27,_)]) ?_
 refine TT O$ qN O$ Qd zep O$ qV (PX z7B O O ai O)$ Qd zeR O$ qV (PX U3 O O ai O)$ Q4 O$ R7 O$ Q4 O ?_
 rw[show(a:Int)+(off:Int)=((a+off:Nat):Int) by omega]
 refine RB O O (yci R.cr R.mr O O) (R.rd (a+off) m (R.ext hI ad (λk hk=> .inl hk)) (λk hk=>by have:=hX k hk;have:=ad.size;omega) ω) ?_
 rintro _ w2 ⟨rfl,cX,am⟩
 refine TK O$ Rt O$ PO func283 O ?_
 exact⟨_,rfl,rfl,cX,ad.kp.trans am⟩
def zf6 {t:TypeId}{u:Value}{T:PV}(R:Src t u T)(a n:Nat)(B:PV)(qd:a+n<=T.length)(hT:T.length<=100000000000)(hB:(T.drop a).take n=B):Src 233 (z1p t u a n) B where
 inv:=R.inv
 fl:=282
 fr:=283
 cl:=ziD
 cr:=zj4
 ml:=by kernel_rfl
 mr:=by kernel_rfl
 ext:=R.ext
 step:=R.step
 len:=fun {X w} h=>by
  have e:B.length=n:=by rw[<-hB,List.length_take,List.length_drop];omega
  rw[e];exact z6B t u a n w
 rd:=fun {X w} off m h hX ho=>by
  have e:B.length=n:=by rw[<-hB,List.length_take,List.length_drop];omega
  rw[<-hB];exact z7K R a n qd hT off m h hX ω
def Xm (p:Ry)(g:List (List Nat))(E:List (Nat×Nat)):PHd:=⟨g.length,R6 g,p,(RG p g E g.length).length⟩
def pfm (p:Ry)(g:List (List Nat))(E:List (Nat×Nat)):Fm:=Vf (g.length+1) ((RG p g E g.length).length+1)
structure Ue (p:Ry)(g:List (List Nat))(E:List (Nat×Nat)):Prop where
 RE:p.RE
 gr:Tl g
 n1:1<=g.length
 pk:zbz p g E
section
variable {p:Ry}{g:List (List Nat)}{E:List (Nat×Nat)}
def Ue.head (h:Ue p g E):(Xm p g E).RE:=by
 have hn:=h.gr.n
 have hb:=h.pk.bits
 have ve:=Vh h.gr g.length
 rw[List.take_length] at ve
 exact⟨h.n1,(by show g.length<=_;omega),(by show R6 g<=_;omega),(by show(RG p g E g.length).length<=_;omega),h.RE⟩
theorem Ue.ef (h:Ue p g E):WJ (XB p g E g.length) (pfm p g E) (RG p g E g.length).length:=by
 have hn:=h.gr.n
 have hb:=h.pk.bits
 have aH:=z4l p g E g.length
 refine⟨ω,ω,z9v p g E g.length,?_,ω,?_⟩
 ·rw[aH,Nat.add_sub_cancel];exact z1z p g E (Nat.le_refl g.length)
 ·rw[aH];rfl
def Xw (p:Ry)(g:List (List Nat))(E:List (Nat×Nat)):Nat:=28+((RG p g E g.length).length+7) / 8
theorem Ue.len (h:Ue p g E):(YI p g E).length=Xw p g E+(pfm p g E).size:=by
 unfold YI Xw
 rw[List.length_append,List.length_append,Yz,QN]
 have:=h.ef.len
 show _+(ZS (XB p g E g.length) (pfm p g E)).length=_
 rw[this]
def Ue.small (h:Ue p g E):(YI p g E).length<=50000000/\40<=(YI p g E).length:=by
 have h1:=h.ef.size_le
 have h2:=h.len
 have h3:=h.pk.bits
 unfold Xw at h2
 omega
theorem zdT:((YI p g E).drop 0).take 28=hdT (Xm p g E):=by
 unfold YI
 rw[List.drop_zero,List.append_assoc,<-Yz (Xm p g E)]
 exact List.take_left
theorem Ue.index (h:Ue p g E):((YI p g E).drop (Xw p g E)).take (pfm p g E).size=ZS (XB p g E g.length) (pfm p g E):=by
 have h1:(hdT (Xm p g E)++Qv (RG p g E g.length)).length=Xw p g E:=by
  rw[List.length_append,Yz,QN];rfl
 have h2:=h.ef.len
 unfold YI
 show((hdT (Xm p g E)++Qv (RG p g E g.length)++ZS (XB p g E g.length) (pfm p g E)).drop _).take _=_
 rw[<-h1,List.drop_left,<-h2,List.take_length]
theorem zdY (h:Ue p g E)(a n:Nat)(hn:8*(a+n)<=(RG p g E g.length).length+7):((YI p g E).drop (28+a)).take n=((Qv (RG p g E g.length)).drop a).take n:=by
 unfold YI
 exact piece (by rw[Yz]) (by rw[QN];omega)
end
def gwC (h:PHd)(t:TypeId)(u:Value)(x:Nat):List Value:=[I (h.n:Int),I (h.m:Int),I (h.p.Qq:Int),I (h.p.chain:Int),I (h.p.interval:Int),I (h.p.zeta:Int),I (h.p.most:Int),I (h.bits:Int),.iface t u,ptr x 0]
def z7s {t:TypeId}{u:Value}{p:Ry}{g:List (List Nat)}{E:List (Nat×Nat)}(hp:Ue p g E)(R:Src t u (YI p g E)){X:Nat->Prop}{w:World}(hI:R.inv X w)(hX:∀k,X k->k<w.heap.size):
  Qu prog 89 [.iface t u] w λv w'=>∃k x,v= .tuple #[ptr k 0,I 0]/\Q7 w' k (gwC (Xm p g E) t u x) 139/\Q7 w' x (elC (pfm p g E) 233 (z1p t u (Xw p g E) (pfm p g E).size)) 277/\w.heap.size<=x/\w.heap.size<=k/\x≠k/\R.inv (λj=>X j\/j=x\/j=k) w'/\Kp (λj=>¬X j) w w':=by
 have aH:=hp.len
 obtain⟨eA,dy⟩:=hp.small
 have hn:=hp.gr.n
 have dl:=hp.n1
 have sE:=hp.pk.bits
 have hg:=Ext.Qh w
 have sZ:=hp.head
 have Fv:(Xm p g E).bits=(RG p g E g.length).length:=rfl
 have P8:Xw p g E=28+((Xm p g E).bits+7) / 8:=rfl
 have P9:(Xm p g E).n=g.length:=rfl
 refine py (e:=[(0,_)]) func89 O ntmps89 O O$ qN O$ Rt O$ QS O$ qV (zfV z7B O O)$ Re O$ An$ S5 (λw'=>R.inv X w'/\Kp (λk=>¬X k) w w') O$ Qi 0 O O (⟨R.ext hI hg (λk hk=> .inl hk),hg.kp⟩)$ Qi 1 O O (⟨R.ext hI hg (λk hk=> .inl hk),hg.kp⟩)$ PT 4 O (ymm O) (⟨R.ext hI hg (λk hk=> .inl hk),hg.kp⟩)$ PT 5 O (zll R.mr O) (⟨R.ext hI hg (λk hk=> .inl hk),hg.kp⟩)$ Qi 6 O O (⟨R.ext hI hg (λk hk=> .inl hk),hg.kp⟩)$ qO 2 ?_
 refine Xr (i:=2) O O O (yci R.cl R.ml O O) (R.len (R.ext hI hg (λk hk=> .inl hk))) ?_
 rintro _ w1 ⟨rfl,ad⟩
 refine⟨⟨R.ext hI (hg.trans ad) (λk hk=> .inl hk),(hg.trans ad).kp⟩,?_⟩
 have ci:=hg.trans ad
 rw[aH]
 refine PT 3 O (ymi O O) (⟨R.ext hI (hg.trans ad) (λk hk=> .inl hk),(hg.trans ad).kp⟩) ?_
 rw[show min (28:Int) ((Xw p g E+(pfm p g E).size:Nat):Int)=((28:Nat):Int) by omega]
 have nj:=R.ext hI ci (λk hk=> .inl hk)
 have dt:∀k,X k->k<w1.heap.size:=λk hk=>by have:=hX k hk;have:=ci.size;omega
 refine qO 7$ Xr (i:=7) O O O (yci R.cr R.mr O O) (R.rd 0 28 nj dt ω) ?_
 rintro _ w2 ⟨rfl,cX,am⟩
 refine⟨⟨cX,ci.kp.trans am⟩,?_⟩
 rw[zdT]
 have dM:Kp (λk=>¬X k) w w2:=ci.kp.trans am
 have fx:∀k,X k->k<w2.heap.size:=λk hk=>by have:=dt k hk;have:=am.size;omega
 refine Qi 8 O O (⟨cX,ci.kp.trans am⟩)$ PT 9 O (Sz O O) (⟨cX,ci.kp.trans am⟩)$ PT 10 O (Sz O O) (⟨cX,ci.kp.trans am⟩)$ PT 11 O (Sv O) (⟨cX,ci.kp.trans am⟩)$ PT 12 O (Sv O) (⟨cX,ci.kp.trans am⟩)$ qE$ QS O$ RA O$ Re O$ Qx O$ Qk zkH O (zbl (Xm p g E) sZ w2) ?_
 rintro _ w3 ⟨rfl,ah⟩
 refine Q4 O$ qV (Sz (v:=hdV (Xm p g E)) O O)$ qV (Sz (v:=I 0) O O)$ PY O O (SE (cs:=[_,_,_,_,_,_,_,_]) Vl O) ?_
 rintro _ w4 ⟨b6,rfl,nV,aC,aY⟩
 refine Qb O (QT (news:=hdC (Xm p g E)) Vl O O O O aY ξ) ?_
 rintro w5 ⟨fV,aj⟩
 replace fV:Q7 w5 b6 (hdC (Xm p g E)) 134:=fV
 have cC:Ext w3 w5:=aC.It aj (λi e=>by omega)
 have iQ:=ah.trans cC
 refine Qc O$ Qy.qb (e:=[(0,_),(2,_),(3,_),(5,_),(6,_)]) ?_
 refine QS O$ RA O$ Re O$ An$ qN O$ qV (QB (news:=hdC (Xm p g E)) z80 O Vl O (fV.cells (n:=8) O) O)$ Qk zjM O (za2 (Xm p g E) sZ (by show g.length<=_;omega) _) ?_
 rintro _ w6 ⟨rfl,aS⟩
 have iR:=iQ.trans aS
 have qz:=R.ext cX iR (λk hk=> .inl hk)
 have vz:=aS.PN fV
 refine Q4 O$ qV (Sz (v:=I ((Xw p g E+(pfm p g E).size:Nat):Int)) O O)$ qV (Sz (v:=I 0) O O)$ TN O$ RZ O$ RA O$ QW$ Qp O$ Q4 O$ RB O O (yci R.cl R.ml O O) (R.len qz) ?_
 rintro _ w7 ⟨rfl,cu⟩
 rw[aH]
 have Fw:=iR.trans cu
 have ij:=cu.PN vz
 refine RA O$ QW$ QY O ?_
 replace ij:Q7 w7 b6 [I ((Xm p g E).n:Int),I ((Xm p g E).m:Int),I ((Xm p g E).p.Qq:Int),I ((Xm p g E).p.chain:Int),I ((Xm p g E).p.interval:Int),I ((Xm p g E).p.zeta:Int),I ((Xm p g E).p.most:Int),I ((Xm p g E).bits:Int)] 134:=ij
 refine Re O$ qN O$ Qd Wh O$ qV (PX U3 O O ij O)$ R7 O$ qV (Yh O O ω)$ R7 O ?_
 rw[show 28+((((Xm p g E).bits:Nat):Int)+7) / 8=(Xw p g E:Int) by omega]
 refine Qc O$ Qy.qb (e:=[(0,_),(2,_),(3,_),(5,_),(6,_),(9,_)]) ?_
 refine RI O$ Q4 O ?_
 have mO:=R.ext qz cu (λk hk=> .inl hk)
 refine RB O O (yci R.cl R.ml O O) (R.len mO) ?_
 rintro _ w8 ⟨rfl,cV⟩
 rw[aH]
 have jG:=Fw.trans cV
 have ER:=R.ext mO cV (λk hk=> .inl hk)
 have ey:=cV.PN ij
 have z28:=jG.size
 refine Q4 O$ SA O ?_
 rw[show((Xw p g E+(pfm p g E).size:Nat):Int)-(Xw p g E:Int)=((pfm p g E).size:Int) by omega]
 refine qV (Tq (cs:=[_,_,_]) zjY O zkB O O)$ qV (zkj zls (λ_ h=>by cases h) rfl) ?_
 have lb6:=ey.lt
 have Mp:=R.ext (Y:=λk=>X k\/k=b6) cX jG (λk hk=>hk.imp id λe=>by have:=ah.size;omega)
 have cT:∀k,(X k\/k=b6)->k<w8.heap.size:=λk hk=>by
  rcases hk with hk| e
  ·have:=fx k hk;have:=jG.size;omega
  ·omega
 refine Qk zje O (z7d hp.ef (zf6 R (Xw p g E) (pfm p g E).size (ZS (XB p g E g.length) (pfm p g E)) ω ω hp.index) (X:=λk=>X k\/k=b6) Mp cT) ?_
 rintro _ w9 ⟨x,rfl,jp,hx,ia,ax⟩
 have iX:=ax.PN ey (λhh=>hh (.inr O))
 have Fx:Kp (λk=>¬X k) w2 w9:=jG.kp.trans (ax.PU λk hk e=>hk (.inl e))
 have z9:=ax.size
 refine Q4 O$ qV (Sz (v:=ptr x 0) O O)$ qV (Sz (v:=I 0) O O)$ Rt O$ RP$ Qx O$ RA O$ Qc O$ PZ O$ An ?_
 have ik:=Ext.Qh w9
 refine S5 (λw'=>Ext w9 w') O$ Qi 0 O O (ik)$ PT 2 O (Qz Vv O) ik$ qT 3 O (λ_ h=>PX U3 O O (h.PN iX) O) ik$ PT 4 O (Wa O O ω) ik$ T9 1 O zkf O (zba (ik.PN jp)) ?_
 rintro _ w10 ⟨rfl,rfl⟩
 refine⟨ik,?_⟩
 rw[show(pfm p g E).n=(Xm p g E).n+1 from rfl]
 refine PT 5 O (yne O O) ik$ PT 6 O (Sv O) ik$ qE$ Qy.qb (e:=[(0,_),(2,_),(3,_),(6,_),(10,_),(69,_)]) ?_
 have iC:=ik.PN iX
 have Af:=ik.PN jp
 refine Q8 O (λh9=>?_)$ λh9=>?_
 ·exact absurd ω h9
 ·refine PR$ PM$ qN O$ qV (QB (news:=hdC (Xm p g E)) z80 O Vl O (Q7.cells (n:=8) iC O) O)$ Qp O$ qV (Tq (cs:=[_,_,_,_,_,_,_,_,_,_]) zhR O zkA O O)$ PY O O (Se O (cs:=gwC (Xm p g E) t u x) O) ?_;rintro _ w11 ⟨k,rfl,hk,bc,bj⟩;refine Rt O$ PO func89 O ?_;have Fy:=ik.trans bc;have z02:=dM.size;have z28:=jG.size;have zdd:=ik.size;have lbx:=Af.lt;refine⟨_,rfl,k,x,rfl,bj,Fy.PN jp,ω,ω,ω,R.ext ia Fy (λj hj=>?_),(dM.trans Fx).trans Fy.kp⟩;rcases hj with hj|hj|hj
  ·exact .inl (.inl (.inl hj))
  ·exact .inl (.inr hj)
  ·exact .inr ω
structure W9 {t:TypeId}{u:Value}{p:Ry}{g:List (List Nat)}{E:List (Nat×Nat)}(R:Src t u (YI p g E))(k x:Nat)(X:Nat->Prop)(w:World):Prop where
 ok:Ue p g E
 PN:Q7 w k (gwC (Xm p g E) t u x) 139
 ix:Q7 w x (elC (pfm p g E) 233 (z1p t u (Xw p g E) (pfm p g E).size)) 277
 xk:X k
 xx:X x
 inv:R.inv X w
 lt:∀j,X j->j<w.heap.size
 x1:X 1
 x2:X 2
 gam:Q7 w 1 (Ts .gamma) 294
 una:Q7 w 2 (Ts .unary) 294
section
variable {t:TypeId}{u:Value}{p:Ry}{g:List (List Nat)}{E:List (Nat×Nat)}{R:Src t u (YI p g E)}{k x:Nat}{X Y S:Nat->Prop}{w w':World}
def W9.grow (h:W9 R k x X w)(hx:Ext w w')(hY:∀j,Y j->X j\/(w.heap.size<=j/\j<w'.heap.size))(aN:∀j,X j->Y j):W9 R k x Y w':=
 ⟨h.ok,hx.PN h.PN,hx.PN h.ix,aN _ h.xk,aN _ h.xx,R.ext h.inv hx (λj hj=>(hY j hj).imp id And.left),λj hj=>by
  rcases hY j hj with e| e
  ·have:=h.lt j e;have:=hx.size;omega
  ·exact e.2,aN _ h.x1,aN _ h.x2,hx.PN h.gam,hx.PN h.una⟩
def W9.ext (h:W9 R k x X w)(hx:Ext w w'):W9 R k x X w':=h.grow hx (λj hj=> .inl hj) λj hj=>hj
def W9.less (h:W9 R k x Y w)(aN:∀j,X j->Y j)(hk:X k)(hx:X x)(h1:X 1)(h2:X 2):W9 R k x X w:=
 ⟨h.ok,h.PN,h.ix,hk,hx,R.ext h.inv (Ext.refl w) (λj hj=> .inl (aN j hj)),λj hj=>h.lt j (aN j hj),h1,h2,h.gam,h.una⟩
theorem W9.step (h:W9 R k x X w)(hk:Kp S w w')(hS:∀j,S j->X j/\j≠k/\j≠x/\j≠1/\j≠2)(hY:∀j,Y j->X j\/(w.heap.size<=j/\j<w'.heap.size))(aN:∀j,X j->Y j):W9 R k x Y w':=
 ⟨h.ok,hk.PN h.PN (λe=>(hS _ e).2.1 O),hk.PN h.ix (λe=>(hS _ e).2.2.1 O),aN _ h.xk,aN _ h.xx,R.step h.inv hk (λj hj=>(hS j hj).1) (λj hj=>(hY j hj).imp id And.left),λj hj=>by
  rcases hY j hj with e| e
  ·have:=h.lt j e;have:=hk.size;omega
  ·exact e.2,aN _ h.x1,aN _ h.x2,hk.PN h.gam (λe=>(hS _ e).2.2.2.1 O),hk.PN h.una (λe=>(hS _ e).2.2.2.2 O)⟩
def W9.own (h:W9 R k x X w)(hk:Kp S w w')(hS:∀j,S j->X j/\j≠k/\j≠x/\j≠1/\j≠2):W9 R k x X w':=
 ⟨h.ok,hk.PN h.PN (λe=>(hS _ e).2.1 O),hk.PN h.ix (λe=>(hS _ e).2.2.1 O),h.xk,h.xx,R.own h.inv hk (λj hj=>(hS j hj).1),λj hj=>by have:=h.lt j hj;have:=hk.size;omega,h.x1,h.x2,hk.PN h.gam (λe=>(hS _ e).2.2.2.1 O),hk.PN h.una (λe=>(hS _ e).2.2.2.2 O)⟩
def W9.src (h:W9 R k x X w)(hk:Kp (λj=>¬X j) w w')(hI:R.inv X w'):W9 R k x X w':=
 ⟨h.ok,hk.PN h.PN (λe=>e h.xk),hk.PN h.ix (λe=>e h.xx),h.xk,h.xx,hI,λj hj=>by have:=h.lt j hj;have:=hk.size;omega,h.x1,h.x2,hk.PN h.gam (λe=>e h.x1),hk.PN h.una (λe=>e h.x2)⟩
def W9.R2 (R:Src t u (YI p g E))(h:Ue p g E):Src 233 (z1p t u (Xw p g E) (pfm p g E).size) (ZS (XB p g E g.length) (pfm p g E)):=
 zf6 R (Xw p g E) (pfm p g E).size _ (by have:=h.len;omega) (by have:=h.small;omega) h.index
theorem W9.cells (h:W9 R k x X w):Q7 w k [I ((Xm p g E).n:Int),I ((Xm p g E).m:Int),I ((Xm p g E).p.Qq:Int),I ((Xm p g E).p.chain:Int),I ((Xm p g E).p.interval:Int),I ((Xm p g E).p.zeta:Int),I ((Xm p g E).p.most:Int),I ((Xm p g E).bits:Int),.iface t u,ptr x 0] 139:=h.PN
def ze2 (h:W9 R k x X w):Qu prog 30 [ptr k 0] w λv w'=>v=I (g.length:Int)/\w'=w:=by
 have hB:=h.cells
 refine py (e:=[(0,_)]) func30 O ntmps30 O O$ RN O$ QS O$ qV (R9 YV O O)$ Re O$ Qx O$ QA O$ Qd X8 O$ Qd Vv O$ qV (PX U3 O O hB O)$ Qc O$ PO func30 O ?_
 exact⟨_,rfl,rfl,rfl⟩
theorem z8p (h:W9 R k x X w){b v c:Nat}(hv:v<g.length)(hr:Rd w (.slice (some ⟨b,0,none⟩) 1 c) 1 1 [I (v:Int)]):Qu prog 193 [ptr k 0,.slice (some ⟨b,0,none⟩) 1 c] w λv w'=>v=I 0/\w'=w:=by
 have hB:=h.cells
 have hn:(Xm p g E).n=g.length:=rfl
 refine py (e:=[(0,_),(1,_)]) func193 O ntmps193 O O$ RN O$ QS O$ qV (R9 YV O O)$ Re O$ QS O$ SR SC O$ Q4 O$ PQ$ PS$ SK (α:=Nat) (0) (λi=>[(0,ptr k 0),(9,.slice (some ⟨b,0,none⟩) 1 c),(10,I 1),(11,I (i:Int))]) (λi w'=>w'=w/\i<=1) (λi=>1-i) ?hI ?hround
 case hI=>exact⟨rfl,Nat.zero_le _⟩
 case hround=>
  rintro i w2 ⟨rfl,hi⟩ ih
  try dsimp only
  refine qN O$ RT O$ PQ$ An$ Q8 O (λh0=>?_)$ λh0=>?_
  ·have gT:i=0:=by omega
   subst gT;refine PR$ RP$ qN O$ qV (Rh SC Rl O O ω)$ qV (QF U3 O O (Rf hr O))$ RZ O$ RT O$ QW$ Qp O$ Q4 O$ QA O$ Qd X8 O$ Qd Vv O$ qV (PX U3 O O hB O) ?_;refine UZ O$ QW$ QY O$ Re O$ PM$ PW O$ R7 O$ Q4 O$ PQ ?_;exact(ih 1 _ ⟨rfl,ω⟩ ω).qb
  ·refine Q5 O$ RN O$ PO func193 O ?_;exact⟨_,rfl,rfl,rfl⟩
def zaD {p:Ry}{g:List (List Nat)}{E:List (Nat×Nat)}{v a n:Nat}{s:PV}(hs:((Qv (RG p g E g.length)).drop (a / 8)).take n=s)(ha:(RG p g E v).length=a)(hv:v<g.length)(hn:a+(Z4 p g E v).length<=8*(a / 8+n)):∃rest,(Qm s).drop (a%8)=Z4 p g E v++rest:=by
 have cH:∃r,RG p g E g.length=RG p g E (v+1)++r:=by
  have key:∀d i,∃r,RG p g E (i+d)=RG p g E i++r:=λd i=>by
   induction d with
   |zero=>exact⟨[],ξ⟩
   | succ d ih =>
     obtain⟨r,hr⟩:=ih;exact⟨r++Z4 p g E (i+d),by rw[<-Nat.add_assoc,Uo,hr,List.append_assoc]⟩
  obtain⟨r,hr⟩:=key (g.length-(v+1)) (v+1);rw[show v+1+(g.length-(v+1))=g.length by omega] at hr;exact⟨r,hr⟩
 obtain⟨r,hr⟩:=cH
 obtain⟨z,hz,-,-⟩:=Tw (RG p g E g.length)
 rw[<-hs,VT,UT,hz,hr,Uo,List.drop_take,List.drop_drop,show 8*(a / 8)+a%8=a by omega,List.append_assoc,List.append_assoc,List.drop_left' ha,List.take_append,List.take_of_length_le ω]
 exact⟨_,rfl⟩
def z84 (h:W9 R k x X w){v:Nat}(hv:v<g.length):Qu prog 212 [ptr k 0,I (v:Int)] w λr w'=>∃(b a e:Nat) (s:PV) (rest:List Bool),r= .tuple #[ptr b 0,I (e:Int),I 0]/\V7 w' b s a/\(Qm s).drop a=Z4 p g E v++rest/\a+(Z4 p g E v).length=e/\w.heap.size<=b/\W9 R k x (λj=>X j\/j=b) w'/\Kp (λj=>¬X j) w w':=by
 have hn:=h.ok.gr.n
 have sE:=h.ok.pk.bits
 have hB:=h.cells
 have Fz:=z1z p g E (n:=g.length) (i:=v) ω
 have Ag:=z1z p g E (n:=g.length) (i:=v+1) ω
 have pZ:=Yl p g E (g.length-(v+1)) (v+1)
 rw[show v+1+(g.length-(v+1))=g.length by omega] at pZ
 have dZ:=Uo p g E v
 have mt:=congrArg List.length dZ
 rw[List.length_append] at mt
 refine py (e:=[(0,_),(1,_)]) func212 O ntmps212 O O$ qN O$ TN O$ TN O$ RZ O$ QA O$ Qd z9M O$ qV (PX z4w O O hB O)$ Q4 O$ Qk zfm O (z3o h.ok.ef (W9.R2 R h.ok) h.inv h.lt h.xx h.ix Fz) ?_
 rintro _ w1 ⟨rfl,nj,ay⟩
 have h1:=h.src ay nj
 have ai:=h1.cells
 refine Q4 O$ TK O$ Rt O$ QS O$ RA O$ Re O$ Qx O$ QA O$ Qd z9M O$ qV (PX z4w O O ai O)$ Q4 O$ R7 O ?_
 rw[show(v:Int)+1=((v+1:Nat):Int) by omega]
 refine Qk zfm O (z3o h1.ok.ef (W9.R2 R h1.ok) h1.inv h1.lt h1.xx h1.ix Ag) ?_
 rintro _ w2 ⟨rfl,cX,am⟩
 have h2:=h1.src am cX
 have ak:=h2.cells
 have dM:=ay.trans am
 obtain⟨al,q9⟩:∃n,(RG p g E v).length=n:=⟨_,rfl⟩
 obtain⟨bl,eP⟩:∃n,(RG p g E (v+1)).length=n:=⟨_,rfl⟩
 rw[q9,eP]
 have Fv:(Xm p g E).bits=(RG p g E g.length).length:=rfl
 refine Q4 O$ TK O$ Rt O$ Qy.qb (e:=[(0,_),(4,_),(5,_),(6,_),(7,_),(8,_),(9,_)]) ?_
 refine RP$ Qx O$ RA O$ Qc O$ PZ O$ RI O$ RK O$ QW$ Qp O$ Q4 O$ QA O$ Qd X8 O$ Qd Wh O$ qV (PX U3 O O ak O) ?_
 refine qV ((Rp O U3 SL ω))$ RK O$ QW$ QY O$ Qc O$ TT O$ PM$ Qx O$ qV (zjl O O O (by simp only[IntKind.bits];omega) ω) ?_
 refine qV (QU O SL U3 ω)$ Qc O$ Qy.qb (e:=[(0,_),(4,_),(5,_),(6,_),(7,_),(8,_),(9,_),(10,_)]) ?_
 refine Qx O$ QA O$ Qd zdH O$ qV (PX z7B O O ak O)$ Q4 O$ R7 O$ Q4 O$ qV (Wt O O)$ qV (QU O SL U3 ω)$ qV (Yh O O ω)$ Q4 O$ SA O ?_
 have sW:28+al / 8+((bl+7) / 8-al / 8)<=(YI p g E).length:=by have:=h.ok.len;unfold Xw at this;omega
 rw[show 28+((al / 8:Nat):Int)=((28+al / 8:Nat):Int) by omega]
 rw[show((((bl+7)%18446744073709551616:Nat):Int)) / 8-((al / 8:Nat):Int)=(((bl+7) / 8-al / 8:Nat):Int) by omega]
 refine RB O O (yci R.cr R.mr O O) (R.rd (28+al / 8) ((bl+7) / 8-al / 8) h2.inv h2.lt sW) ?_
 rintro _ w3 ⟨rfl,Fb,av⟩
 have h3:=h2.src av Fb
 rw[zdY h.ok (al / 8) ((bl+7) / 8-al / 8) ω]
 obtain⟨s,hs⟩:∃s,((Qv (RG p g E g.length)).drop (al / 8)).take ((bl+7) / 8-al / 8)=s:=⟨_,rfl⟩
 rw[hs]
 refine Q4 O$ TK O$ Rt O$ Qy.qb (e:=[(4,_),(5,_),(6,_),(7,_),(8,_),(9,_),(10,_),(11,_)]) ?_
 refine QS O$ RA O ?_
 have fU:s.length=(bl+7) / 8-al / 8:=by
  rw[<-hs,List.length_take,List.length_drop,QN];omega
 obtain⟨rest,jL⟩:∃rest,(Qm s).drop (al%8)=Z4 p g E v++rest:=zaD hs q9 hv ω
 refine Re O$ Qx O$ Qk z9F O (Yk s ω w3) ?_
 rintro _ w4 ⟨b,rfl,ez,aC,hb⟩
 have lb:=ez.1.lt
 have h4:W9 R k x (λj=>X j\/j=b) w4:=h3.grow aC (λj hj=>hj.imp id λe=>by omega) (λj hj=> .inl hj)
 have fg:¬X b:=λe=>by have:=h3.lt b e;omega
 refine S7 O$ Qp O$ qV (QU O SL U3 ω)$ Q4 O$ qV (Xq O O ω)$ SA O ?_
 rw[show(al:Int)-8*((al / 8:Nat):Int)=((al%8:Nat):Int) by omega]
 refine Qk zbK O (z0P ez (al%8) ω) ?_
 rintro _ w5 ⟨rfl,kG,aj⟩
 have h5:=h4.own aj (λj e=>by
  subst e
  exact⟨.inr O,λe=>fg (e▸h.xk),λe=>fg (e▸h.xx),λe=>fg (e▸h.x1),λe=>fg (e▸h.x2)⟩)
 refine qM O$ Qp O$ qV (QU O SL U3 ω)$ Q4 O$ qV (Xq O O ω)$ SA O ?_
 rw[show(bl:Int)-8*((al / 8:Nat):Int)=((bl-8*(al / 8):Nat):Int) by omega]
 refine TN O$ Rt O$ Qy.qb (e:=[(4,_),(5,_),(6,_)]) ?_
 refine PO func212 O ?_
 have z03:=(dM.trans av).size
 exact⟨_,rfl,b,al%8,bl-8*(al / 8),s,rest,rfl,kG,jL,ω,ω,h5,((dM.trans av).trans aC.kp).It aj (λj e=> .inl ω)⟩
end
def Qe (g:List (List Nat))(v:Nat):List Nat:=(g[v]?).getD []
def QC (g:List (List Nat))(E:List (Nat×Nat))(v:Nat):Nat:=if Qe g v=[] then 0 else((E[v]?).getD (0,0)).1
def UR (p:Ry)(g:List (List Nat))(E:List (Nat×Nat))(v:Nat):List (Cd×Nat):=if Qe g v=[] then [] else VM p.list v (Qe g v) (RM g v (QC g E v)) (QC g E v)
def zb9 (p:Ry)(g:List (List Nat))(E:List (Nat×Nat))(v:Nat):Z4 p g E v=Qo (RF p.list (Qe g v).length (QC g E v))++Qo (UR p g E v):=by
 unfold Z4 UR QC
 rw[<-TD]
 by_cases h:Qe g v=[]
 ·have h':(g[v]?).getD []=[]:=h;rw[if_pos h,if_pos h,h',h]
  rfl
 ·rw[if_neg h,if_neg h];have:=z2E p.list v (ref:=RM g v ((E[v]?).getD (0,0)).1) ((E[v]?).getD (0,0)).1 h;rw[<-this];rfl
section
variable {t:TypeId}{u:Value}{p:Ry}{g:List (List Nat)}{E:List (Nat×Nat)}{R:Src t u (YI p g E)}{k x:Nat}{X:Nat->Prop}{w w':World}
def Ue.ent (h:Ue p g E){v:Nat}(hv:v<g.length):z1i p g E v (Qe g v).length ((E[v]?).getD (0,0)):=by
 have hl:=h.pk.el
 obtain⟨e,he⟩:∃e,E[v]? =some e:=⟨_,List.getElem?_eq_getElem ω⟩
 have:=h.pk.ok.ent v e he
 rw[he];exact this
def Ue.z48 (h:Ue p g E){v:Nat}(hv:v<g.length):QC g E v<=p.Qq/\QC g E v<=v:=by
 unfold QC
 split
 ·omega
 ·rcases h.ent hv with e| e
  ·rw[e];exact⟨Nat.zero_le _,Nat.zero_le _⟩
  ·exact⟨e.2.1,e.2.2.1⟩
def Ue.suc (h:Ue p g E){v:Nat}(hv:v<g.length):QP (Qe g v)/\(Qe g v).length<=g.length/\∀y∈Qe g v,y<g.length:=by
 have hm:Qe g v∈g:=by
  unfold Qe;rw[List.getElem?_eq_getElem hv];exact List.getElem_mem hv
 exact⟨h.gr.ok _ hm,h.gr.len hm,h.gr.lt _ hm⟩
def z7Z (h:W9 R k x X w){v:Nat}(hv:v<g.length):Qu prog 195 [ptr k 0,I (v:Int)] w λr w'=>∃(b a:Nat) (s:PV) (rest:List Bool),r= .tuple #[.agg #[I ((Qe g v).length:Int),I (QC g E v:Int)],ptr b 0,I ((a+(Qo (UR p g E v)).length:Nat):Int),I 0]/\V7 w' b s a/\(Qm s).drop a=Qo (UR p g E v)++rest/\w.heap.size<=b/\W9 R k x (λj=>X j\/j=b) w'/\Kp (λj=>¬X j) w w':=by
 have hn:=h.ok.gr.n
 obtain⟨eA,dy,pS⟩:=h.ok.suc hv
 have fH:=h.ok.z48 hv
 have rl:=zb9 p g E v
 have t8:(Qe g v).length=0->QC g E v=0:=λe=>by unfold QC;rw[if_pos (List.eq_nil_of_length_eq_zero e)]
 refine py (e:=[(0,_),(1,_)]) func195 O ntmps195 O O$ qN O$ PY O O (SE (cs:=[_,_]) Tv O) ?_
 rintro _ w1 ⟨b4,rfl,eM,ad,aM⟩
 have l4:=aM.lt
 have h1:W9 R k x (λj=>X j\/j=b4) w1:=h.grow ad (λj hj=>hj.imp id λe=>by omega) (λj hj=> .inl hj)
 have aC:∀j,X j->j≠b4:=λj hj e=>by have:=h.lt j hj;omega
 refine TN O$ TN O$ S7 O$ Qp O$ Qk zhq O (z84 h1 hv) ?_
 rintro _ w2 ⟨b,a,e,s,rest,rfl,dc,hd,he,hb,h2,am⟩
 have bC:=am.PN aM (λe=>e (.inr O))
 have Mq:=h2.cells
 have lb:=dc.1.lt
 have fg:∀j,X j->j≠b:=λj hj e=>by have:=h.lt j hj;have:=ad.size;omega
 have nl:∀j,j=b->(X j\/j=b4)\/j=b:=λj e=> .inr e
 refine Q4 O$ qV (Sz (v:=ptr b 0) O O)$ qV (Sz (v:=I (e:Int)) O O)$ qV (Sz (v:=I 0) O O)$ TN O$ Rt O$ QS O$ RA O$ Re O$ RI O$ QA O$ Qd X8 O$ Qd ZK O$ qV (QB (news:=Wz p) U75 O SO O (Q7.cells (i:=2) (n:=5) Mq O) O) ?_
 refine Qk z2j O (Ud p w2) ?_
 rintro _ w3 ⟨rfl,ah⟩
 have h3:=h2.ext ah
 have jo:V7 w3 b s a:=⟨ah.PN dc.1,dc.2⟩
 rw[rl,List.append_assoc] at hd
 refine Qk zfe O (z3y jo p.list h.ok.RE.1 h3.gam h3.una (λe=>fg 1 h.x1 e) (λe=>fg 2 h.x2 e) (Qe g v).length (QC g E v) ω fH.1 t8 _ hd) ?_
 rintro _ w4 ⟨rfl,ez,ar⟩
 have J6:=Tx hd
 have h4:=h3.own ar (λj e=>⟨.inr e,λe'=>fg k h.xk (e'▸e),λe'=>fg x h.xx (e'▸e),λe'=>fg 1 h.x1 (e'▸e),λe'=>fg 2 h.x2 (e'▸e)⟩)
 have cI:=ar.PN (ah.PN bC) (λe=>by omega)
 have fU:=congrArg List.length rl
 rw[List.length_append] at fU
 refine Q4 O$ qV (Sz (v:= .agg #[I ((Qe g v).length:Int),I (QC g E v:Int)]) O O)$ qV (Sz (v:=I 0) O O)$ PY O O (SE (cs:=[_,_]) Tv O) ?_
 rintro _ w5 ⟨b11,rfl,jw,aU,bj⟩
 refine Qb O (QT (news:=[I ((Qe g v).length:Int),I (QC g E v:Int)]) Tv O O O O bj ξ) ?_
 rintro w6 ⟨oH,aL⟩
 replace oH:Q7 w6 b11 [I ((Qe g v).length:Int),I (QC g E v:Int)] 308:=oH
 have cW:Ext w4 w6:=aU.It aL (λj e=>by omega)
 have h6:=h4.ext cW
 have gU:V7 w6 b s (a+(Qo (RF p.list (Qe g v).length (QC g E v))).length):=⟨cW.PN ez.1,ez.2⟩
 refine Qc O$ Qy.qb (e:=[(4,_),(5,_),(6,_),(7,_),(8,_),(9,_),(10,_),(11,_)]) ?_
 refine QS O$ RA O$ QW$ Qp O$ Qk ZW O (Vw gU) ?_
 rintro _ w6 ⟨rfl,rfl⟩
 refine Q4 O$ RK O$ QW$ QY O$ Re O$ qN O$ qV (QB (news:=[I ((Qe g v).length:Int),I (QC g E v:Int)]) z6k O Tv O (Q7.cells (n:=2) oH O) O)$ Qp O ?_
 have bY:=cW.PN cI
 refine Qb O (QT (news:=[I ((Qe g v).length:Int),I (QC g E v:Int)]) Tv O O O O bY ξ) ?_
 rintro w7 ⟨bu,aA⟩
 replace bu:Q7 w7 b4 [I ((Qe g v).length:Int),I (QC g E v:Int)] 308:=bu
 have h7:=(h6.own aA (λj e=>⟨.inl (.inr e),λe'=>aC k h.xk (e'▸e),λe'=>aC x h.xx (e'▸e),λe'=>aC 1 h.x1 (e'▸e),λe'=>aC 2 h.x2 (e'▸e)⟩)).less (X:=λj=>X j\/j=b) (λj hj=>hj.imp .inl id) (.inl h.xk) (.inl h.xx) (.inl h.x1) (.inl h.x2)
 have FA:V7 w7 b s (a+(Qo (RF p.list (Qe g v).length (QC g E v))).length):=⟨aA.PN gU.1 ω,gU.2⟩
 refine TN O$ Rt O$ Qt func195 (.cell z6k O Tv O (Q7.cells (n:=2) bu (news:=[_,_]) O) O (.tmp O (.tmp O (.tmp O .nil)))) (⟨_,rfl,b,a+(Qo (RF p.list (Qe g v).length (QC g E v))).length,s,rest,?_,FA,J6,by have:=ad.size;omega,h7,?_⟩)
 ·rw[show a+(Qo (RF p.list (Qe g v).length (QC g E v))).length+(Qo (UR p g E v)).length=e by omega]
  rfl
 ·have pQ:Kp (λj=>¬X j) w w4:=((ad.kp.trans (am.PU λj e e'=>e (.inl e'))).trans ah.kp).It ar (λj e=> .inl (by have:=ad.size;omega));exact(pQ.trans cW.kp).It aA (λj e=> .inl ω)
end
section
variable {t:TypeId}{u:Value}{p:Ry}{g:List (List Nat)}{E:List (Nat×Nat)}{R:Src t u (YI p g E)}{k x gb pb fb:Nat}{X Y S:Nat->Prop}{w w':World}
abbrev z6v (w:World)(vv:Value)(l:List Nat):Prop:=Sl w vv 59 1 l.length (l.map QJ)
def Vb (E:List (Nat×Nat))(v:Nat):Nat:=((E[v]?).getD (0,0)).2
structure TdM (R:Src t u (YI p g E))(k x gb pb fb:Nat)(X:Nat->Prop)(w:World):Prop where
 gw:W9 R k x X w
 bg:Q7 w gb [ptr k 0] 28
 bp:Q7 w pb [I (p.Qq:Int),I (p.chain:Int),I (p.interval:Int),I (p.zeta:Int),I (p.most:Int)] 75
 bf:Q7 w fb [.func (.func 194) #[] #[ptr gb 0,ptr pb 0,ptr fb 0]] 306
 xg:X gb
 xp:X pb
 xf:X fb
theorem TdM.step (h:TdM R k x gb pb fb X w)(hk:Kp S w w')(hS:∀j,S j->X j->False)(h2:W9 R k x Y w')(aN:∀j,X j->Y j):TdM R k x gb pb fb Y w':=
 ⟨h2,hk.PN h.bg (λe=>hS _ e h.xg),hk.PN h.bp (λe=>hS _ e h.xp),hk.PN h.bf (λe=>hS _ e h.xf),aN _ h.xg,aN _ h.xp,aN _ h.xf⟩
def Yo (R:Src t u (YI p g E))(k x gb pb fb v behind:Nat)(X:Nat->Prop)(w:World):Prop:=
 Qu prog 194 [I (v:Int),I (behind:Int),ptr gb 0,ptr pb 0,ptr fb 0] w λr w'=>∃vv,r= .tuple #[vv,I 0]/\z6v w' vv (Qe g v)/\(∀b,vv.ownBlock=some b->w.heap.size<=b)/\W9 R k x (λj=>X j\/vv.ownBlock=some j) w'/\Kp (λj=>¬X j) w w'
def Ue.back (h:Ue p g E){v:Nat}(hv:v<g.length)(hq:0<QC g E v):QC g E v<=v/\Vb E v=Vb E (v-QC g E v)+1/\RM g v (QC g E v)=Qe g (v-QC g E v)/\0<(Qe g (v-QC g E v)).length/\(Qe g (v-QC g E v)).length<=p.most/\(Qe g v).length<=p.most/\Qe g v≠[]/\Vb E v<=p.chain:=by
 have bE:Qe g v≠[]:=λe=>by unfold QC at hq;rw[if_pos e] at hq;omega
 have hb:QC g E v=((E[v]?).getD (0,0)).1:=by unfold QC;rw[if_neg bE]
 rcases h.ent hv with e|⟨h1,h2,h3,l,e',h4,h5,h6,h7⟩
 ·rw[hb,e] at hq;cases hq
 ·rw[<-hb] at h1 h2 h3 h4 h5;have Mr:=of_decide_eq_true h7;have hs:Qe g (v-QC g E v)=l:=by unfold Qe;rw[h4];rfl
  refine⟨h3,?_,?_,by rw[hs];omega,by rw[hs];omega,ω,bE,?_⟩
  ·unfold Vb;rw[h5];exact h6
  ·unfold RM;rw[if_neg ω];rfl
  ·show((E[v]?).getD (0,0)).2<=_;omega
theorem zbo (az:Ue p g E)(jF:g.length<50){v:Nat}(hv:v<g.length){b a:Nat}{s:PV}{rest:List Bool}(hR:V7 w b s a)(hd:(Qm s).drop a=Qo (UR p g E v)++rest)(hG:Q7 w 1 (Ts .gamma) 294)(hU:Q7 w 2 (Ts .unary) 294)(h1:¬1=b)(h2:¬2=b)
  {vb:Value} (dF:QC g E v=0->vb= .slice none 0 0) (hS:0<QC g E v->z6v w vb (Qe g (v-QC g E v))) (C5:∀j,vb.ownBlock=some j->j≠b):
  Qu prog 196 [ptr b 0,I (v:Int),I (g.length:Int),.agg #[I ((Qe g v).length:Int),I (QC g E v:Int)],vb,lpV p.list] w λr w'=>∃vv,r= .tuple #[vv,I 0]/\z6v w' vv (Qe g v)/\(∀j,vv.ownBlock=some j->w.heap.size<=j)/\V7 w' b s (a+(Qo (UR p g E v)).length)/\Kp (λj=>j=b) w w':=by
 obtain⟨eA,dy,pS⟩:=az.suc hv
 have fH:=az.z48 hv
 by_cases bE:Qe g v=[]
 ·have t8:QC g E v=0:=by unfold QC;rw[if_pos bE]
  have FB:UR p g E v=[]:=by unfold UR;rw[if_pos bE]
  rw[t8,dF t8,FB,bE];refine(z4X p.list az.RE.1 v ω g.length ω).mono λr w' hr=>?_;obtain⟨rfl,hx⟩:=hr;exact⟨_,rfl,Sl.nil _ _ _,λj e=>(by cases e),⟨hx.PN hR.1,hR.2⟩,hx.kp⟩
 ·have FB:UR p g E v=VM p.list v (Qe g v) (RM g v (QC g E v)) (QC g E v):=by unfold UR;rw[if_neg bE]
  have jl:QP (RM g v (QC g E v))/\(RM g v (QC g E v)).length<=60:=by
   have hn:=az.gr.n;rcases Ys g v (QC g E v) with e| e
   ·rw[e];exact⟨⟨List.Pairwise.nil,λy hy=>(by cases hy)⟩,ξ⟩
   ·exact⟨az.gr.ok _ e,by have:=az.gr.len e;omega⟩
  have CS:=z0G az.RE.1 (x:=v) ω eA jl.1 fH.1 ω jl.2;rw[FB] at hd⊢;rcases Nat.eq_zero_or_pos (QC g E v) with h0|h0
  ·have mM:RM g v (QC g E v)=[]:=by unfold RM;rw[if_pos h0]
   rw[dF h0];have:=z1n hR p.list az.RE.1 v ω g.length ω (ra:=none) (rc:=0) (Qe g v) (RM g v (QC g E v)) eA bE ω pS jl.1 (QC g E v) fH.1 (λ_=>mM) hG hU h1 h2 (λw2 am=>by rw[mM];exact(Sl.nil _ 59 1).rd) (by rw[mM];exact Nat.le_refl _) ω rest hd;rw[mM] at this⊢;exact this
  ·obtain⟨q1,q2,q3,q4,q5,q6,q7,q8⟩:=az.back hv h0;have FC:=hS h0;rw[<-q3] at FC
   obtain⟨ga,gc,rfl,kF⟩:∃a c,vb= .slice a (RM g v (QC g E v)).length c/\(RM g v (QC g E v)).length<=c:=by
    rcases FC.shape with⟨-,e⟩|⟨b,c,e,hc⟩
    ·rw[q3] at e;omega
    ·exact⟨_,c,e,hc⟩
   exact z1n hR p.list az.RE.1 v ω g.length ω (ra:=ga) (rc:=gc) (Qe g v) (RM g v (QC g E v)) eA bE ω pS jl.1 (QC g E v) fH.1 (λe=>by omega) hG hU h1 h2 (λw2 am=>(FC.kp am λj e=>C5 j e).rd) kF ω rest hd
end
section
variable {t:TypeId}{u:Value}{p:Ry}{g:List (List Nat)}{E:List (Nat×Nat)}{R:Src t u (YI p g E)}{k x gb pb fb:Nat}{X Y:Nat->Prop}{w w':World}
theorem z0W (jF:g.length<50){v behind:Nat}(hv:v<g.length)(Cm:behind+Vb E v<=p.chain)(ht:TdM R k x gb pb fb X w)
  (ih:0<QC g E v->∀(X':Nat->Prop) (w':World),TdM R k x gb pb fb X' w'->Yo R k x gb pb fb (v-QC g E v) (behind+1) X' w'):Yo R k x gb pb fb v behind X w:=by
 have az:=ht.gw.ok
 have hn:=az.gr.n
 have Pa:p.chain<=1000000:=by have:=az.RE.2.1;omega
 obtain⟨eA,dy,pS⟩:=az.suc hv
 have fH:=az.z48 hv
 have vg:=ht.bg
 unfold Yo
 refine py (e:=[(0,_),(1,_),(2,_),(3,_),(4,_)]) func194 O ntmps194 O O$ qN O$ TN O$ S7 O$ qV (PX YV O O vg O)$ Q4 O$ Qk zkL O (z7Z ht.gw hv) ?_
 rintro _ w1 ⟨b,a,s,rest,rfl,i3,uR,bL,h1,ay⟩
 have lb1:=i3.1.lt
 have cT:∀j,X j->j≠b:=λj hj e=>by have:=ht.gw.lt j hj;omega
 refine Q4 O$ qV (Sz (v:= .agg #[I ((Qe g v).length:Int),I (QC g E v:Int)]) O O)$ qV (Sz (v:=ptr b 0) O O)$ qV (Sz (v:=I ((a+(Qo (UR p g E v)).length:Nat):Int)) O O)$ qV (Sz (v:=I 0) O O)$ PY O O (SE (cs:=[_,_]) Tv O) ?_
 rintro _ w2 ⟨b9,rfl,jg,ae,cF⟩
 refine Qb O (QT (news:=[I ((Qe g v).length:Int),I (QC g E v:Int)]) Tv O O O O cF ξ) ?_
 rintro w3 ⟨da,av⟩
 replace da:Q7 w3 b9 [I ((Qe g v).length:Int),I (QC g E v:Int)] 308:=da
 have aZ:Ext w1 w3:=ae.It av (λj e=>by omega)
 have l93:=da.lt
 have z13:=aZ.size
 have h3:W9 R k x (λj=>(X j\/j=b)\/j=b9) w3:=h1.grow aZ (λj hj=>hj.imp id λe=>by omega) (λj hj=> .inl hj)
 have cA:Kp (λj=>¬X j) w w3:=ay.trans aZ.kp
 have qZ:TdM R k x gb pb fb (λj=>(X j\/j=b)\/j=b9) w3:=ht.step cA (λj e e'=>e e') h3 (λj hj=> .inl (.inl hj))
 have jo:V7 w3 b s a:=⟨aZ.PN i3.1,i3.2⟩
 refine TN O$ Rt O$ QS O$ RA O$ Re O$ RN O$ An$ qN O$ Qd TA O$ qV (PX U3 O O da O)$ RK O$ PQ$ Qy.qb (e:=[(0,_),(1,_),(2,_),(3,_),(4,_),(7,_),(8,_),(9,_),(10,_),(11,_),(12,_),(13,_),(28,_)]) ?_
 refine QH (λe' w'=>∃vb,e'=[(0,I (v:Int)),(2,ptr gb 0),(3,ptr pb 0),(9,ptr b9 0),(10,ptr b 0),(11,I ((a+(Qo (UR p g E v)).length:Nat):Int)),(13,vb)]/\W9 R k x (λj=>(X j\/j=b)\/j=b9) w'/\Kp (λj=>¬((X j\/j=b)\/j=b9)) w3 w'/\(QC g E v=0->vb= .slice none 0 0)/\(0<QC g E v->z6v w' vb (Qe g (v-QC g E v)))/\(∀j,vb.ownBlock=some j->j≠b)) ?bF$ λbF=>?dg
 case bF=>
  rintro e' w4 ⟨vb,rfl,h4,ar,sx,fO,FD⟩;have yD:TdM R k x gb pb fb (λj=>(X j\/j=b)\/j=b9) w4:=qZ.step ar (λj e e'=>e e') h4 (λj hj=>hj);have nn:=ar.PN da (λe=>e (.inr O));have ez:V7 w4 b s a:=⟨ar.PN jo.1 (λe=>e (.inl (.inr O))),jo.2⟩;have rB:=yD.bg;have jM:=yD.bp;have FE:=yD.gw.cells;have af:=Ext.Qh w4;refine An ?_;have ngb:gb≠b:=cT gb ht.xg;have nk:k≠b:=cT k ht.gw.xk;have npb:pb≠b:=cT pb ht.xp;have n9:b9≠b:=by omega
  refine S5 (λw'=>Kp (λj=>j=b) w4 w') O$ Qi 0 O O (af.kp)$ Qi 1 O O (af.kp)$ qT 2 O (λ_ h=>(PX YV O O (h.PN rB ngb) O)) (af.kp)$ PT 3 O (R8 O) (af.kp)$ PT 4 O (Qz X8 O) (af.kp)$ PT 5 O (Qz Vv O) (af.kp)$ qT 6 O (λ_ h=>(PX U3 O O (h.PN FE nk) O)) (af.kp)$ Qi 8 O O (af.kp)$ qT 7 O (λ_ hS=>QB (news:=[I ((Qe g v).length:Int),I (QC g E v:Int)]) z6k O Tv O (Q7.cells (n:=2) (hS.PN nn n9) O) O) (af.kp)$ qT 9 O (λ_ h=>QB (news:=Wz p) U75 O SO O (Q7.cells (n:=5) (h.PN jM npb) O) O) (af.kp)$ T9 10 O z2j O (Ud p w4.drew) ?_;rintro _ w5 ⟨rfl,aU⟩;refine⟨(af.trans aU).kp,?_⟩;have dN:=af.trans aU;have h5:=h4.ext dN;have kG:V7 w5 b s a:=⟨dN.PN ez.1,ez.2⟩;have FF:¬1=b:=λe=>cT 1 ht.gw.x1 e;have FG:¬2=b:=λe=>cT 2 ht.gw.x2 e;refine T9 11 O zkJ O (zbo az jF hv kG uR h5.gam h5.una FF FG sx (λe=>(fO e).ext dN) FD) ?_;rintro _ w6 ⟨vv,rfl,g8,nW,gU,aL⟩;refine⟨dN.kp.trans aL,?_⟩;refine Qi 12 O O (dN.kp.trans aL)$ PT 13 O (Sz (v:=vv) O O) (dN.kp.trans aL)$ PT 15 O (Sv O) (dN.kp.trans aL)$ PT 14 O (Sz (v:=I 0) O O) (dN.kp.trans aL)$ PT 16 O (Sv O) (dN.kp.trans aL)$ qE$ QS O$ RA O$ Qp O$ Qk ZW O (Vw gU) ?_;rintro _ w6 ⟨rfl,rfl⟩;refine Q4 O$ RA O$ QW$ QY O$ PQ$ Qy.qb (e:=[(14,_),(92,_)]) ?_;refine TT O$ Qx O$ Rt O$ PO func194 O ?_;have z34:=ar.size;have z45:=dN.size;have z03:=cA.size;have h6:=(h5.step (Y:=λj=>((X j\/j=b)\/j=b9)\/vv.ownBlock=some j) aL (λj e=>⟨.inl (.inr e),λe'=>cT k ht.gw.xk (e'▸e),λe'=>cT x ht.gw.xx (e'▸e),λe'=>cT 1 ht.gw.x1 (e'▸e),λe'=>cT 2 ht.gw.x2 (e'▸e)⟩) (λj hj=>hj.imp id λe=>⟨nW j e,g8.lt e⟩) (λj hj=> .inl hj)).less (X:=λj=>X j\/vv.ownBlock=some j) (λj hj=>hj.imp (λe=> .inl (.inl e)) id) (.inl ht.gw.xk) (.inl ht.gw.xx) (.inl ht.gw.x1) (.inl ht.gw.x2);exact⟨_,rfl,vv,rfl,g8,λj e=>by have:=nW j e;omega,h6,((cA.trans (ar.PU λj e e'=>e (.inl (.inl e')))).trans dN.kp).trans (aL.PU λj e e'=>cT j e' e)⟩
 case dg=>
  refine Q8 O (λh0=>?_)$ λh0=>?_
  ·have xy:0<QC g E v:=by omega
   obtain⟨q1,q2,q3,q4,q5,q6,q7,q8⟩:=az.back hv xy;have Ah:=qZ.bp;have FH:=qZ.bf;refine An$ qN O$ Qd TA O$ qV ((PX U3 O O da O))$ Q4 O$ RK O$ QW$ Qp O$ Qd z0L O$ qV ((PX U3 O O Ah O))$ UZ O$ QW$ QY O$ Q4 O ?_;refine Qd Uy O$ qV ((PX U3 O O da O))$ Qd UO O$ qV ((PX U3 O O Ah O))$ RK O$ QW$ QY O$ PQ$ Qy.qb (e:=[(0,_),(1,_),(2,_),(3,_),(4,_),(7,_),(8,_),(9,_),(10,_),(11,_),(12,_),(13,_),(45,_)]) ?_;refine TT O$ An$ qN O$ qV ((PX zik O O FH O))$ Q4 O$ Qd TA O$ qV ((PX U3 O O da O))$ SA O ?_;rw[show(v:Int)-(QC g E v:Int)=((v-QC g E v:Nat):Int) by omega];refine Q4 O$ R7 O ?_;rw[show(behind:Int)+1=((behind+1:Nat):Int) by omega];have mw:=ih xy _ w3 qZ;unfold Yo at mw;refine RB O O (T6 zfq O O) (mw) ?_;rintro _ w4 ⟨vb,rfl,eH,qI,h4,ar⟩
   obtain⟨vo,vc,rfl,C7⟩:∃o c,vb= .slice (some ⟨o,0,none⟩) (Qe g (v-QC g E v)).length c/\w3.heap.size<=o:=by
    rcases eH.shape with⟨-,e⟩|⟨o,c,e,hc⟩
    ·omega
    ·exact⟨o,c,e,qI o (by rw[e];rfl)⟩
   refine Q4 O$ qV (Sz (v:= .slice (some ⟨vo,0,none⟩) (Qe g (v-QC g E v)).length vc) O O)$ qV (Sz (v:=I 0) O O)$ TN O$ RZ O$ RA O ?_;have jM:=(qZ.step ar (λj e e'=>e e') h4 (λj hj=> .inl hj)).bp;refine PQ$ Qy.qb (e:=[(0,_),(2,_),(3,_),(7,_),(8,_),(9,_),(10,_),(11,_),(12,_),(13,_),(58,_)]) ?_;refine TT O$ Qx O$ SR QE O$ Ss O$ QW$ Qp O$ SR QE O$ Qd UO O$ qV (PX U3 O O jM O)$ RK O$ QW$ QY O$ Re O ?_;exact(bF _ _ ⟨_,rfl,h4.less (λj hj=> .inl hj) h3.xk h3.xx h3.x1 h3.x2,ar,λe=>by omega,λ_=>eH,λj e=>by have e':vo=j:=SH e;omega⟩).qb
  ·refine PR ?_;exact(bF _ _ ⟨_,rfl,h3,Kp.refl _ _,λ_=>rfl,λe=>by omega,λj e=>by cases e⟩).qb
theorem z2u (jF:g.length<50):∀(d:Nat) {v behind:Nat} {X:Nat->Prop} {w:World},Vb E v<=d->v<g.length->behind+Vb E v<=p.chain->TdM R k x gb pb fb X w->Yo R k x gb pb fb v behind X w
 | 0, v, behind, X, w, hd, hv, Cm, ht => z0W jF hv Cm ht λh0 => by
   obtain⟨q1,q2,-⟩:=ht.gw.ok.back hv h0
   omega
 | d + 1, v, behind, X, w, hd, hv, Cm, ht => z0W jF hv Cm ht λh0 X' w' Ms => by
   obtain⟨q1,q2,-⟩:=ht.gw.ok.back hv h0;exact z2u jF d ω ω ω Ms
def Ue.zd5 (h:Ue p g E){v:Nat}(hv:v<g.length):Vb E v<=p.chain:=by
 rcases h.ent hv with e|⟨h1,h2,h3,l,e',h4,h5,h6,h7⟩
 ·unfold Vb;rw[e];exact Nat.zero_le _
 ·have Mr:=of_decide_eq_true h7;unfold Vb;omega
theorem z6S (jF:g.length<50){v:Nat}(hv:v<g.length)(h:W9 R k x X w):Qu prog 171 [ptr k 0,I (v:Int)] w λr w'=>∃vv,r= .tuple #[vv,I 0]/\z6v w' vv (Qe g v)/\(∀b,vv.ownBlock=some b->w.heap.size<=b)/\W9 R k x (λj=>X j\/vv.ownBlock=some j) w'/\Kp (λj=>¬X j) w w':=by
 refine py (e:=[(0,_),(1,_)]) func171 O ntmps171 O O$ qN O$ PY O O (Se O (cs:=[ptr k 0]) O) ?_
 rintro _ w1 ⟨gb,rfl,Mt,ad,vg⟩
 refine Rt O$ An$ qN O$ qV (PX YV O O vg O)$ Q4 O$ PY O O (Zh (cs:=[_]) (zs:=[Value.int .i64 0]) SC Rl O (by kernel_rfl) O O O ψ) ?_
 rintro _ w2 ⟨vb,rfl,⟨dF,ae,Pb⟩,Mu⟩
 have h2:=(h.ext ad).ext ae
 have il:=ae.PN vg
 have FI:=h2.cells
 have z1:=ad.size
 have z2:=ae.size
 refine Qk zkm O (z8p h2 hv Mu.rd) ?_
 rintro _ w2 ⟨rfl,rfl⟩
 refine RZ O$ RA O$ Re O$ qN O$ qV (PX YV O O il O)$ QA O$ Qd X8 O$ Qd ZK O$ qV (QB (news:=Wz p) U75 O SO O (Q7.cells (i:=2) (n:=5) FI O) O)$ PY O O (SE (cs:=[_,_,_,_,_]) SO O) ?_
 rintro _ w3 ⟨pb,rfl,sE,ah,sJ⟩
 refine Qb O (QT (news:=Wz p) SO O O O O sJ ξ) ?_
 rintro w4 ⟨jM,ar⟩
 replace jM:Q7 w4 pb [I (p.Qq:Int),I (p.chain:Int),I (p.interval:Int),I (p.zeta:Int),I (p.most:Int)] 75:=jM
 have dA:Ext w2 w4:=ah.It ar (λj e=>by omega)
 refine qM O$ PY O O (SE (cs:=[_]) zfI O) ?_
 rintro _ w5 ⟨fb,rfl,Pc,aU,dw⟩
 refine qM O$ qV (ymf (first:=[]) (caps:=[.tmp 2,.tmp 7,.tmp 8]) O O)$ Qb O (RV zfI O O O dw ξ) ?_
 rintro w6 ⟨Ai,aL⟩
 have cW:Ext w4 w6:=aU.It aL (λj e=>by omega)
 have iR:=dA.trans cW
 have z6:=iR.size
 have lg:=il.lt
 have lp:=jM.lt
 have lf:=Ai.lt
 have z24:=dA.size
 have z3:=ah.size
 have z46:=cW.size
 have iT:=(ad.trans ae).trans iR
 have h6:W9 R k x (λj=>X j\/j=gb\/j=pb\/j=fb) w6:=h.grow iT (λj hj=>hj.imp id λe=>by omega) (λj hj=> .inl hj)
 have yg:TdM R k x gb pb fb (λj=>X j\/j=gb\/j=pb\/j=fb) w6:=⟨h6,iR.PN il,cW.PN jM,Ai,.inr (.inl O),.inr (.inr (.inl O)),.inr (.inr (.inr O))⟩
 have Aj:=yg.bf
 have fh:=z2u jF _ (behind:=0) (Nat.le_refl _) hv (by have:=h.ok.zd5 hv;omega) yg
 unfold Yo at fh
 refine qM O$ qV (PX zik O O Aj O)$ Q4 O$ RB O O (T6 zfq O O) (fh) ?_
 rintro _ w7 ⟨vv,rfl,i6,pJ,h7,aA⟩
 refine qV (Sz (v:=vv) O O)$ qV (Sz (v:=I 0) O O)$ Rt O$ Qy.qb (e:=[(4,_),(5,_)]) ?_
 refine PO func171 O ?_
 exact⟨_,rfl,vv,rfl,i6,λj e=>by have:=pJ j e;omega,h7.less (λj hj=>hj.imp .inl id) (.inl h.xk) (.inl h.xx) (.inl h.x1) (.inl h.x2),iT.kp.trans (aA.PU λj e e'=>e (.inl e'))⟩
end
def stV (b:Bool):Value:= .int .u8 (if b then 1 else 0)
structure YU (w:World)(m gi:Nat)(L:List Bool):Prop where
 PN:Q7 w m [I 2,.slice (some ⟨gi,0,none⟩) L.length L.length,.slice none 0 0,.bool false] 107
 sl:Sl w (.slice (some ⟨gi,0,none⟩) L.length L.length) 190 1 L.length (L.map stV)
 ne:gi≠m
 n:L.length<=4096
 n2:2<=L.length
section
variable {w w':World}{m gi:Nat}{L:List Bool}{S:Nat->Prop}
def YU.kp (h:YU w m gi L)(hk:Kp S w w')(h1:¬S m)(h2:¬S gi):YU w' m gi L:=
 ⟨hk.PN h.PN h1,h.sl.kp hk λg e=>by cases e;exact h2,h.ne,h.n,h.n2⟩
theorem YU.ext (h:YU w m gi L)(hx:Ext w w'):YU w' m gi L:=h.kp (S:=λ_=>False) hx id id
def YU.ltm (h:YU w m gi L):m<w.heap.size:=h.PN.lt
def YU.ltg (h:YU w m gi L):gi<w.heap.size:=h.sl.lt O
theorem YU.get (h:YU w m gi L){i:Nat}{b:Bool}(hi:L[i]? =some b):w.cell? ⟨gi,0+i*1,none⟩=some (stV b):=
 Rf h.sl.rd (by rw[List.getElem?_map,hi];rfl)
def zaw (B:Nat)(hB:2<=B/\B<=4096)(w:World):Qu prog 21 [I 2,I (B:Int)] w λv w'=>∃m gi,v= .tuple #[ptr m 0,I 0]/\YU w' m gi (List.replicate B false)/\w.heap.size<=m/\w.heap.size<=gi/\Ext w w':=by
 refine py (e:=[(0,_),(1,_)]) func21 O ntmps21 O O$ qN O$ Rt O$ QS O$ RT O$ QW$ Qp O$ Q4 O$ RK O$ QW$ QY O$ Qp O$ RK O$ QW ?_
 refine QY O$ Re O$ RI O$ PY O O (pmk (c:=B) (n:=B) Xd z3A O O O (Nat.le_refl _) ω (by simp only[maxLen];omega)) ?_
 rintro _ w1 ⟨gi,rfl,⟨uY,ad,ai⟩,ky⟩
 refine qV (Tq (cs:=[_,_,_,_]) zhO O zjV O O)$ PY O O (Se O (cs:=[I 2,.slice (some ⟨gi,0,none⟩) B B,.slice none 0 0,.bool false]) O) ?_
 rintro _ w2 ⟨m,rfl,hm,ae,ak⟩
 refine Rt O$ PO func21 O ?_
 have:=ad.size
 have lg:=ky.lt (g:=gi) O
 refine⟨_,rfl,m,gi,rfl,⟨by rw[List.length_replicate];exact ak,?_,ω,by rw[List.length_replicate];omega,by rw[List.length_replicate];omega⟩,ω,ω,ad.trans ae⟩
 rw[List.length_replicate,List.map_replicate]
 exact ky.ext ae
def Rn (L:List Bool)(s n:Nat)(b:Bool):List Bool:=L.take s++(List.replicate n b++L.drop (s+n))
theorem R5 {L:List Bool}{s n:Nat}{b:Bool}(h:s+n<=L.length):(Rn L s n b).length=L.length:=by
 unfold Rn
 rw[List.length_append,List.length_append,List.length_take,List.length_replicate,List.length_drop];omega
theorem zaH (L:List Bool)(s:Nat)(b:Bool):Rn L s 0 b=L:=by simp[Rn]
theorem zbw {L:List Bool}{s n:Nat}{b:Bool}(h:s+n<L.length):(Rn L s n b).set (s+n) b=Rn L s (n+1) b:=by
 have h1:(L.take s++List.replicate n b).length=s+n:=by rw[List.length_append,List.length_take,List.length_replicate];omega
 unfold Rn
 rw[<-List.append_assoc,List.set_append_right _ _ ω,h1,Nat.sub_self,List.drop_eq_getElem_cons h,List.set_cons_zero,List.replicate_succ',List.append_assoc,List.append_assoc]
 rfl
def z3E (h:YU w m gi L)(s n:Nat)(b:Bool)(hs:s+n<=L.length):Qu prog 123 [ptr m 0,.agg #[I (s:Int),I (n:Int)],stV b] w λv w'=>v= .tuple #[]/\YU w' m gi (Rn L s n b)/\Kp (λk=>k=gi) w w':=by
 have hn:=h.n
 refine py (e:=[(0,_),(1,_),(2,_)]) func123 O ntmps123 O O$ qN O$ PY O O (Se O (cs:=[I (s:Int),I (n:Int)]) O) ?_
 rintro _ w1 ⟨b4,rfl,eM,ad,aM⟩
 have lg:=h.ltg
 have l4:=aM.lt
 have h1:=h.ext ad
 refine qM O$ Qd Sg O$ qV (PX U3 O O aM O)$ Q4 O$ PQ$ PS$ SK (α:=Nat) (0) (λi=>[(0,ptr m 0),(2,stV b),(4,ptr b4 0),(8,I (n:Int)),(9,I (i:Int))]) (λi w'=>YU w' m gi (Rn L s i b)/\Kp (λk=>k=gi) w1 w'/\i<=n) (λi=>n-i) ?hI ?hround
 case hI=>exact⟨by rw[zaH];exact h1,Kp.refl _ _,Nat.zero_le _⟩
 case hround=>
  rintro i w2 ⟨h2,am,hi⟩ ih
  try dsimp only
  refine qN O$ RT O$ PQ$ An$ Q8 O (λh0=>?_)$ λh0=>?_
  ·have au:i<n:=by omega
   have hl:=R5 (L:=L) (s:=s) (n:=i) (b:=b) ω;have ak:=h2.PN;have bC:=am.PN aM ω;have hg:=Ext.Qh w2;refine PR$ RP$ Qx O$ Qc O$ Qn [10] (λw'=>Ext w2 w') (by kernel_rfl) O$ R1 0 O O (hg)$ Qs 1 O (R8 O) hg$ Qs 2 O (Qz Wq O) hg$ qL 3 O (λ_ h=>(PX Xd O O (h.PN ak) O)) hg$ Qs 4 O (Qz S4 O) hg$ qL 5 O (λ_ h=>(PX U3 O O (h.PN bC) O)) hg$ R1 6 O O (hg)$ Qs 7 O (Wa O O ω) hg$ R1 8 O O (hg) ?_;refine Qs 9 O (Rh Xd z3A O O ω) hg$ Ut [10]$ qO 10$ QO (i:=10) O O (SY z3A O O O (h2.ext hg).sl (by rw[List.length_map,hl];omega)) ?_;rintro w3 ⟨dj,av⟩;refine⟨trivial,?_⟩
   have h3:YU w3 m gi (Rn L s (i+1) b):=by
    refine⟨?_,?_,h2.ne,by rw[R5 ω];exact h.n,by rw[R5 ω];exact h.n2⟩
    ·rw[R5 ω,<-hl];exact av.PN (hg.PN ak) (λe=>h2.ne e.symm)
    ·rw[show 0+(s+i)*1=s+i by omega,<-List.map_set,zbw ω] at dj;rw[R5 ω,<-hl];exact dj
   refine qE$ PM$ PW O$ R7 O$ Q4 O$ PQ ?_;exact(ih (i+1) _ ⟨h3,am.trans (hg.kp.trans av),ω⟩ ω).qb
  ·have au:i=n:=by omega
   subst au;refine Q5 O$ Rq func123 O ?_;exact⟨_,rfl,rfl,h2,ad.kp.trans am⟩
end
structure Pre (L:List Bool)(a:Nat):Prop where
 a2:2<=a
 le:a<=L.length
 tk:∀i,2<=i->i<a->L[i]? =some true
 fr:∀i,a<=i->i<L.length->L[i]? =some false
section
variable {w w':World}{m gi a:Nat}{L:List Bool}{S:Nat->Prop}
def z09 {l bm:Nat}(hm:YU w m gi L)(hp:Pre L a)(ha:a<L.length)(mE:Q7 w bm [ptr m 0] 67)(J:World->Prop)(hJ:∀w w',J w->Ext w w'->J w')
  (hround:∀w',Ext w w'->z3l prog l [.agg #[I (a:Int),I ((L.length-a:Nat):Int)]] w' λv w''=>(v= .bool true/\J w''/\Q7 w'' bm [ptr m 0] 67/\YU w'' m gi L)\/(v= .bool false/\J w'')):
  Qu prog 90 [.func (.yield l) #[] #[],ptr bm 0] w λv w'=>v= .tuple #[]/\J w':=by
 have hn:=hm.n
 have uw:=hp.a2
 have hB:=hm.PN
 refine py (e:=[(0,_),(1,_)]) func90 O ntmps90 O O$ qN O$ qV ((PX U67 O O mE O))$ QA O$ Qd z8L O$ qV ((PX U3 O O hB O))$ Qc O$ PS$ SK (α:=Nat) (2) (λi=>[(0,.func (.yield l) #[] #[]),(1,ptr bm 0),(3,I (i:Int))]) (λi w'=>Q7 w' bm [ptr m 0] 67/\YU w' m gi L/\((2<=i/\i<=a/\Ext w w')\/(i=L.length+1/\J w'))) (λi=>L.length+1-i) ?hI ?hround
 case hI=>exact⟨mE,hm,.inl ⟨Nat.le_refl _,uw,Ext.refl _⟩⟩
 case hround=>
  rintro i w1 ⟨vC,pZ,gJ⟩ ih;have ai:=pZ.PN
  try dsimp only
  refine QS O$ qV ((PX U67 O O vC O))$ QA O$ Qd Wq O$ qV ((PX Xd O O ai O))$ SR Xd O$ RT O$ PQ$ Q8 O (λh0=>?_)$ λh0=>?_
  ·have vD : 2 <= i /\ i <= a /\ Ext w w1 := by
    rcases gJ with h| h
    ·exact h
    ·omega
   obtain⟨dW,Pd,ad⟩:=vD;refine PR$ RP$ Qx O$ qV (Tq (cs:=[_,_]) Sd O ziq O O)$ PY O O (SE (cs:=[_,_]) Sd O) ?_;rintro _ w2 ⟨b4,rfl,eM,ae,aM⟩;refine Qb O (QT (news:=[I (i:Int),I 0]) Sd O O O O aM ξ) ?_;rintro w3 ⟨ew,av⟩;replace ew:Q7 w3 b4 [I (i:Int),I 0] 118:=ew;have aZ:Ext w1 w3:=ae.It av (λj e=>by omega);have vE:=aZ.PN vC;have mt:=pZ.ext aZ;have aw:=mt.PN;refine PQ$ RP$ SK (α:=Nat) (i) (λj=>[(0,.func (.yield l) #[] #[]),(1,ptr bm 0),(3,I (j:Int)),(4,ptr b4 0)]) (λj w'=>w'=w3/\i<=j/\j<=L.length/\(i<j->i=a)) (λj=>L.length-j) ?hI ?hround
   case hI=>exact⟨rfl,Nat.le_refl _,ω,λh=>absurd h ω⟩
   case hround =>
    rintro j w4 ⟨rfl,hH,Pe,FJ⟩ ih2
    try dsimp only
    rcases Nat.lt_or_ge j L.length with hj|hj
    ·obtain⟨b,hb⟩:∃b,L[j]? =some b:=⟨_,List.getElem?_eq_getElem hj⟩;have bq:=mt.get hb;refine QS O$ qV ((PX U67 O O vE O))$ QA O$ Qd Wq O$ qV ((PX Xd O O aw O))$ SR Xd O$ RT O$ SM$ Q4 O$ qV ((PX U67 O O vE O))$ QA O$ Qd Wq O$ qV ((PX Xd O O aw O))$ Q4 O ?_;refine qV (Rh Xd z3A O O ω) ?_
     cases b with
     | true =>
       refine qV (QF (v:= .int .u8 1) zdk O O bq) ?_
       have Mv:i<a:=by
        rcases Nat.lt_or_ge i a with h| h
        ·exact h
        ·have:=hp.fr j ω hj;rw[this] at hb;cases hb
       have sT:j=i:=by
        rcases Nat.lt_or_ge i j with h| h
        ·have:=FJ h;omega
        ·omega
       subst sT;refine Ss O$ QW$ Sa O$ PQ$ PZ O$ Q5 O$ Qx O$ Qd S4 O$ qV (PX U3 O O ew O)$ SA O$ Qd Sg O$ Qb O (RV Rl O O O ew ξ) ?_;rintro w5 ⟨aO,aj⟩;rw[show(j:Int)-(j:Int)=0 by omega] at aO;replace aO:Q7 w5 b4 [I (j:Int),I 0] 118:=aO;have cC:Ext w1 w5:=aZ.It aj (λq e=>by have:=ae.size;omega);refine qM O$ Qd Sg O$ qV (PX U3 O O aO O)$ RK O$ Q4 O$ S6$ S6$ QY O$ Re O$ PM$ St O$ R7 O$ Qc O ?_
       exact(ih (j+1) w5 ⟨cC.PN vC,pZ.ext cC,.inl ⟨ω,ω,ad.trans cC⟩⟩ ω).qb
     | false =>
       refine qV (QF (v:= .int .u8 0) zdk O O bq)$ Ss O$ SM$ Sa O ?_
       have vF:i=a:=by
        rcases Nat.lt_or_ge i a with h| h
        ·rcases Nat.lt_or_ge i j with h2|h2
         ·exact FJ h2
         ·have e:j=i:=by omega
          subst e;have:=hp.tk j dW h;rw[this] at hb;cases hb
        ·omega
       refine PQ$ Qa O$ PR$ PS$ St O$ R7 O$ Qc O$ PM ?_;exact(ih2 (j+1) _ ⟨rfl,ω,ω,λ_=>vF⟩ ω).qb
    ·have Mw:j=L.length:=by omega
     subst Mw;have vF:=FJ ω;subst vF;refine QS O$ qV ((PX U67 O O vE O))$ QA O$ Qd Wq O$ qV ((PX Xd O O aw O))$ SR Xd O$ RT O$ QW$ Q4 O$ S6$ S6$ S6$ S6$ QY O ?_;refine PQ$ PZ O$ Q5 O$ Qx O$ Qd S4 O$ qV (PX U3 O O ew O)$ SA O$ Qd Sg O$ Qb O (RV Rl O O O ew ξ) ?_;rintro w5 ⟨aO,aj⟩;rw[show(L.length:Int)-(i:Int)=((L.length-i:Nat):Int) by omega] at aO;replace aO:Q7 w5 b4 [I (i:Int),I ((L.length-i:Nat):Int)] 118:=aO;have cC:Ext w1 w5:=aZ.It aj (λq e=>by have:=ae.size;omega);refine qM O$ Qd Sg O$ qV (PX U3 O O aO O)$ RK O$ SM$ Qp O$ qV (QB (news:=[I (i:Int),I ((L.length-i:Nat):Int)]) YE O Sd O (Q7.cells (n:=2) aO O) O)$ z47 O O (yy O O) (hround w5 (ad.trans cC)) ?_;rintro v w6 hv;rcases hv with⟨rfl,Ak,FK,Mx⟩|⟨rfl,Ak⟩
     ·refine qV ((T7 O))$ Sa O$ Re O$ PM$ St O$ R7 O$ Qc O ?_;exact(ih (L.length+1) w6 ⟨FK,Mx,.inr ⟨rfl,Ak⟩⟩ ω).qb
     ·refine qV ((T7 O))$ Sa O$ PQ$ Qa O$ PO func90 O ?_;exact⟨_,rfl,rfl,Ak⟩
  ·rcases gJ with⟨-,h,-⟩|⟨-,Ak⟩
   ·omega
   ·refine Q5 O$ Rq func90 O ?_;exact⟨_,rfl,rfl,Ak⟩
def Zz (w:World)(m:Nat):Qu prog 56 [ptr m 0] w λv w'=>∃bm,v= .func (.func 90) #[] #[ptr bm 0]/\Q7 w' bm [ptr m 0] 67/\w.heap.size<=bm/\Ext w w':=by
 refine py (e:=[(0,_)]) func56 O ntmps56 O O$ qN O$ PY O O (Se O (cs:=[ptr m 0]) O) ?_
 rintro _ w1 ⟨bm,rfl,mE,ad,ai⟩
 refine S7 O$ qV (ymf (first:=[]) (caps:=[.tmp 1]) O O)$ Qc O$ PO func56 O ?_
 exact⟨_,rfl,bm,rfl,ai,ω,ad⟩
theorem z7l (h:YU w m gi L)(hp:Pre L a)(ha:a<L.length):Qu prog 25 [ptr m 0] w λv w'=>v=I ((L.length-a:Nat):Int)/\Ext w w':=by
 have hn:=h.n
 refine py (e:=[(0,_)]) func25 O ntmps25 O O$ qN O$ S7 O$ PY O O (SE (cs:=[_]) Rl O) ?_
 rintro _ w1 ⟨b3,rfl,dP,ad,aw⟩
 refine Qb O (RV Rl O O O aw ξ) ?_
 rintro w2 ⟨dx,am⟩
 replace dx:Q7 w2 b3 [I 0] 3:=dx
 have ae:Ext w w2:=ad.It am (λj e=>by omega)
 refine PQ$ QS O$ qV (z6y U67 O O)$ PQ$ Qa O$ Qx O$ Qk ziW O (Zz w2 m) ?_
 rintro _ w3 ⟨bm,rfl,mE,nl,ah⟩
 have ct:=ae.trans ah
 have eR:=ah.PN dx
 have mt:=h.ext ct
 have l3:=eR.lt
 have l32:=dx.lt
 have lm:=mE.lt
 have lmm:=h.ltm
 have lmg:=h.ltg
 have z1:=ad.size
 refine PQ$ PS$ SX (ps:=[9]) (p:=[]) (q:=[_]) O zkU ?_
 rintro l wl bR fu cJ hD Rc bM dz
 have FM:=zdq bM dz
 have zl:=bR.size
 refine Qu.mono (z09 (mt.ext bR) hp ha (bR.PN mE)
  (λw'=>Rc .ready none w'/\Q7 w' b3 [I ((L.length-a:Nat):Int)] 3/\Kp (λk=>k=l\/k=b3) wl w')
  (λw w' h hx=>⟨hx.kp.rc (S:=λ_=>False) bM h.1 id,hx.PN h.2.1,h.2.2.trans hx.kp⟩) ?_) ?_
 ·intro w4 aC;have jh:=Kp.rc (S:=λ_=>False) aC bM dz id;have eF:=aC.PN (bR.PN eR);have z4:=aC.size;refine Tt bM jh O O$ PW O$ PY O O (SE (cs:=[_,_]) Sd O) ?_;rintro _ w5 ⟨b4,rfl,eM,aU,aM⟩;refine Qb O (QT (news:=[I (a:Int),I ((L.length-a:Nat):Int)]) Sd O O O O aM ξ) ?_;rintro w6 ⟨bY,aL⟩;replace bY:Q7 w6 b4 [I (a:Int),I ((L.length-a:Nat):Int)] 118:=bY;have cW:Ext w4 w6:=aU.It aL (λj e=>by omega);have My:=Kp.rc (S:=λ_=>False) cW bM jh id;have z46:=cW.size;have l4:=bY.lt;refine PQ$ run_beginRound O bM My ?_;rintro w7 h7 aA;have kI:=aA.PN (cW.PN eF) ω;have bu:=aA.PN bY ω;refine PS$ PW O$ qV ((PX U3 O O kI O))$ Qd Sg O$ qV ((PX U3 O O bu O))$ R7 O ?_;rw[show(0:Int)+((L.length-a:Nat):Int)=((L.length-a:Nat):Int) by omega];refine Qb O (RV Rl O O O kI ξ) ?_;rintro w8 ⟨nZ,aK⟩;have h8:=Kp.rc aK bM h7 ω;refine PQ$ PM$ SQ bM h8 ?_;intro w9 h9 ax;have iD:Kp (λk=>k=l\/k=b3) w4 w9:=((cW.kp.trans (aA.PU λk e=> .inl e)).trans (aK.PU λk e=> .inr e)).trans (ax.PU λk e=> .inl e);exact .inl ⟨rfl,⟨h9,ax.PN nZ ω,aC.kp.trans iD⟩,iD.PN (aC.PN (bR.PN mE)) ω,((mt.ext bR).ext aC).kp iD ω ω⟩
 ·rintro v wz ⟨rfl,jh,Jq,db⟩;refine⟨_,_,jh,ξ,λwy de=>?_⟩;have zz:=db.size;have zy:=de.size;have Mz:=de.PN Jq ω;have jN:=de.heap (db.heap hD ω) ω;refine PM$ qN O$ qV (PX U3 O O Mz O)$ Qc O$ z5d ξ (Uv jN) func25 O ?_;have z3:=ah.size;have bS:Kp (λk=>k=w3.heap.size) wy (Sy [.mk w3.heap.size] wy):=Ri wy w3.heap.size (.deferred none);have FN:Kp (λk=>k=l\/k=b3\/k=w3.heap.size) w3 (Sy [.mk w3.heap.size] wy):=((bR.kp.trans (db.PU λk e=>by omega)).trans (de.PU λk e=>by omega)).trans (bS.PU λk e=>by omega);exact⟨_,rfl,rfl,ct.It FN (λk e=>by omega)⟩
end
section
variable {w w':World}{m gi a:Nat}{L:List Bool}{S:Nat->Prop}
theorem z5c (h:YU w m gi L)(hp:Pre L a){n:Nat}(dl:1<=n)(qd:a+n<=L.length):Qu prog 78 [ptr m 0,I (n:Int)] w λv w'=>v= .tuple #[.agg #[I (a:Int),I (n:Int)],I 0]/\YU w' m gi (Rn L a n true)/\Kp (λk=>k=gi) w w':=by
 have hn:=h.n
 refine py (e:=[(0,_),(1,_)]) func78 O ntmps78 O O$ qN O$ PY O O (Se O (cs:=[ptr m 0]) O) ?_
 rintro _ w1 ⟨b2,rfl,bO,ad,ak⟩
 refine PY O O (Se O (cs:=[I (n:Int)]) O) ?_
 rintro _ w2 ⟨b3,rfl,dP,ae,aw⟩
 refine PY O O (SE (cs:=[_,_]) Sd O) ?_
 rintro _ w3 ⟨b4,rfl,eM,ah,aM⟩
 refine PY O O (SE (cs:=[_]) z4D O) ?_
 rintro _ w4 ⟨b5,rfl,gm,aC,aJ⟩
 have l2:=ak.lt
 have l3:=aw.lt
 have l4:=aM.lt
 have l5:=aJ.lt
 have z1:=ad.size
 have z2:=ae.size
 have z3:=ah.size
 have z4:=aC.size
 have fP:=aC.PN (ah.PN (ae.PN ak))
 have eF:=aC.PN (ah.PN aw)
 have cI:=aC.PN aM
 refine PQ$ RP$ qN O$ qV ((PX U67 O O fP O))$ qV (R9 U67 O O)$ Qc O$ PZ O$ qN O$ qV ((PX U3 O O eF O))$ RT O$ QW$ Qc O$ TT O$ PM ?_
 refine An$ qN O$ qV ((PX U67 O O fP O))$ Qk ziW O (Zz w4 m) ?_
 rintro _ w5 ⟨bm,rfl,mE,nl,aU⟩
 have bV:=(((ad.trans ae).trans ah).trans aC).trans aU
 have ta:=h.ext bV
 have lm:=mE.lt
 have lmm:=h.ltm
 have lmg:=h.ltg
 have z5:=aU.size
 refine PQ$ PS$ SX (ps:=[17]) (p:=[]) (q:=[_]) O zkU ?_
 rintro l wl bR fu cJ hD Rc bM dz
 have FM:=zdq bM dz
 have zl:=bR.size
 have zk:=aU.trans bR
 refine Qu.mono (z09 (ta.ext bR) hp ω (bR.PN mE)
  (λw'=>Rc .done (some .ret) w'/\Q7 w' b4 [I (a:Int),I (n:Int)] 118/\Q7 w' b5 [I 0] 44/\YU w' m gi (Rn L a n true)/\Kp (λk=>k=l\/k=b4\/k=b5\/k=gi) wl w')
  (λw w' h hx=>⟨hx.kp.rc (S:=λ_=>False) bM h.1 id,hx.PN h.2.1,hx.PN h.2.2.1,h.2.2.2.1.ext hx,h.2.2.2.2.trans hx.kp⟩) ?_) ?_
 ·intro w6 aS;have jh:=Kp.rc (S:=λ_=>False) aS bM dz id;have z6:=aS.size;refine Tt bM jh O O$ PW O$ PY O O (SE (cs:=[_,_]) Sd O) ?_;rintro _ w7 ⟨b6,rfl,nV,cu,aY⟩;refine Qb O (QT (news:=[I (a:Int),I ((L.length-a:Nat):Int)]) Sd O O O O aY ξ) ?_;rintro w8 ⟨ey,aK⟩;replace ey:Q7 w8 b6 [I (a:Int),I ((L.length-a:Nat):Int)] 118:=ey;have iS:Ext w6 w8:=cu.It aK (λj e=>by omega);have qe:=Kp.rc (S:=λ_=>False) iS bM jh id;have z8:=iS.size;have l6:=ey.lt;refine PQ$ run_beginRound O bM qe ?_;rintro w9 h9 ax;have rC:=(zk.trans aS).trans iS;have Al:=ax.PN (rC.PN eF) ω;have FO:=ax.PN (rC.PN fP) ω;have iX:=ax.PN ey ω;have MA:=((((ta.ext bR).ext aS).ext iS).kp ax ω ω);refine PS$ qN O$ Qd Sg O$ qV ((PX U3 O O iX O))$ qV ((PX U3 O O Al O))$ UZ O$ SM$ PQ$ Qa O$ qN O$ qV ((PX U3 O O Al O))$ Qd Sg O$ Qb O (RV Rl O O O iX ξ) ?_;rintro w10 ⟨iC,aB⟩;replace iC:Q7 w10 b6 [I (a:Int),I (n:Int)] 118:=iC;have Am:=aB.PN FO ω;have FP:=MA.kp aB ω ω;have eL:=Kp.rc aB bM h9 ω;refine qM O$ qV (PX U67 O O Am O)$ qV (QB (news:=[I (a:Int),I (n:Int)]) YE O Sd O (Q7.cells (n:=2) iC O) O)$ Qk zfh O (z3E FP a n true qd) ?_;rintro _ w11 ⟨rfl,FQ,bz⟩;have Ao:=bz.PN iC ω;have Ap:=bz.PN (aB.PN (ax.PN (rC.PN cI) ω) ω) ω;have Aq:=bz.PN (aB.PN (ax.PN (rC.PN aJ) ω) ω) ω;have qm:=Kp.rc bz bM eL ω;refine PQ$ Qy.qb (e:=[(4,_),(5,_),(6,_)]) ?_;refine qN O$ qV (QB (news:=[I (a:Int),I (n:Int)]) YE O Sd O (Q7.cells (n:=2) Ao O) O)$ Qb O (QT (news:=[I (a:Int),I (n:Int)]) Sd O O O O Ap ξ) ?_;rintro w12 ⟨Ar,bA⟩;refine Qb O (RV z4D O O O (bA.PN Aq ω) ξ) ?_;rintro w13 ⟨As,dB⟩;have xz:=Kp.rc dB bM (Kp.rc bA bM qm ω) ω;refine PQ ?_
  -- AT: Code.ret
  refine UE bM xz ?_;intro w14 MB cM
  exact .inr ⟨rfl,MB,cM.PN (dB.PN Ar ω) ω,cM.PN As ω,((FQ.kp bA ω ω).kp dB ω ω).kp cM ω ω,
   (((((((aS.kp.trans iS.kp).trans (ax.PU λk e=>by omega)).It aB (λk e=>by omega)).trans (bz.PU λk e=>by omega)).trans (bA.PU λk e=>by omega)).trans (dB.PU λk e=>by omega)).trans (cM.PU λk e=>by omega))⟩
 ·rintro v wz ⟨rfl,jh,FS,rD,MC,db⟩;refine⟨_,_,jh,ξ,λwy de=>?_⟩;have zz:=db.size;have zy:=de.size;have FT:=de.PN FS ω;have FU:=de.PN rD ω;have jN:=de.heap (db.heap hD ω) ω;have bS:=Ri wy w5.heap.size (.deferred none);have MD:=bS.PN FT ω;have ME:=bS.PN FU ω;refine Up ξ (Uv jN) func78 (.cell YE O Sd O (Q7.cells (n:=2) MD (news:=[_,_]) O) O (.cell1 U44 O O ((ME).cell _) .nil)) ?_;have FW:Kp (λk=>k=gi) w (Sy [.mk w5.heap.size] wy):=((((bV.kp.trans bR.kp).It db (λk e=>by omega)).It de (λk e=>by omega)).It bS (λk e=>by omega));exact⟨_,rfl,rfl,(MC.kp de ω ω).kp bS ω ω,FW⟩
end
section
variable {w w':World}{m gi:Nat}{L:List Bool}
def zaX (h:YU w m gi L)(s n:Nat)(dl:1<=n)(dy:2<=s)(jj:s+n<=L.length):Qu prog 133 [ptr m 0,.agg #[I (s:Int),I (n:Int)]] w λv w'=>v= .bool true/\Ext w w':=by
 have hn:=h.n
 refine py (e:=[(0,_),(1,_)]) func133 O ntmps133 O O$ qN O$ PY O O (Se O (cs:=[I (s:Int),I (n:Int)]) O) ?_
 rintro _ w1 ⟨b3,rfl,dP,ad,aw⟩
 have hg:=Ext.Qh w1
 have vG:=(h.ext ad).PN
 refine Qc O$ An$ S5 (λw'=>Ext w1 w') O$ PT 0 O (Qz Sg O) hg$ qT 1 O (λ_ h=>(PX U3 O O (h.PN aw) O)) hg$ PT 2 O (yge O O) hg$ Vd$ Qi 3 O O (hg)$ PT 4 O (Qz S4 O) hg$ qT 5 O (λ_ h=>(PX U3 O O (h.PN aw) O)) hg$ Qi 6 O O (hg)$ PT 7 O (R8 O) hg$ PT 8 O (Qz z8L O) hg$ qT 9 O (λ_ h=>(PX U3 O O (h.PN vG) O)) hg ?_
 refine PT 10 O (yge O O) hg$ Vd$ PT 11 O (W2 O O) hg$ Qi 12 O O (hg)$ PT 13 O (Qz S4 O) hg$ qT 14 O (λ_ h=>(PX U3 O O (h.PN aw) O)) hg$ Qi 15 O O (hg)$ PT 16 O (R8 O) hg$ PT 17 O (Qz Wq O) hg$ qT 18 O (λ_ h=>(PX Xd O O (h.PN vG) O)) hg$ PT 19 O (TP Xd O) hg$ PT 20 O (ylt O O) hg$ Vd$ PT 21 O (W2 O O) hg ?_
 refine Qi 22 O O (hg)$ PT 23 O (Qz Sg O) hg$ qT 24 O (λ_ h=>(PX U3 O O (h.PN aw) O)) hg$ Qi 25 O O (hg)$ PT 26 O (R8 O) hg$ PT 27 O (Qz Wq O) hg$ qT 28 O (λ_ h=>(PX Xd O O (h.PN vG) O)) hg$ PT 29 O (TP Xd O) hg$ PT 30 O (Qz S4 O) hg$ qT 31 O (λ_ h=>(PX U3 O O (h.PN aw) O)) hg$ PT 32 O (YM O O ω) hg$ PT 33 O (yle O O) hg$ Vd$ PT 34 O (W2 O O) hg ?_
 refine PT 35 O (Sv O) hg$ qE$ Qy.qb (e:=[(4,_)]) ?_
 refine PO func133 O ?_
 exact⟨_,rfl,rfl,ad.trans hg⟩
def z7O {b5:Nat}(c d:Bool)(hB:Q7 w b5 [stV d] 190)(CO:c=d):Qu prog 168 [stV c,ptr b5 0] w λv w'=>v= .bool false/\w'=w:=by
 subst CO
 cases c with
 | true =>
   replace hB:Q7 w b5 [.int .u8 1] 190:=hB;show Qu prog 168 [.int .u8 1,ptr b5 0] w _;refine py (e:=[(0,_),(1,_)]) func168 O ntmps168 O O$ qN O$ RZ O$ qV (PX zdk O O hB O)$ RA O$ QW$ Qc O$ PO func168 O ?_
   exact⟨_,rfl,rfl,rfl⟩
 | false =>
   replace hB:Q7 w b5 [.int .u8 0] 190:=hB;show Qu prog 168 [.int .u8 0,ptr b5 0] w _;refine py (e:=[(0,_),(1,_)]) func168 O ntmps168 O O$ qN O$ RZ O$ qV (PX zdk O O hB O)$ RA O$ QW$ Qc O$ PO func168 O ?_;exact⟨_,rfl,rfl,rfl⟩
def zap {b5 b o n cap:Nat}(hn:n<=4096)(c:Bool)(hB:Q7 w b5 [stV c] 190)(hR:Rd w (.slice (some ⟨b,o,none⟩) n cap) 1 n (List.replicate n (stV c))):
  Qu prog 192 [.slice (some ⟨b,o,none⟩) n cap,.func (.func 168) #[] #[ptr b5 0]] w λv w'=>v=I (-1)/\w'=w:=by
 refine py (e:=[(0,_),(1,_)]) func192 O ntmps192 O O$ RN O$ QS O$ SR Xd O$ Q4 O$ PQ$ PS$ SK (α:=Nat) (0) (λi=>[(0,.slice (some ⟨b,o,none⟩) n cap),(1,.func (.func 168) #[] #[ptr b5 0]),(7,I (n:Int)),(8,I (i:Int))]) (λi w'=>w'=w/\i<=n) (λi=>n-i) ?hI ?hround
 case hI=>exact⟨rfl,Nat.zero_le _⟩
 case hround=>
  rintro i w1 ⟨rfl,hi⟩ ih
  try dsimp only
  refine qN O$ RT O$ PQ$ An$ Q8 O (λh0=>?_)$ λh0=>?_
  ·refine PR$ RP$ Qx O$ S7 O$ Qp O$ Q4 O$ qV (Rh Xd z3A O O ω)$ qV (QF (v:=stV c) zdk O O (Rf hR (by rw[List.getElem?_replicate,if_pos ω]))) ?_;refine RB O O (T6 zis O O) (z7O c c hB O) ?_;rintro _ w1 ⟨rfl,rfl⟩;refine Re O$ PM$ PW O$ R7 O$ Q4 O$ PQ ?_;exact(ih (i+1) _ ⟨rfl,ω⟩ ω).qb
  ·refine Q5 O$ RN O$ PO func192 O ?_;exact⟨_,rfl,rfl,rfl⟩
def zb4 {b5 b o n cap:Nat}(hn:n<=4096)(c:Bool)(hB:Q7 w b5 [stV c] 190)(hR:Rd w (.slice (some ⟨b,o,none⟩) n cap) 1 n (List.replicate n (stV c))):
  Qu prog 167 [.slice (some ⟨b,o,none⟩) n cap,.func (.func 168) #[] #[ptr b5 0]] w λv w'=>v= .bool false/\w'=w:=by
 refine py (e:=[(0,_),(1,_)]) func167 O ntmps167 O O$ qN O$ S7 O$ Qp O$ Qk zki O (zap hn c hB hR) ?_
 rintro _ w ⟨rfl,rfl⟩
 refine UZ O$ QW$ Qc O$ PO func167 O ?_
 exact⟨_,rfl,rfl,rfl⟩
def zar (h:YU w m gi L)(s n:Nat)(c:Bool)(dl:1<=n)(jj:s+n<=L.length)(hc:∀i,s<=i->i<s+n->L[i]? =some c):Qu prog 134 [ptr m 0,.agg #[I (s:Int),I (n:Int)],stV c] w λv w'=>v= .bool true/\Ext w w':=by
 have hn:=h.n
 refine py (e:=[(0,_),(1,_),(2,_)]) func134 O ntmps134 O O$ qN O$ PY O O (Se O (cs:=[I (s:Int),I (n:Int)]) O) ?_
 rintro _ w1 ⟨b4,rfl,eM,ad,aM⟩
 refine PY O O (Se O (cs:=[stV c]) (by cases c<;>rfl)) ?_
 rintro _ w2 ⟨b5,rfl,gm,ae,aJ⟩
 have hg:=Ext.Qh w2
 have aG:=ad.trans ae
 have vG:=(h.ext aG).PN
 have bC:=ae.PN aM
 have dZ:=(h.ext aG).ext hg
 refine Qc O$ An$ S5 (λw'=>Ext w2 w') O$ Qi 0 O O (hg)$ PT 1 O (R8 O) hg$ PT 2 O (Qz Wq O) hg$ qT 3 O (λ_ h=>(PX Xd O O (h.PN vG) O)) hg$ PT 4 O (Qz S4 O) hg$ qT 5 O (λ_ h=>(PX U3 O O (h.PN bC) O)) hg$ PT 6 O (Qz S4 O) hg$ qT 7 O (λ_ h=>(PX U3 O O (h.PN bC) O)) hg$ PT 8 O (Qz Sg O) hg$ qT 9 O (λ_ h=>(PX U3 O O (h.PN bC) O)) hg$ PT 10 O (Wa O O ω) hg ?_
 refine PT 12 O (ymf (first:=[]) (caps:=[.tmp 5]) O O) hg ?_
 rw[show(s:Int)+(n:Int)=((s+n:Nat):Int) by omega]
 refine PT 11 O (zgk (i:=s) (j:=s+n) Xd z3A O O O ω ω) hg ?_
 rw[show s+n-s=n by omega]
 have hR:Rd w2.drew (.slice (some ⟨gi,0+s*1,none⟩) n (L.length-s)) 1 n (List.replicate n (stV c)):=by
  have h1:=Wp (UX dZ.sl.rd (i:=s) ω (Nat.le_refl _)) (i:=n) ω;rw[if_neg ω] at h1
  have e:((L.map stV).drop s).take n=List.replicate n (stV c):=by
   apply List.ext_getElem?;intro i;rw[List.getElem?_take,List.getElem?_drop,List.getElem?_map,List.getElem?_replicate];by_cases hi:i<n
   ·rw[if_pos hi,if_pos hi,hc (s+i) ω ω];rfl
   ·rw[if_neg hi,if_neg hi]
  rw[e] at h1
  have e2:(some (⟨gi,0,none⟩:Addr)).map (λx=>x.add (s*1))=some ⟨gi,0+s*1,none⟩:=by
   show some (Addr.add _ _)=_;unfold Addr.add;split
   ·rename_i h0;rw[h0]
   ·rfl
  rw[e2] at h1;exact h1
 refine T9 13 O ziI O (zb4 ω c ((hg.PN aJ)) hR) ?_
 rintro _ w3 ⟨rfl,rfl⟩
 refine⟨hg,?_⟩
 refine PT 14 O ((T7 O)) hg$ PT 15 O (Sv O) hg$ qE$ PO func134 O ?_
 exact⟨_,rfl,rfl,aG.trans hg⟩
def z6U (h:YU w m gi L)(s n:Nat)(dl:1<=n)(dy:2<=s)(jj:s+n<=L.length)(hc:∀i,s<=i->i<s+n->L[i]? =some true):Qu prog 92 [ptr m 0,.agg #[I (s:Int),I (n:Int)]] w λv w'=>v=I 0/\YU w' m gi (Rn L s n false)/\Kp (λk=>k=gi) w w':=by
 refine py (e:=[(0,_),(1,_)]) func92 O ntmps92 O O$ qN O$ PY O O (Se O (cs:=[I (s:Int),I (n:Int)]) O) ?_
 rintro _ w1 ⟨b3,rfl,dP,ad,aw⟩
 have h1:=h.ext ad
 have l3:=aw.lt
 have lg:=h.ltg
 refine Qc O$ RP$ Qx O$ qV (R9 U67 O O)$ Qc O$ PZ O$ Qx O$ qV (QB (news:=[I (s:Int),I (n:Int)]) YE O Sd O (Q7.cells (n:=2) aw O) O)$ Qk zid O (zaX h1 s n dl dy jj) ?_
 rintro _ w2 ⟨rfl,ae⟩
 have h2:=h1.ext ae
 have dx:=ae.PN aw
 refine qV ((T7 O))$ Qp O$ qV (QB (news:=[I (s:Int),I (n:Int)]) YE O Sd O (Q7.cells (n:=2) dx O) O)$ Qk zhA O (zar h2 s n true dl jj hc) ?_
 rintro _ w3 ⟨rfl,ah⟩
 have h3:=h2.ext ah
 have eR:=ah.PN dx
 have vG:=h3.PN
 refine qV ((T7 O))$ QY O$ Qc O$ PZ O$ Qx O$ QA O$ Qd zdM O$ qV (PX U4 O O vG O)$ Qc O$ PZ O ?_
 have eR:=ah.PN dx
 refine St O$ qV (QB (news:=[I (s:Int),I (n:Int)]) YE O Sd O (Q7.cells (n:=2) eR O) O)$ Qk zfh O (z3E h3 s n false jj) ?_
 rintro _ w4 ⟨rfl,h4,ar⟩
 refine PQ$ Qy.qb (e:=[(4,_)]) ?_
 refine PM$ RN O$ PO func92 O ?_
 exact⟨_,rfl,rfl,h4,((ad.trans ae).trans ah).kp.trans ar⟩
end
structure Dev where
 due:Int
 TG:List Int
 ze6:Int
 mask:UInt8
 B:Nat
 N:Nat
 sf:Int->Option PV
 cache:List (Int×PV)
 down:Bool
 calls:Int
 reads:Int
def zeros (n:Nat):PV:=List.replicate n 0
def Dev.kept (D:Dev)(n:Int):PV:=(D.sf n).getD (zeros (512*D.N))
def XF (l:List (Int×PV))(n:Int):Option PV:=(l.reverse.find? λx=>x.1==n).map (·.2)
def Dev.now (D:Dev)(n:Int):PV:=(XF D.cache n).getD (D.kept n)
def Dev.has (D:Dev)(n:Int):Bool:=decide (0<=n/\n<(D.B:Int))
def Dev.count (D:Dev):Dev:={D with calls:=D.calls+1,due:=if D.due=0 then 0 else D.due-1}
structure Dev.Ok (D:Dev):Prop where
 hB:16<=D.B/\D.B<=4096
 hN:1<=D.N/\D.N<=8
 due:0<=D.due/\D.due<=9223372036854775807
 sf:∀n s,D.sf n=some s->0<=n/\n<(D.B:Int)/\s.length=512*D.N
 cache:∀x∈D.cache,0<=x.1/\x.1<(D.B:Int)/\x.2.length=512*D.N
 len:0<=D.calls
 reads:True
def Dev.Bd (D:Dev):Prop:=D.calls<1000000000000/\D.cache.length<1000000000000/\True
def wr (x:Int×PV):List Value:=[I x.1,S x.2]
def wrs (l:List (Int×PV)):List Value:=l.flatMap wr
@[simp] theorem wrs_length (l:List (Int×PV)):(wrs l).length=l.length*2:=by
 induction l with
 |nil=>rfl
 |cons x r ih=>simp[wrs,wr,List.flatMap_cons] at ih⊢;omega
def ZB (kp ca:Value)(m:Nat)(D:Dev):List Value:=[I D.due,kp,I D.ze6,U8 D.mask,I (D.B:Int),I (D.N:Int),.map (some m),ca,.bool D.down,I D.calls,I D.reads]
@[simp] theorem devCs_length (kp ca:Value) (m:Nat) (D:Dev):(ZB kp ca m D).length=11:=rfl
abbrev KI:Int->Value:=λz=> .int .i64 z
structure Tc (w:World)(p m:Nat)(kp ca:Value)(D:Dev):Prop where
 PN:Q7 w p (ZB kp ca m D) 104
 map:∃kv,XR KI w m kv/\∀n,Sm kv n=(D.sf n).map S
 cache:Sl w ca 313 2 D.cache.length (wrs D.cache)
 TG:Sl w kp 3 1 D.TG.length (D.TG.map I)
 ok:D.Ok
def fpD (p m:Nat)(kp ca:Value):Nat->Prop:=λk=>k=p\/k=m\/ca.ownBlock=some k\/kp.ownBlock=some k
def Xy (w:World)(p:Nat)(D:Dev)(F:Nat->Prop):Prop:=∃m kp ca,Tc w p m kp ca D/\∀k,F k↔fpD p m kp ca k
def Upd (F F':Nat->Prop)(w w':World):Prop:=Kp F w w'/\∀k,F' k->F k\/w.heap.size<=k
theorem Upd.trans {F F' F'':Nat->Prop}{a b c:World}(h:Upd F F' a b)(k:Upd F' F'' b c):Upd F F'' a c:=
 ⟨h.1.It k.1 λi hi=>(h.2 i hi).symm,λi hi=>by
  rcases k.2 i hi with h'|h'
  ·exact h.2 i h'
  ·exact .inr (Nat.le_trans h.1.size h')⟩
theorem Ext.upd {F:Nat->Prop}{w w':World}(h:Ext w w'):Upd F F w w':=⟨h.kp,λ_ h=> .inl h⟩
theorem Tc.pm {w:World}{p m:Nat}{kp ca:Value}{D:Dev}(h:Tc w p m kp ca D):¬p=m:=λe=>by
 obtain⟨kv,⟨⟨es,c,hh,-⟩,-⟩,-⟩:=h.map
 obtain⟨fz,hb,-⟩:=h.PN
 rw[e] at hb;rw[hb] at hh;cases hh
def UF {w:World}{v:Value}{e size n:Nat}{cs:List Value}{b:Nat}(h:Sl w v e size n cs)(hb:v.ownBlock=some b):∃xs fz,w.heap[b]? =some (.cells xs e fz):=by
 rcases h.2 with⟨hz,-⟩|⟨g,cap,cur,hv,-,hg,-⟩
 ·rw[hz] at hb;cases hb
 ·rw[hv] at hb;cases hb;exact⟨_,_,hg⟩
def Tc.kp {S:Nat->Prop}{w w':World}{p m:Nat}{kp ca:Value}{D:Dev}(h:Tc w p m kp ca D)(k:Kp S w w')(hn:∀i,fpD p m kp ca i->¬S i):Tc w' p m kp ca D:=
 ⟨k.PN h.PN (hn p (.inl O)),let ⟨kv,h1,h2⟩:=h.map;⟨kv,k.map h1 (hn m (.inr (.inl O))),h2⟩,h.cache.kp k λg hg=>hn g (.inr (.inr (.inl hg))),h.TG.kp k λg hg=>hn g (.inr (.inr (.inr hg))),h.ok⟩
def Tc.ext {w w':World}{p m:Nat}{kp ca:Value}{D:Dev}(h:Tc w p m kp ca D)(k:Ext w w'):Tc w' p m kp ca D:=h.kp k λ_ _=>id
theorem Dev.Ok.count {D:Dev}(h:D.Ok):D.count.Ok:=by
 have:=h.due
 have:=h.len
 refine⟨h.hB,h.hN,?_,h.sf,h.cache,?_,h.reads⟩
 ·simp only[Dev.count];split<;>omega
 ·simp only[Dev.count];omega
def Tc.turn {w w':World}{p m:Nat}{kp ca:Value}{D D':Dev}(h:Tc w p m kp ca D)(hb:Q7 w' p (ZB kp ca m D') 104)(k:Kp (λi=>i=p) w w')(h1:D'.sf=D.sf)(h2:D'.cache=D.cache)(h3:D'.TG=D.TG)(h4:D'.N=D.N)(az:D'.Ok):Tc w' p m kp ca D':=by
 obtain⟨fz,hp,-⟩:=h.PN
 refine⟨hb,let ⟨kv,hm,hs⟩:=h.map;⟨kv,k.map hm λe=>h.pm e.symm,by rw[h1];exact hs⟩,?_,?_,az⟩
 ·rw[h2];refine h.cache.kp k λg hg rE=>?_;obtain⟨xs,fz',hx⟩:=UF h.cache hg;rw[rE,hp] at hx;cases hx
 ·rw[h3];refine h.TG.kp k λg hg rE=>?_;obtain⟨xs,fz',hx⟩:=UF h.TG hg;rw[rE,hp] at hx;cases hx
def upd (f:Int->Option PV)(n:Int)(s:PV):Int->Option PV:=λx=>if x=n then some s else f x
def zbc (c:PV)(i:Nat)(x:PV):PV:=c.take i++x++c.drop (i+x.length)
def mixN (mask:UInt8)(a b:PV):Nat->PV
 |0=>a
 |s+1=>if mask.toNat / 2^s%2=1 then zbc (mixN mask a b s) (512*s) ((b.drop (512*s)).take 512) else mixN mask a b s
theorem z5Y (c x:PV)(i:Nat)(h:i+x.length<=c.length):(zbc c i x).length=c.length:=by
 simp[zbc];omega
def XP (mask:UInt8)(a b:PV)(N:Nat)(ha:a.length=512*N)(hb:b.length=512*N):∀s,s<=N->(mixN mask a b s).length=512*N
 |0,_=>ha
 | s + 1, h => by
   have ih:=XP mask a b N ha hb s ω;simp only[mixN];split
   ·rw[z5Y _ _ _ (by simp[ih];omega),ih]
   ·exact ih
def Dev.fallTo (D:Dev)(l:List Int)(tn:Int)(mk:UInt8):Nat->(Int->Option PV)
 |0=>D.sf
 | i + 1 => match D.cache[i]? with
   |none=>D.fallTo l tn mk i
   | some x => if (i : Int) = tn then upd (D.fallTo l tn mk i) x.1 (mixN mk (((D.fallTo l tn mk i) x.1).getD (zeros (512 * D.N))) x.2 D.N)
     else if(i:Int)∈l then upd (D.fallTo l tn mk i) x.1 x.2 else D.fallTo l tn mk i
def Dev.zcd (D:Dev)(l:List Int)(tn:Int)(mk:UInt8):Dev:=
 {D with sf:=D.fallTo l tn mk D.cache.length,cache:=[],due:=0,TG:=[],ze6:=0,mask:=0,down:=true}
theorem Dev.Ok.put {D:Dev}(h:D.Ok){n:Int}{s:PV}(hn:0<=n/\n<(D.B:Int))(hs:s.length=512*D.N):Dev.Ok {D with sf:=upd D.sf n s}:=
 ⟨h.hB,h.hN,h.due,λx t hx=>by
  simp only[upd] at hx;split at hx
  ·rename_i e
   cases hx;exact⟨ω,by rw[e];exact hn.2,hs⟩
  ·exact h.sf x t hx,h.cache,h.len,h.reads⟩
theorem Dev.Ok.kept {D:Dev}(h:D.Ok)(n:Int):(D.kept n).length=512*D.N:=by
 unfold Dev.kept
 cases hs:D.sf n with
 |none=>simp[zeros]
 |some s=>exact(h.sf n s hs).2.2
theorem Tc.put {w w':World}{p m:Nat}{kp ca:Value}{D:Dev}{kv:List (Int×Value)}{n:Int}{s:PV}(h:Tc w p m kp ca D)(hs:∀n,Sm kv n=(D.sf n).map S)(hm:XR KI w' m (putL kv n (S s)))(k:Kp (λi=>i=m) w w')
  (az:Dev.Ok {D with sf:=upd D.sf n s}):Tc w' p m kp ca {D with sf:=upd D.sf n s}:=by
 obtain⟨kv0,⟨⟨es,c,hh,-⟩,-⟩,-⟩:=h.map
 refine⟨k.PN h.PN h.pm,⟨_,hm,λx=>?_⟩,?_,?_,az⟩
 ·rw[zc9,hs x];simp only[upd];split<;>rfl
 ·refine h.cache.kp k λg hg rE=>?_;obtain⟨xs,fz',hx⟩:=UF h.cache hg;rw[rE,hh] at hx;cases hx
 ·refine h.TG.kp k λg hg rE=>?_;obtain⟨xs,fz',hx⟩:=UF h.TG hg;rw[rE,hh] at hx;cases hx
def Rd.kpm {w w':World}{v:Value}{size n m:Nat}{cs:List Value}{kv:List (Int×Value)}(h:Rd w v size n cs)(hm:XR KI w m kv)(k:Kp (λi=>i=m) w w'):Rd w' v size n cs:=by
 obtain⟨h1,h2⟩:=h
 refine⟨h1,h2.imp id λ⟨b,off,cap,hv,hc⟩=>⟨b,off,cap,hv,λj u hj=>?_⟩⟩
 have Cn:=hc j u hj
 obtain⟨⟨es,c,hh,-⟩,-⟩:=hm
 have bE:¬b=m:=λe=>by
  rw[e] at Cn;simp[World.cell?,hh] at Cn
 have aR:b<w.heap.size:=by
  rcases Nat.lt_or_ge b w.heap.size with h'|h'
  ·exact h'
  ·simp[World.cell?,Array.getElem?_eq_none h'] at Cn
 rw[<-Cn]
 simp only[World.cell?,k.block b aR bE]
def Tc.zjU {w:World}{p m:Nat}{kp ca:Value}{D:Dev}(h:Tc w p m kp ca D){g:Nat}(hg:ca.ownBlock=some g):¬g=p/\¬g=m/\¬kp.ownBlock=some g:=by
 obtain⟨xs,fz',hx⟩:=UF h.cache hg
 refine⟨λe=>?_,λe=>?_,λe=>?_⟩
 ·obtain⟨fz,hb,-⟩:=h.PN;rw[e,hb] at hx;cases hx
 ·obtain⟨kv,⟨⟨es,c,hh,-⟩,-⟩,-⟩:=h.map;rw[e,hh] at hx;cases hx
 ·obtain⟨ys,fy,hy⟩:=UF h.TG e;rw[hx] at hy;cases hy
def Tc.ziA {w:World}{p m:Nat}{kp ca:Value}{D:Dev}(h:Tc w p m kp ca D){g:Nat}(hg:kp.ownBlock=some g):¬g=p/\¬g=m/\¬ca.ownBlock=some g:=by
 obtain⟨xs,fz',hx⟩:=UF h.TG hg
 refine⟨λe=>?_,λe=>?_,λe=>?_⟩
 ·obtain⟨fz,hb,-⟩:=h.PN;rw[e,hb] at hx;cases hx
 ·obtain⟨kv,⟨⟨es,c,hh,-⟩,-⟩,-⟩:=h.map;rw[e,hh] at hx;cases hx
 ·obtain⟨ys,fy,hy⟩:=UF h.cache e;rw[hx] at hy;cases hy
def Tc.lt {w:World}{p m:Nat}{kp ca:Value}{D:Dev}(h:Tc w p m kp ca D):∀k,fpD p m kp ca k->k<w.heap.size:=by
 intro k hk
 rcases hk with rfl|rfl|hc|hc
 ·exact h.PN.lt
 ·obtain⟨kv,hm,-⟩:=h.map;exact hm.lt
 ·exact h.cache.lt hc
 ·exact h.TG.lt hc
def Xy.kp {S F:Nat->Prop}{w w':World}{p:Nat}{D:Dev}(h:Xy w p D F)(k:Kp S w w')(hn:∀i,F i->¬S i):Xy w' p D F:=by
 obtain⟨m,kp,ca,h1,h2⟩:=h
 exact⟨m,kp,ca,h1.kp k λi hi=>hn i ((h2 i).2 hi),h2⟩
def Xy.ext {F:Nat->Prop}{w w':World}{p:Nat}{D:Dev}(h:Xy w p D F)(k:Ext w w'):Xy w' p D F:=h.kp k λ_ _=>id
def Xy.lt {F:Nat->Prop}{w:World}{p:Nat}{D:Dev}(h:Xy w p D F):∀k,F k->k<w.heap.size:=by
 obtain⟨m,kp,ca,h1,h2⟩:=h
 intro k hk
 rcases (h2 k).1 hk with rfl|rfl|hc|hc
 ·exact h1.PN.lt
 ·obtain⟨kv,hm,-⟩:=h1.map;exact hm.lt
 ·exact h1.cache.lt hc
 ·exact h1.TG.lt hc
def z1o (n:Nat):((List.replicate n (Value.int .u8 0)).drop 0).take n=(zeros n).map U8:=by
 simp[zeros,U8]
section
variable {w:World}{p m:Nat}{kp ca:Value}{D:Dev}
def z7I (h:Tc w p m kp ca D):Qu prog 125 [ptr p 0] w λv w'=>v=I (D.B:Int)/\w'=w:=by
 have hM:=h.PN
 refine py (e:=[(0,_)]) func125 O ntmps125 O O$ RN O$ QS O$ qV (R9 U26 O O)$ Re O$ Qx O$ QA O$ Qd z1K O$ Qd z0o O$ qV (PX U3 O O hM O)$ Qc O$ PO func125 O ?_
 exact⟨_,rfl,rfl,rfl⟩
def z2M (h:Tc w p m kp ca D):Qu prog 77 [ptr p 0] w λv w'=>v=I ((512*D.N:Nat):Int)/\w'=w:=by
 have hM:=h.PN
 have hN:=h.ok.hN
 refine py (e:=[(0,_)]) func77 O ntmps77 O O$ RN O$ QS O$ qV (R9 U26 O O)$ Re O$ Qx O$ QA O$ Qd z1K O$ Qd z0K O$ qV (PX U3 O O hM O)$ qV (Xq O O ω)$ Qc O$ PO func77 O (⟨_,rfl,?_,rfl⟩)
 show I _=I _
 congr 1;omega
def z3F (h:Tc w p m kp ca D):Qu prog 178 [ptr p 0] w λv w'=>v=I (if D.down then 8 else 0)/\w'=w:=by
 have hM:=h.PN
 refine py (e:=[(0,_)]) func178 O ntmps178 O O$ RN O$ RP$ Qx O$ qV (R9 U26 O O)$ Qc O$ PZ O$ Qx O$ QA O$ Qd z4e O$ qV (PX U4 O O hM O)$ Qc O$ Rr O (λhd=>?_)$ λhd=>?_
 ·refine RN O$ PO func178 O ?_;exact⟨_,rfl,by simp[hd,Rb],rfl⟩
 ·refine PR$ PM$ RN O$ PO func178 O ?_;exact⟨_,rfl,by simp[hd,Rb],rfl⟩
def z9y (n:Int)(h:Tc w p m kp ca D):Qu prog 179 [ptr p 0,I n] w λv w'=>v= .bool (D.has n)/\w'=w:=by
 have hM:=h.PN
 refine py (e:=[(0,_),(1,_)]) func179 O ntmps179 O O$ qN O$ RZ O$ UZ O$ TL (λh1=>?_)$ λh1=>?_
 ·refine Qp O$ Q4 O$ QA O$ Qd z1K O$ Qd z0o O$ qV (PX U3 O O hM O)$ RT O$ Sa O$ Qc O$ PO func179 O (⟨_,rfl,?_,rfl⟩);simp[Dev.has,h1,Rb]
 ·refine Q4 O$ S6$ S6$ S6$ qS$ QY O$ Qc O$ PO func179 O (⟨_,rfl,?_,rfl⟩);simp[Dev.has,h1,Rb]
def z5D (n:Int)(h:Tc w p m kp ca D):Qu prog 201 [ptr p 0,I n] w λv w'=>v=S (D.kept n)/\Ext w w':=by
 have hM:=h.PN
 have hN:=h.ok.hN
 have fF:maxLen=9223372036854775807:=rfl
 obtain⟨kv,oI,o5⟩:=h.map
 refine py (e:=[(0,_),(1,_)]) func201 O ntmps201 O O$ RN O$ QS O$ QA O$ Qd z4j O$ qV (PX U97 O O hM O)$ Q4 O$ qV (zlk (k:=n) (K:=KI) U97 (Tm U3) ti9 O O oI) ?_
 rw[o5 n]
 cases hs:D.sf n with
 | some s =>
   refine Q4 O$ TK O$ TN O$ RZ O$ PQ$ Qa O$ Qx O$ Qc O$ PO func201 O ?_
   exact⟨_,rfl,by simp[Dev.kept,hs,Rb],Ext.refl w⟩
 | none =>
   refine Q4 O$ TK O$ TN O$ RZ O$ Re O$ Qx O$ Qk zgH O (z2M h) ?_;rintro _ w1 ⟨rfl,rfl⟩;refine PY O O (pmk (c:=512*D.N) (n:=512*D.N) Tr Y7 O O O ω ω ω) ?_;rintro _ w1 ⟨b1,rfl,⟨bL,ad,ai⟩,-⟩;refine qV (z8j (l:=zeros (512*D.N)) Tr U5 U9 O ai (z1o _) (by simp[zeros])) ?_;refine Qc O$ PO func201 O ?_;exact⟨_,rfl,by simp[Dev.kept,hs,Rb],ad⟩
def z4Z (h:Tc w p m kp ca D)(hc:D.calls<1000000000000):Qu prog 198 [ptr p 0] w λv w'=>v= .bool (decide (D.due=1))/\Tc w' p m kp ca D.count/\Kp (λk=>k=p) w w':=by
 have hM:=h.PN
 have rF:=h.ok.due
 have aH:=h.ok.len
 refine py (e:=[(0,_)]) func198 O ntmps198 O O$ qN O$ RZ O$ QA O$ Qd z9K O$ qV (PX U3 O O hM O)$ R7 O$ QA O$ Qd z9K O$ Qb O (RV Rl O O O hM ξ) ?_
 rintro w1 ⟨du,ay⟩
 refine PQ$ QS O$ QA O$ Qd Y6 O$ Qd z1M O$ qV (PX U3 O O du O)$ Ss O$ PQ$ Q8 O (λh0=>?_)$ λh0=>?_
 ·refine RN O$ PO func198 O ?_;have e0:(ZB kp ca m D).set (0+9) (I (D.calls+1))=ZB kp ca m D.count:=by simp[ZB,Dev.count,h0]
  rw[e0] at du;exact⟨_,rfl,by simp[Rb];omega,h.turn du ay O O O O h.ok.count,ay⟩
 ·refine PR$ Qx O$ QA O$ Qd Y6 O$ Qd z1M O$ qV (PX U3 O O du O)$ SA O$ QA O$ Qd Y6 O$ Qd z1M O$ Qb O (RV Rl O O O du ξ) ?_;rintro w2 ⟨iY,am⟩;refine qM O$ Q4 O$ QA O$ Qd Y6 O$ Qd z1M O$ qV (PX U3 O O iY O)$ Ss O$ Qc O$ Qy.qb (e:=[(2,_)]) ?_;refine PO func198 O ?_;have e0:((ZB kp ca m D).set (0+9) (I (D.calls+1))).set (0+0+0) (I (D.due-1))=ZB kp ca m D.count:=by simp[ZB,Dev.count,h0]
  rw[e0] at iY;exact⟨_,rfl,by simp[Rb];omega,h.turn iY (ay.trans am) O O O O h.ok.count,ay.trans am⟩
end
theorem z8N (xs:List (Int×PV))(j:Nat)(h:j<xs.length):((wrs xs).drop (j*2)).take 2=wr xs[j]:=by
 induction xs generalizing j with
 |nil=>simp at h
 | cons x r ih =>
   cases j with
   |zero=>simp[wrs,wr,List.flatMap_cons]
   | succ j =>
     have e:(wrs (x::r))=I x.1::S x.2::wrs r:=by simp[wrs,wr,List.flatMap_cons]
     rw[e,show(j+1)*2=(j*2)+1+1 by omega]
     simpa using ih j (by simpa using h)
def z2B (a:Option Addr)(n cap:Nat)(w:World):Qu prog 200 [.slice a n cap] w λv w'=>∃b,v= .func (.func 218) #[] #[ptr b 0]/\z1r w b [.slice a n cap] 102 w':=by
 refine py (e:=[(0,_)]) func200 O ntmps200 O O$ qN O$ PY O O (Se O O) ?_
 rintro _ w1 ⟨b1,rfl,hN⟩
 refine S7 O$ qV (ymf (first:=[]) (caps:=[.tmp 1]) O O)$ Qc O$ PO func200 O ?_
 exact⟨_,rfl,_,rfl,hN⟩
def z4I (l bx:Nat)(ca:Value)(xs:List (Int×PV))(J:Nat->World->Prop)(Jx:World->Prop)(w:World)(hn:xs.length<4611686018427387904)
  (hJ:∀i w,J i w->(∃T,Q7 w bx [ca] T)/\Sl w ca 313 2 xs.length (wrs xs))
  (hround:∀i w x,xs.reverse[i]? =some x->J i w->z3l prog l [I ((xs.length:Int)-1-i),.agg (wr x).toArray] w λv w'=>(v= .bool true/\J (i+1) w')\/(v= .bool false/\Jx w')) (h0:J 0 w):
  Qu prog 218 [.func (.yield l) #[] #[],ptr bx 0] w λv w'=>v= .tuple #[]/\(J xs.length w'\/Jx w'):=by
 obtain⟨⟨T,hM⟩,hS⟩:=hJ 0 w h0
 obtain⟨a,cap,rfl,ha⟩:=hS.rd.shape
 refine py (e:=[(0,_),(1,_)]) func218 O ntmps218 O O$ qN O$ qV (PX z29 O O hM O)$ SR z29 O$ SA O$ Qc O$ PS ?_
 rw[show(xs.length:Int)-1=(xs.length:Int)-1-((0:Nat):Int) by omega]
 refine SK (α:=Nat) (0) (λi=>[(0,.func (.yield l) #[] #[]),(1,ptr bx 0),(3,I ((xs.length:Int)-1-i))]) (λi w=>i<=xs.length/\J i w) (λi=>xs.length-i) ?hI ?hround
 case hI=>exact⟨ω,h0⟩
 case hround=>
  rintro i w1 ⟨hi,hj⟩ ih
  try dsimp only
  obtain⟨⟨T1,du⟩,ky⟩:=hJ i w1 hj;refine QS O$ UZ O$ PQ$ Q8 O (λmG=>?_)$ λmG=>?_
  ·have aR:i<xs.length:=by omega
   have Ck:=ky.shape;rcases Ck with⟨-,h⟩|⟨gb,cap',mL,kF⟩
   ·omega
   cases mL;obtain⟨x,hx⟩:∃x,xs.reverse[i]? =some x:=⟨_,List.getElem?_eq_getElem (by simpa using aR)⟩
   have gh:((wrs xs).drop ((xs.length-1-i)*2)).take 2=wr x:=by
    rw[z8N xs _ ω]
    congr 1
    rw[List.getElem?_reverse aR,List.getElem?_eq_getElem ω] at hx;exact SH hx
   have hz:((xs.length:Int)-1-i)=((xs.length-1-i:Nat):Int):=by omega
   have hy:=hround i w1 x hx hj;rw[hz] at hy⊢;refine PR$ RP$ RI O$ qV (PX z29 O O du O)$ Q4 O$ qV (Rh z29 XM O O ω)$ qV (QB zhK O XM O (ky.part gh) O)$ z47 O O (yy O O) (hy) ?_;rintro v w2 hv;rcases hv with⟨rfl,m8⟩|⟨rfl,ae⟩
   ·refine qV ((T7 O))$ Re O$ PM$ St O$ SA O$ Qc O ?_;rw[show((xs.length-1-i:Nat):Int)-1=(xs.length:Int)-1-((i+1:Nat):Int) by omega];exact(ih (i+1) w2 ⟨ω,m8⟩ ω).qb
   ·refine qV ((T7 O))$ PQ$ Qa O$ PO func218 O ?_;exact⟨_,rfl,rfl,.inr ae⟩
  ·refine Q5 O$ Rq func218 O ?_;have:i=xs.length:=by omega
   subst this;exact⟨_,rfl,rfl,.inl hj⟩
theorem z7t (xs:List (Int×PV))(n:Int)(i:Nat):(∀j x,j<i->xs.reverse[j]? =some x->x.1≠n)->∀x,xs.reverse[i]? =some x->x.1=n->XF xs n=some x.2:=by
 intro di x hx he
 have aR:i<xs.reverse.length:=by
  rcases Nat.lt_or_ge i xs.reverse.length with h| h
  ·exact h
  ·rw[List.getElem?_eq_none h] at hx;cases hx
 have:xs.reverse.find? (λx=>x.1==n)=some x:=by
  rw[List.find?_eq_some_iff_getElem];refine⟨by simp[he],i,aR,?_,λj hj=>?_⟩
  ·rw[List.getElem?_eq_getElem aR] at hx;exact SH hx
  ·have:=di j _ hj (List.getElem?_eq_getElem ω)
   simpa using this
 simp[XF,this]
theorem z7a (xs:List (Int×PV))(n:Int):(∀j x,j<xs.length->xs.reverse[j]? =some x->x.1≠n)->XF xs n=none:=by
 intro di
 have:xs.reverse.find? (λx=>x.1==n)=none:=by
  rw[List.find?_eq_none];intro x hx;obtain⟨j,hj,rfl⟩:=List.getElem_of_mem hx;have:=di j _ (by simpa using hj) (List.getElem?_eq_getElem hj)
  simpa using this
 simp[XF,this]
def zdB {w:World}{p m:Nat}{kp ca:Value}{D:Dev}(n:Int)(h:Tc w p m kp ca D)(hc:D.cache.length<1000000000000):
  Qu prog 180 [ptr p 0,I n] w λv w'=>v=S (D.now n)/\Ext w w':=by
 have hM:=h.PN
 have aH:=h.ok.len
 have g7:=hc
 obtain⟨a,cap,rfl,ha⟩:=h.cache.rd.shape
 refine py (e:=[(0,_),(1,_)]) func180 O ntmps180 O O$ qN O$ PY O O (Se O O) ?_
 rintro _ w1 ⟨b3,rfl,dP,ad,aw⟩
 refine PY O O (SE (cs:=[_]) ti9 O) ?_
 rintro _ w2 ⟨b4,rfl,eM,ae,aM⟩
 replace h:=(h.ext ad).ext ae
 have iY:=h.PN
 refine PQ$ QS O$ QA O$ Qd ZT O$ qV (PX z29 O O iY O)$ Qk zjv O (z2B a D.cache.length cap _) ?_
 rintro _ w3 ⟨bx,rfl,fg,ah,jp⟩
 replace h:=h.ext ah
 replace aw:=ah.PN (ae.PN aw)
 replace aM:=ah.PN aM
 refine PQ$ PS$ SX (ps:=[12,13]) (p:=[]) (q:=[_]) O zj5 ?_
 rintro l w4 aC hl cJ hD Rc bM dz
 have Pf:=zdq bM dz
 have h3:=h
 replace h:=h.ext aC
 replace aw:=aC.PN aw
 replace aM:=aC.PN aM
 have FX:=jp.lt
 have mx:=aw.lt
 have eA:=ad.size
 have dy:=ae.size
 have pS:=ah.size
 have MF:bx<w3.heap.size:=jp.lt
 replace jp:=aC.PN jp
 refine Qu.mono (z4I l bx (.slice a D.cache.length cap) D.cache
  (λi w'=>Rc .ready none w'/\Kp (λk=>k=l) w4 w'/\∀j x,j<i->D.cache.reverse[j]? =some x->x.1≠n)
  (λw'=>Rc .done (some .ret) w'/\Kp (λk=>k=l\/k=b4) w4 w'/\Q7 w' b4 [S (D.now n)] 9) w4 ω ?_ ?_ ⟨dz,Kp.refl _ _,ω⟩) ?_
 ·rintro i w' ⟨h1,h2,-⟩;refine⟨⟨_,h2.PN jp ω⟩,h.cache.kp h2 λg hg gd=>?_⟩;have:=h3.cache.lt hg;omega
 ·rintro i w' x hx ⟨h1,h2,di⟩;refine Tt bM h1 O O ?_;have zo:=h2.size;refine PW O$ PY O O (SE (cs:=[_,_]) XM O) ?_;rintro _ w5 ⟨b6,rfl,nV,aU,aY⟩;refine Qb O (QT XM O O O O aY ξ) ?_;rintro w6 ⟨nY,aL⟩;have aS:=aU.It aL (λi hi=>by omega);replace h1:=aS.rc bM h1 id;replace h2:=h2.trans aS.kp;have FY:=aU.size;have MG:=nY.lt;refine PQ$ run_beginRound O bM h1 ?_;rintro w7 h7 aA;have bU:=aA.PN nY ω;have lC:=(h2.trans aA).PN aw ω;refine PS$ qN O$ Qd z1t O$ qV ((PX U3 O O bU O))$ qV ((PX U3 O O lC O))$ Ss O$ PQ$ Q8 O (λeu=>?_)$ λeu=>?_
  ·have fC:=(h2.trans aA).PN aM ω;refine qN O$ Qd z4K O$ qV ((PX U9 O O bU O))$ Qb O (RV ti9 O O O fC ξ) ?_;rintro w8 ⟨co,aK⟩;refine PQ$ UE bM (aK.rc bM h7 ω) ?_;intro w9 h9 ax;refine .inr ⟨rfl,h9,((h2.trans aA).PU λ_ h=> .inl h).trans ((aK.PU λ_ h=> .inr h).trans (ax.PU λ_ h=> .inl h)),?_⟩
   have FZ:D.now n=x.2:=by
    unfold Dev.now;rw[z7t D.cache n i di x hx eu]
    rfl
   rw[FZ];exact ax.PN co ω
  ·refine PR$ PM$ SQ bM h7 ?_;intro w9 h9 ax;refine .inl ⟨rfl,h9,(h2.trans aA).trans ax,λj y hj hy=>?_⟩;rcases Nat.lt_or_ge j i with sT|sT
   ·exact di j y sT hy
   ·have:j=i:=by omega
    subst this;rw[hx] at hy;cases hy;exact eu
 ·rintro v w' ⟨rfl,⟨h1,h2,di⟩|⟨h1,h2,hB⟩⟩
  ·refine⟨_,_,h1,ξ,λw5 h5=>?_⟩;have aj:=h2.trans h5;have aU:Ext w3 w5:=aC.It aj (λi hi=>by omega);replace h3:=h3.ext aU;have lC:=aj.PN aw ω;have fC:=aj.PN aM ω;have vH:=aj.heap hD ω;refine PM$ Qx O$ qV (PX U3 O O lC O)$ Qk zfk O (z5D n h3) ?_;rintro _ w6 ⟨rfl,aS⟩;replace fC:=aS.PN fC;replace vH:=aS.heap vH id;refine Qb O (RV ti9 O O O fC ξ) ?_;rintro w7 ⟨bU,aA⟩;replace vH:=aA.heap vH ω;have co:=(Ri w7 w3.heap.size (.deferred none)).PN bU ω;refine PQ$ Up ξ (Uv vH) func180 (.cell1 U9 O O ((co).cell _) .nil) ?_;refine⟨_,rfl,?_,?_⟩
   ·simp[Dev.now,z7a D.cache n di,Rb]
   ·exact((((ad.trans (ae.trans ah)).trans aU).trans aS).It aA (λi hi=>by omega)).It (Ri w7 w3.heap.size (.deferred none)) (λi hi=>by omega)
  ·refine⟨_,_,h1,ξ,λw5 h5=>?_⟩;have vH:=(h2.trans (h5.PU λ_ h=> .inl h)).heap hD ω;have aJ:=h5.PN hB ω;have co:=(Ri w5 w3.heap.size (.deferred none)).PN aJ ω;refine Up ξ (Uv vH) func180 (.cell1 U9 O O ((co).cell _) .nil) ?_;refine⟨_,rfl,rfl,?_⟩;exact(((ad.trans (ae.trans (ah.trans aC))).It h2 (λi hi=>by omega)).It h5 (λi hi=>by omega)).It (Ri w5 w3.heap.size (.deferred none)) (λi hi=>by omega)
section
variable {w:World}{p m:Nat}{kp ca:Value}{D:Dev}
def zc3 (h:Tc w p m kp ca D):Qu prog 141 [ptr p 0] w λv w'=>v= .bool D.down/\w'=w:=by
 have hM:=h.PN
 refine py (e:=[(0,_)]) func141 O ntmps141 O O$ qN O$ RZ O$ qV (R9 U26 O O)$ Qp O$ QA O$ Qd z4e O$ qV (PX U4 O O hM O)$ QY O$ Qc O$ PO func141 O ?_
 exact⟨_,rfl,rfl,rfl⟩
end
def z9X (v:Value)(l:List Int)(x:Int)(w:World)(hl:l.length<=17592186044416)(hr:Rd w v 1 l.length (l.map I)):
  Qu prog 190 [v,I x] w λu w'=>(∃k,u=I k/\(0<=k↔x∈l))/\w'=w:=by
 obtain⟨a,cap,rfl,ha⟩:=hr.shape
 refine py (e:=[(0,_),(1,_)]) func190 O ntmps190 O O$ RN O$ QS O$ SR SC O$ Q4 O$ PQ$ PS$ SK (α:=Nat) (0) (λi=>[(0,.slice a l.length cap),(1,I x),(7,I (l.length:Int)),(8,I (i:Int))]) (λi w'=>w'=w/\i<=l.length/\∀j,j<i->l[j]?≠some x) (λi=>l.length-i) ?hI ?hround
 case hI=>exact⟨rfl,ω,ω⟩
 case hround =>
  rintro i _ ⟨rfl,hi,di⟩ ih
  try dsimp only
  refine qN O$ RT O$ PQ$ An$ Q8 O (λaR=>?_)$ λaR=>?_
  ·have gp:i<l.length:=by omega
   rcases hr.2 with⟨c,-,h⟩|⟨b,off,cap',mL,bq⟩
   ·omega
   cases mL;refine PR$ RP$ Qx O$ S7 O$ Qp O$ Q4 O$ qV (Rh SC Rl O O ω)$ qV (QF U3 O O (bq (i*1) (I l[i]) (by simp[gp]))) ?_;refine Ss O$ PQ$ Q8 O (λeu=>?_)$ λeu=>?_
   ·refine Qx O$ Qc O$ PO func190 O (⟨_,rfl,⟨(i:Int),rfl,?_⟩,rfl⟩);constructor
    ·intro _;rw[eu];exact List.getElem_mem gp
    ·intro _;omega
   ·refine PR$ PM$ PW O$ R7 O$ Q4 O$ PQ ?_
    exact(ih (i+1) _ ⟨rfl,ω,λj hj=>by
     rcases Nat.lt_or_ge j i with h| h
     ·exact di j h
     ·have:j=i:=by omega
      subst this;rw[List.getElem?_eq_getElem gp]
      exact λh=>eu (SH h).symm⟩ ω).qb
  ·refine Q5 O$ RN O$ PO func190 O (⟨_,rfl,⟨-1,rfl,?_⟩,rfl⟩);constructor
   ·intro h;omega
   ·intro h;obtain⟨j,hj,e⟩:=List.getElem_of_mem h;exact absurd (by rw[List.getElem?_eq_getElem hj,e]) (di j ω)
def z4G (v:Value)(l:List Int)(x:Int)(w:World)(hl:l.length<=17592186044416)(hr:Rd w v 1 l.length (l.map I)):
  Qu prog 217 [v,I x] w λu w'=>u= .bool (decide (x∈l))/\w'=w:=by
 refine py (e:=[(0,_),(1,_)]) func217 O ntmps217 O O$ qN O$ S7 O$ Qp O$ Qk zfZ O (z9X v l x w hl hr) ?_
 rintro _ w1 ⟨⟨k,rfl,hk⟩,rfl⟩
 refine UZ O$ Qc O$ PO func217 O (⟨_,rfl,?_,rfl⟩)
 simp only[Rb,hk]
theorem z7e (c x:PV)(rest:List Value)(i:Nat)(h:i+x.length<=c.length):RW (c.map U8++rest) i (x.map U8)=(zbc c i x).map U8++rest:=by
 unfold RW zbc
 rw[List.take_append_of_le_length (by simp;omega),List.drop_append_of_le_length (by simp;omega)]
 simp
theorem z0C {D:Dev}{l:List Int}{tn:Int}{mk:UInt8}{i:Nat}{x:Int×PV}(hx:D.cache[i]? =some x):D.fallTo l tn mk (i+1)=
  if(i:Int)=tn then upd (D.fallTo l tn mk i) x.1 (mixN mk (((D.fallTo l tn mk i) x.1).getD (zeros (512*D.N))) x.2 D.N)
   else if(i:Int)∈l then upd (D.fallTo l tn mk i) x.1 x.2 else D.fallTo l tn mk i:=by
 simp only[Dev.fallTo,hx]
def zcQ {w:World}{p m:Nat}{kp ca cv:Value}{D:Dev}(h:Tc w p m kp ca D)(l:List Int)(tn:Int)(mk:UInt8)(hl:l.length<=17592186044416)(hr:Rd w cv 1 l.length (l.map I))(g7:D.cache.length<2000000000000):
  Qu prog 199 [ptr p 0,.agg #[cv,I tn,U8 mk]] w λv w'=>v= .tuple #[]/\Tc w' p m (.slice none 0 0) (.slice none 0 0) (D.zcd l tn mk)/\Kp (λk=>k=p\/k=m) w w':=by
 have aH:=h.ok.len
 have hN:=h.ok.hN
 have MH:=mk.toNat_lt
 have MI:=h.pm
 have Co:=h.lt m (.inr (.inl O))
 have Jr:∀{w':World},Ext w w'->w.heap.size<=w'.heap.size:=λh=>h.size
 obtain⟨a,cap,rfl,ha⟩:=h.cache.rd.shape
 obtain⟨ac,capc,rfl,Ph⟩:=hr.shape
 refine py (e:=[(0,_),(1,_)]) func199 O ntmps199 O O$ qN O$ PY O O (Se O O) ?_
 rintro _ w1 ⟨b3,rfl,dP,ad,aw⟩
 have h0:=h.ext ad
 have eA:=ad.size
 replace hr:=hr.ext ad
 have FX:=aw.lt
 have hM:=h0.PN
 refine PQ$ QS O$ QA O$ Qd ZT O$ qV (PX z29 O O hM O)$ SR z29 O$ Q4 O$ PQ$ PS$ SK (α:=Nat) (0) (λi=>[(0,ptr p 0),(3,ptr b3 0),(11,.slice a D.cache.length cap),(12,I (D.cache.length:Int)),(13,I (i:Int))]) (λi wi=>i<=D.cache.length/\Tc wi p m kp (.slice a D.cache.length cap) {D with sf:=D.fallTo l tn mk i}/\Rd wi (.slice ac l.length capc) 1 l.length (l.map I)/\Q7 wi b3 [.slice ac l.length capc,I tn,U8 mk] 99/\Kp (λk=>k=m) w1 wi) (λi=>D.cache.length-i) ?hI ?hround
 case hI=>exact⟨ω,h0,hr,aw,Kp.refl _ _⟩
 case hround =>
  rintro i wi ⟨hi,hd,lw,gK,qp⟩ ih
  try dsimp only
  have MJ:=qp.size;refine qN O$ RT O$ PQ$ An$ Q8 O (λaR=>?_)$ λaR=>?_
  ·have gp : i < D.cache.length := by omega
   have oJ:=hd.cache;rcases oJ.shape with⟨-,h⟩|⟨gb,cap',mL,kF⟩
   ·exact absurd h (by show ¬D.cache.length=0;omega)
   cases mL;obtain⟨x,hx⟩:∃x,D.cache[i]? =some x:=⟨_,List.getElem?_eq_getElem gp⟩;have IA:D.cache[i]=x:=by rw[List.getElem?_eq_getElem gp] at hx;exact SH hx
   have gh:((wrs D.cache).drop (i*2)).take 2=wr x:=by rw[z8N _ _ gp,IA]
   have iZ:=hd.ok.cache x (List.mem_of_getElem? hx);simp only at iZ;have mj:=oJ.part gh;refine PR$ RP$ Qx O$ qV (Rh z29 XM O O ω)$ qV (QB zhK O XM O mj O)$ PY O O (SE (cs:=[_,_]) XM O) ?_;rintro _ w2 ⟨b5,rfl,gm,ae,aJ⟩;refine TN O$ Qb O (QT XM O O O O aJ ξ) ?_;rintro w3 ⟨eO,av⟩;replace eO:Q7 w3 b5 [I x.1,S x.2] 313:=eO;have ah:Ext wi w3:=ae.It av (λj hj=>by omega);have MK:=eO.lt;replace hd:=hd.ext ah;have iN:=hd.lt;replace lw:=lw.ext ah;have rG:=lw;replace gK:=ah.PN gK;have mx:=gK.lt;have cA:Kp (λk=>k=m) w1 w3:=qp.trans ah.kp;have ML:=ah.size;have Js:¬b3=b5:=by have:=ae.size;have:=gK;omega
   refine PQ$ PS$ Qx O$ Qd zg8 O$ qV ((PX U3 O O gK O))$ Ss O$ Qc O$ Q8 O (λxA=>?_)$ λxA=>?_
   ·refine Qx O$ Qd z1t O$ qV ((PX U3 O O eO O))$ Qk zfk O (z5D x.1 hd) ?_;rintro _ w4 ⟨rfl,aC⟩;obtain⟨k0,fZ⟩:∃k0,Dev.kept {D with sf:=D.fallTo l tn mk i} x.1=k0:=⟨_,rfl⟩;have At:k0.length=512*D.N:=by rw[<-fZ];exact hd.ok.kept x.1
    rw[fZ];refine PY O O (zcm U9 Tr U5 O) ?_;rintro _ w5 ⟨bb,capb,rest,rfl,⟨u7,aU,tc⟩,Jt⟩;have dN:=aC.trans aU;replace hd:=hd.ext dN;replace lw:=lw.ext dN;replace gK:=dN.PN gK;replace eO:=dN.PN eO;have MM:=tc.lt;have xB:=hd.PN;have Ju:=dN.size;have MN:=aC.size;have MO:=hd.PN.lt;refine Qc O$ QS O$ QA O$ Qd z1K O$ Qd z0K O$ qV (PX U3 O O xB O)$ Q4 O$ PQ$ PS$ SK (α:=Nat) (0) (λs=>[(0,ptr p 0),(3,ptr b3 0),(5,ptr b5 0),(6,.slice (some ⟨bb,0,none⟩) k0.length capb),(11,.slice (some ⟨gb,0,none⟩) D.cache.length cap),(12,I (D.cache.length:Int)),(13,I (i:Int)),(32,I (D.N:Int)),(33,I (s:Int))]) (λs ws=>s<=D.N/\Q7 ws bb ((mixN mk k0 x.2 s).map U8++rest) 5/\Kp (λk=>k=bb) w5 ws) (λs=>D.N-s) ?hI ?hround
    case hI=>exact⟨ω,tc,Kp.refl _ _⟩
    case hround=>
     rintro s ws ⟨hs,j0,dp⟩ ihs
     try dsimp only
     have Au:=dp.PN gK ω;have Av:=dp.PN eO ω;have fF:=XP mk k0 x.2 D.N At iZ.2.2 s hs;refine qN O$ RT O$ PQ$ An$ Q8 O (λiz=>?_)$ λiz=>?_
     ·have MP:s<D.N:=by omega
      obtain⟨q,hq⟩:∃q,mk.toNat / 2^s=q:=⟨_,rfl⟩;have Pi:q<256:=by rw[<-hq];exact Nat.lt_of_le_of_lt (Nat.div_le_self _ _) MH
      refine PR$ RP$ Qx O$ S7 O$ Qd zgC O$ qV (PX U5 O O Au O)$ Q4 O$ qV (Vm s (2^s) O O (by simp only[IntKind.bits];omega) O) ?_;rw[hq];refine qV (zkZ O O ω ω) ?_;rw[Nat.and_one_is_mod];refine Ss O$ PQ$ Q8 O (λoB=>?_)$ λoB=>?_
      ·have oK:q%2=1:=by omega
       refine S5 (λw'=>Kp (λk=>k=bb) ws w') O$ Qi 0 O O ((Kp.refl _ ws).drew)$ Qi 1 O O ((Kp.refl _ ws).drew)$ PT 2 O (Xq O O ω) ((Kp.refl _ ws).drew)$ Qi 3 O O ((Kp.refl _ ws).drew)$ PT 4 O (Wa O O ω) ((Kp.refl _ ws).drew)$ PT 5 O (Xq O O ω) ((Kp.refl _ ws).drew)$ PT 7 O (Qz z4K O) ((Kp.refl _ ws).drew)$ qT 8 O (λ_ h=>PX U9 O O (h.PN Av ω) O) ((Kp.refl _ ws).drew)$ Qi 9 O O ((Kp.refl _ ws).drew)$ PT 10 O (Xq O O ω) ((Kp.refl _ ws).drew)$ PT 11 O (ZJ U9 O O ω) ((Kp.refl _ ws).drew)$ PT 6 O (zgk (i:=s*512) (j:=(s+1)*512) Tr Y7 O O O ω ω) ((Kp.refl _ ws).drew)$ qO 12 ?_;refine YZ (i:=12) O O O (zmk Tr Y7 O O ((Ext.Qh ws).PN j0) (by simp[fF];omega)) ?_;rintro _ w6 ⟨rfl,aY,aL⟩;refine⟨(Kp.refl _ ws).drew.trans aL,?_⟩
       have e6:((x.2.drop (s*512)).take ((s+1)*512-s*512)).map U8=((x.2.drop (512*s)).take 512).map U8:=by
        rw[show(s+1)*512-s*512=512 by omega,Nat.mul_comm]
       rw[e6,show 0+s*512*1=512*s by omega,z7e _ _ _ _ (by simp[fF,iZ.2.2];omega)] at aY
       have em:mixN mk k0 x.2 (s+1)=zbc (mixN mk k0 x.2 s) (512*s) ((x.2.drop (512*s)).take 512):=by
        simp only[mixN,hq,oK,if_true]
       rw[<-em] at aY;refine qE$ PM$ PW O$ R7 O$ Q4 O$ PQ ?_;exact(ihs (s+1) w6 ⟨ω,aY,dp.trans ((Kp.refl _ ws).drew.trans aL)⟩ ω).qb
      ·have oK:¬q%2=1:=by omega
       have em:mixN mk k0 x.2 (s+1)=mixN mk k0 x.2 s:=by simp only[mixN,hq,oK,if_false]
       rw[<-em] at j0;refine PR$ PM$ PW O$ R7 O$ Q4 O$ PQ ?_;exact(ihs (s+1) ws ⟨ω,j0,dp⟩ ω).qb
     ·have E6:s=D.N:=by omega
      subst E6;have Aw:=hd.kp dp λk hk aW=>by have:=iN k hk;omega
      obtain⟨kv,oI,o5⟩:=Aw.map;have MQ:=Aw.PN;have Jv:Ext w3 ws:=dN.It dp (λj hj=>by omega);have vI:=rG.ext Jv;refine Q5 O$ S5 (λw'=>Kp (λk=>k=m) ws w') O$ Qi 0 O O ((Kp.refl _ ws).drew)$ PT 1 O (R8 O) ((Kp.refl _ ws).drew)$ PT 2 O (Qz z4j O) ((Kp.refl _ ws).drew)$ qT 3 O (λ_ h=>(PX U97 O O (h.PN MQ Aw.pm) O)) ((Kp.refl _ ws).drew)$ PT 4 O (Qz z1t O) ((Kp.refl _ ws).drew)$ qT 5 O (λ_ hS=>(PX U3 O O (hS.PN Av ω) O)) ((Kp.refl _ ws).drew)$ Qi 6 O O ((Kp.refl _ ws).drew)$ qT 7 O (λ_ h=>z8j (l:=mixN mk k0 x.2 D.N) Tr U5 U9 O (h.PN j0 ω) (z5j _ _ _ ω) ω) ((Kp.refl _ ws).drew)$ qO 8$ QO (i:=8) O O (zmu (k:=x.1) (K:=KI) U97 (Tm U3) O O O (Ext.map (Ext.Qh ws) oI)) ?_;rintro w7 ⟨gL,aA⟩;refine⟨(Kp.refl _ ws).drew.trans aA,?_⟩;have eZ:=(Kp.refl (λi=>i=m) ws).drew.trans aA;have te:=Aw.put o5 gL eZ (Aw.ok.put ⟨iZ.1,iZ.2.1⟩ (XP mk k0 x.2 D.N At iZ.2.2 D.N (Nat.le_refl _)))
      have ef:upd (D.fallTo l tn mk i) x.1 (mixN mk k0 x.2 D.N)=D.fallTo l tn mk (i+1):=by
       rw[z0C hx,if_pos xA,<-fZ];rfl
      simp only[ef] at te;refine qE$ PM$ PM$ PW O$ R7 O$ Q4 O$ PQ ?_;exact(ih (i+1) w7 ⟨ω,te,vI.kpm oI eZ,eZ.PN Au ω,cA.trans (Jv.kp.trans eZ)⟩ ω).qb
   ·have G0:=hd.PN;refine qN O$ Qd zhf O$ qV ((PX SC O O gK O))$ Q4 O$ Qk zj7 O (z4G (.slice ac l.length capc) l (i:Int) w3 hl rG) ?_;rintro _ w4 ⟨rfl,rfl⟩;refine Qc O$ Q8 O (λau=>?_)$ λau=>?_
    ·obtain⟨kv,oI,o5⟩:=hd.map;refine S5 (λw'=>Kp (λk=>k=m) w4 w') O$ Qi 0 O O ((Kp.refl _ w4).drew)$ PT 1 O (R8 O) ((Kp.refl _ w4).drew)$ PT 2 O (Qz z4j O) ((Kp.refl _ w4).drew)$ qT 3 O (λ_ h=>(PX U97 O O (h.PN G0 hd.pm) O)) ((Kp.refl _ w4).drew)$ PT 4 O (Qz z1t O) ((Kp.refl _ w4).drew)$ qT 5 O (λ_ hS=>(PX U3 O O (hS.PN eO ω) O)) ((Kp.refl _ w4).drew)$ PT 6 O (Qz z4K O) ((Kp.refl _ w4).drew)$ qT 7 O (λ_ hS=>(PX U9 O O (hS.PN eO ω) O)) ((Kp.refl _ w4).drew)$ qO 8$ QO (i:=8) O O (zmu (k:=x.1) (K:=KI) U97 (Tm U3) O O O (Ext.map (Ext.Qh w4) oI)) ?_;rintro w7 ⟨gL,aA⟩;refine⟨(Kp.refl _ w4).drew.trans aA,?_⟩;have eZ:=(Kp.refl (λi=>i=m) w4).drew.trans aA;have te:=hd.put o5 gL eZ (hd.ok.put ⟨iZ.1,iZ.2.1⟩ iZ.2.2)
     have ef:upd (D.fallTo l tn mk i) x.1 x.2=D.fallTo l tn mk (i+1):=by
      rw[z0C hx,if_neg xA,if_pos au]
     simp only[ef] at te;refine qE$ PM$ PM$ PW O$ R7 O$ Q4 O$ PQ ?_;exact(ih (i+1) w7 ⟨ω,te,rG.kpm oI eZ,eZ.PN gK ω,cA.trans eZ⟩ ω).qb
    ·have ef:D.fallTo l tn mk i=D.fallTo l tn mk (i+1):=by
      rw[z0C hx,if_neg xA,if_neg au]
     rw[ef] at hd;refine PR$ PM$ PM$ PW O$ R7 O$ Q4 O$ PQ ?_;exact(ih (i+1) w4 ⟨ω,hd,rG,gK,cA⟩ ω).qb
  ·have au:i=D.cache.length:=by omega
   subst au;have G0:=hd.PN;refine Q5 O$ Qx O$ QA O$ Qd ZT O$ Qb O (RV z9Q O O O G0 ξ) ?_;rintro w5 ⟨aJ,aj⟩;refine qM O$ Q4 O$ qV (Tq (cs:=[_,_,_,_]) z8I O zjQ O O)$ QA O$ Qd Y6 O$ Qb O (QT z8I O O O O aJ ξ) ?_;rintro w6 ⟨aY,aL⟩;replace aY:Q7 w6 p [I 0,.slice none 0 0,I 0,U8 0,I (D.B:Int),I (D.N:Int),.map (some m),.slice none 0 0,.bool D.down,I D.calls,I D.reads] 104:=aY;refine PQ$ St O$ QA O$ Qd z4e O$ Qb O (RV VK O O O aY ξ) ?_;rintro w7 ⟨bU,aA⟩;refine PQ$ Rq func199 O ?_;have Ax:=(aj.trans aL).trans aA;obtain⟨kv,oI,o5⟩:=hd.map;refine⟨_,rfl,rfl,⟨bU,⟨kv,Ax.map oI λe=>hd.pm e.symm,o5⟩,Sl.nil w7 _ _,Sl.nil w7 _ _,?_⟩,?_⟩
   ·exact⟨hd.ok.hB,hd.ok.hN,by simp[Dev.zcd],hd.ok.sf,λx hx=>by simp[Dev.zcd] at hx,by have:=aH;simp[Dev.zcd];omega,hd.ok.reads⟩
   ·exact((Ext.kp ad).trans (qp.PU λ_ h=> .inr h)).trans (Ax.PU λ_ h=> .inl h)
end Go.Proofs.YtffbidffdbpcoaaGreatDoor
