/- Merged by program. -/
import Derived.Test.YtfgjaafcgghnoaaGreatDoorCNp4
import Derived.WideLaws
set_option linter.all false
set_option maxRecDepth 1000000
set_option maxHeartbeats 16000000
namespace Go.Proofs.YtfgjaafcgghnoaaGreatDoor
open Go Go.RowKit
structure Fm where
 n:Nat
 u:Nat
 width:Nat
 bits:Nat
def fmC (f:Fm):List Value:=[I (f.n:Int),Ly f.u,I (f.width:Int),I (f.bits:Int)]
abbrev fmV (f:Fm):Value:= .agg (fmC f).toArray
def Tr (n u:Nat):Nat:=if u / n=0 then 0 else Ma (u / n)-1
def PE (n u:Nat):Fm:=⟨n,u,Tr n u,(u-1) / 2^Tr n u+n⟩
def Fm.high (f:Fm):Nat:=12+(f.n*f.width+7) / 8
def Fm.Qv (f:Fm):Nat:=f.high+(f.bits+7) / 8
def Fm.size (f:Fm):Nat:=f.Qv+4*((f.n+63) / 64)
theorem UC {n u:Nat}(hu:u<=1000000000):Tr n u<=30:=by
 unfold Tr
 split
 ·omega
 ·have h1:u / n<=u:=Nat.div_le_self _ _;have h2:Ma (u / n)<=30:=N0 (by omega);omega
theorem WX {n u:Nat}(hn:1<=n)(hu:1<=u):(u-1) / 2^Tr n u<2*n:=by
 have h2:0<2^Tr n u:=Nat.two_pow_pos _
 rw[Nat.div_lt_iff_lt_mul h2]
 unfold Tr
 split
 ·rename_i h
  have:u<n:=by
   rcases Nat.lt_or_ge u n with h1|h1
   ·exact h1
   ·have:=Nat.div_pos h1 (by omega);omega
  simp;omega
 ·rename_i h
  have h3:u / n<2^Ma (u / n):=Ss;have h4:Ma (u / n)≠0:=λe=>by rw[e,Nat.pow_zero] at h3;exact h (Nat.lt_one_iff.1 h3)
  obtain⟨k,hk⟩:∃k,Ma (u / n)=k+1:=⟨Ma (u / n)-1,by omega⟩;rw[hk] at h3⊢;rw[Nat.add_sub_cancel]
  have h5:u<n*2^(k+1):=by
   have:=(Nat.div_lt_iff_lt_mul (show 0<n by omega)).1 h3
   rwa [Nat.mul_comm] at this
  rw[Nat.pow_succ] at h5;have e:n*(2^k*2)=2*n*2^k:=by rw[Nat.mul_comm (2^k) 2,<-Nat.mul_assoc,Nat.mul_comm n 2]
  omega
theorem z4F {n u:Nat}(hn:1<=n)(hu:1<=u):(PE n u).bits<=3*n:=by
 have:=WX hn hu
 show(u-1) / 2^Tr n u+n<=_
 omega
theorem T9 (n u:Nat)(hn:1<=n)(jc:n<=1000)(hu:1<=u)(m4:u<=1000000000)(w:World):LP Tryz.prog 126 [I (n:Int),Ly u] w λv w'=>v=fmV (PE n u)/\Ext w w':=by
 have tY:=UC (n:=n) m4
 have eT:=WX hn hu
 have hq:u / n<=u:=Nat.div_le_self _ _
 obtain⟨q,sw⟩:∃q,u / n=q:=⟨_,rfl⟩
 have Fe:Tr n u=if q=0 then 0 else Ma q-1:=by rw[Tr,sw]
 rw[sw] at hq
 have BP:Ma q<=30:=N0 (by omega)
 refine Lb (e:=[(0,_),(1,_)]) Tryz.func126 O Tryz.ntmps126 O O$ qN O$ Lm O O (NJ (cs:=[_,_,_,_]) OW O) ?_
 rintro _ w1 ⟨b4,rfl,gn,ad,aF⟩
 refine qM O$ Lu O O$ qV (O6 (cs:=[_,_,_,_]) OW O zcC O O)$ Lm O O (NJ (cs:=[_,_,_,_]) OW O) ?_
 rintro _ w2 ⟨b5,rfl,gQ,ag,aI⟩
 have z1:=ad.size
 have z2:=ag.size
 have l4:=aF.lt
 have l5:=aI.lt
 refine Ls O (M7 (news:=[I (n:Int),Ly u,I 0,I 0]) OW O O O O aI (by simp)) ?_
 rintro w3 ⟨ii,ax⟩
 replace ii:Lq w3 b5 [I (n:Int),Ly u,I 0,I 0] 238:=ii
 have ek:Ext w w3:=(ad.trans ag).It ax (λi e=>by omega)
 have dQ:=ax.Lg (ag.Lg aF) (by omega)
 have z3:=ax.size
 refine Lf$ run_seq$ qN O$ Le O$ Nb O O$ M5$ Lf$ An O$ py$ run_seq$ qN O$ Lu O O$ qV ((by first|exact Mc O U3 MP (by omega)|exact Ny O U3 MP)) ?_
 refine qV (zcM (m:=u) (n:=n) O O O (by show u<2^64;omega) (by omega)) ?_
 rw[sw]
 refine Lw O$ qM O$ Le O$ MH O O$ Lf$ M6 (λe' w'=>e'=[(0,I (n:Int)),(1,Ly u),(4,ptr b4 0),(5,ptr b5 0)]/\Ext w w'/\Lq w' b5 [I (n:Int),Ly u,I (Tr n u:Int),I 0] 238/\Lq w' b4 [I 0,Ly 0,I 0,I 0] 238) ?cD$ λcD=>?cQ
 case cD=>
  rintro e' w4 ⟨rfl,ay,gD,cw⟩;refine qN O$ Le O$ qV (RO (m:=u) (n:=1) O O O (by show u<2^64;omega) (by omega)) ?_;refine Lt P5 O$ qV (Lj U3 O O gD O)$ qV (Qg (Tr n u) (2^Tr n u) O O (by show Tr n u<=64;omega) O) ?_
  generalize HF:(u-1) / 2^Tr n u=qb at eT
  refine qV (M3 O MP U3 (by omega))$ Le O$ Mb O O$ Lt TJ O$ Ls O (MY Md O O O gD (by simp)) ?_;rintro w5 ⟨sx,ak⟩;replace sx:Lq w5 b5 [I (n:Int),Ly u,I (Tr n u:Int),I ((qb+n:Nat):Int)] 238:=sx;refine qM O$ qV (LM z0P O OW O (Lq.cells (n:=4) sx (news:=[_,_,_,_]) O) O)$ Ls O (M7 (news:=[I (n:Int),Ly u,I (Tr n u:Int),I ((qb+n:Nat):Int)]) OW O O O O (ak.Lg cw (by omega)) (by simp)) ?_;rintro w6 ⟨bQ,aU⟩;replace bQ:Lq w6 b4 [I (n:Int),Ly u,I (Tr n u:Int),I ((qb+n:Nat):Int)] 238:=bQ;refine Lf$ LL Tryz.func126 (.cell z0P O OW O (Lq.cells (n:=4) bQ (news:=[_,_,_,_]) O) O .nil) (⟨_,rfl,?_,(ay.It ak (λi e=>by omega)).It aU (λi e=>by omega)⟩);unfold fmV fmC PE;rw[HF]
  rfl
 case cQ=>
  refine Lp O (λh0=>?_)$ λh0=>?_
  ·refine Li O$ Le O$ LD XL O (PV q (by omega) _) ?_;rintro _ w3 ⟨rfl,rfl⟩;have rL:Ma q≠0:=λe=>by have:=Ss (v:=q);rw[e] at this;omega
   refine Np O O ?_;rw[show(Ma q:Int)-1=(Tr n u:Int) by rw[Fe,if_neg (by omega)];omega];refine Lt P5 O$ Ls O (MY Md O O O ii (by simp)) ?_;rintro w4 ⟨gD,av⟩;replace gD:Lq w4 b5 [I (n:Int),Ly u,I (Tr n u:Int),I 0] 238:=gD;refine Lf ?_;exact(cD _ _ ⟨rfl,ek.It av (λi e=>by omega),gD,av.Lg dQ (by omega)⟩).qb
  ·have mC:Tr n u=0:=by rw[Fe,if_pos (by omega)]
   refine py ?_;exact(cD _ _ ⟨rfl,ek,by rw[mC];exact ii,dQ⟩).qb
def Fm.small (f:Fm):Prop:=f.n<=100000/\f.width<=64/\f.bits<=1000000
theorem Zj (f:Fm)(hf:f.small)(w:World):LP Tryz.prog 211 [fmV f] w λv w'=>v=I (f.high:Int)/\Ext w w':=by
 obtain⟨h1,h2,h3⟩:=hf
 have hm:f.n*f.width<=100000*64:=Nat.mul_le_mul h1 h2
 refine Lb (e:=[(0,_)]) Tryz.func211 O Tryz.ntmps211 O O$ qN O$ Lm O O (Nc O (cs:=fmC f) O) ?_
 rintro _ w1 ⟨b1,rfl,bR,ad,ai⟩
 replace ai:Lq w1 b1 [I (f.n:Int),Ly f.u,I (f.width:Int),I (f.bits:Int)] 238:=ai
 refine Lw O$ qM O$ Lt Ue O$ qV (Lj U3 O O ai O)$ Lt P5 O$ qV (Lj U3 O O ai O) ?_
 have o2:((f.n*f.width:Nat):Int)=(f.n:Int)*(f.width:Int):=Int.natCast_mul _ _
 refine qV (T6 O O (by rw[<-o2];omega)) ?_
 rw[<-o2]
 refine Mb O O$ qV (SC O O (by omega))$ Mb O O$ Lk O$ Lh Tryz.func211 O (⟨_,rfl,?_,ad⟩)
 show I (12+(((f.n*f.width:Nat):Int)+7) / 8)=I ((12+(f.n*f.width+7) / 8:Nat):Int)
 congr 1
theorem Fm.Sr {f:Fm}(hf:f.small):f.high<=10000000:=by
 obtain⟨h1,h2,h3⟩:=hf
 have hm:f.n*f.width<=100000*64:=Nat.mul_le_mul h1 h2
 unfold Fm.high
 omega
theorem ZK (f:Fm)(hf:f.small)(w:World):LP Tryz.prog 180 [fmV f] w λv w'=>v=I (f.Qv:Int)/\Ext w w':=by
 have oo:=Fm.Sr hf
 obtain⟨h1,h2,h3⟩:=id hf
 refine Lb (e:=[(0,_)]) Tryz.func180 O Tryz.ntmps180 O O$ qN O$ Lm O O (Nc O (cs:=fmC f) O) ?_
 rintro _ w1 ⟨b1,rfl,bR,ad,ai⟩
 replace ai:Lq w1 b1 [I (f.n:Int),Ly f.u,I (f.width:Int),I (f.bits:Int)] 238:=ai
 have hg:=Ext.LC w1
 refine Lk O$ run_seq$ N7 (λw'=>Ext w1 w') O$ qT 0 O (λ_ h=>LM z0P O OW O (Lq.cells (n:=4) (h.Lg ai) (news:=[_,_,_,_]) O) O) hg$ Ll 2 O (LV TJ O) hg$ qT 3 O (λ_ h=>Lj U3 O O (h.Lg ai) O) hg$ Ll 4 O (Qu O O (by omega)) hg$ Ll 5 O (SC O O (by omega)) hg$ OA 1 O z9D O (Zj f hf _) ?_
 rintro _ w2 ⟨rfl,ag⟩
 refine⟨hg.trans ag,?_⟩
 refine Ll 6 O (Qu O O (by omega)) (hg.trans ag)$ Ll 7 O (Ni O) (hg.trans ag)$ qE$ Lh Tryz.func180 O (⟨_,rfl,?_,(ad.trans hg).trans ag⟩)
 show I ((f.high:Int)+((f.bits:Int)+7) / 8)=I ((f.high+(f.bits+7) / 8:Nat):Int)
 congr 1
theorem Yd (f:Fm)(hf:f.small)(w:World):LP Tryz.prog 170 [fmV f] w λv w'=>v=I (f.size:Int)/\Ext w w':=by
 have oo:=Fm.Sr hf
 obtain⟨h1,h2,h3⟩:=id hf
 have fm:f.Qv<=20000000:=by unfold Fm.Qv;omega
 refine Lb (e:=[(0,_)]) Tryz.func170 O Tryz.ntmps170 O O$ qN O$ Lm O O (Nc O (cs:=fmC f) O) ?_
 rintro _ w1 ⟨b1,rfl,bR,ad,ai⟩
 replace ai:Lq w1 b1 [I (f.n:Int),Ly f.u,I (f.width:Int),I (f.bits:Int)] 238:=ai
 have hg:=Ext.LC w1
 refine Lk O$ run_seq$ N7 (λw'=>Ext w1 w') O$ qT 0 O (λ_ h=>LM z0P O OW O (Lq.cells (n:=4) (h.Lg ai) (news:=[_,_,_,_]) O) O) hg$ Ll 2 O (LV Ue O) hg$ qT 3 O (λ_ h=>Lj U3 O O (h.Lg ai) O) hg$ Ll 4 O (Qu O O (by omega)) hg$ Ll 5 O (SR O O (by omega)) hg ?_
 rw[show(f.n:Int)+64-1=((f.n+63:Nat):Int) by omega]
 refine Ll 6 O (SC O O (by omega)) hg$ Ll 7 O (T6 O O (by omega)) hg$ OA 1 O z9i O (ZK f hf _) ?_
 rintro _ w2 ⟨rfl,ag⟩
 refine⟨hg.trans ag,?_⟩
 refine Ll 8 O (Qu O O (by omega)) (hg.trans ag)$ Ll 9 O (Ni O) (hg.trans ag)$ qE$ Lh Tryz.func170 O (⟨_,rfl,?_,(ad.trans hg).trans ag⟩)
 show I ((f.Qv:Int)+4*(((f.n+63:Nat):Int) / 64))=I ((f.Qv+4*((f.n+63) / 64):Nat):Int)
 congr 1
theorem Z2 {n u:Nat}(hn:1<=n)(jc:n<=1000)(hu:1<=u)(m4:u<=1000000000):(PE n u).small:=by
 have h1:=z4F hn hu
 have h2:=UC (n:=n) m4
 refine⟨?_,?_,by omega⟩
 ·show n<=_;omega
 ·show Tr n u<=_;omega
theorem z27 (n last:Nat)(hn:1<=n)(jc:n<=1000)(m4:last+1<=1000000000)(w:World):LP Tryz.prog 168 [I (n:Int),Ly last] w λv w'=>v= .tuple #[I ((PE n (last+1)).size:Int),I 0]/\Ext w w':=by
 refine Lb (e:=[(0,_),(1,_)]) Tryz.func168 O Tryz.ntmps168 O O$ qN O$ Lw O$ Lk O$ run_seq$ Lc$ qN O$ Le O$ Mw O O$ Lu O O$ MH O O$ M5$ M8 O O$ Lu O O ?_
 refine MH O O$ M5$ M8 O O$ Lu O O$ Nb O O$ M5$ Le O$ qS$ qS$ M8 O O$ M8 O O$ Lk O$ An O$ qN O ?_
 refine Le O$ Nb O O$ M5$ Lk O$ LS.qb (e:=[(0,_),(1,_),(4,_),(5,_),(25,_)]) ?_
 refine An O$ py$ Ld$ qN O$ Lu O O$ qV (QD O O) ?_
 rw[Nat.mod_eq_of_lt (show last+1<18446744073709551616 by omega)]
 refine LD z5E O (T9 n (last+1) hn jc (by omega) m4 _) ?_
 rintro _ w1 ⟨rfl,ad⟩
 refine LD z9h O (Yd _ (Z2 hn jc (by omega) m4) _) ?_
 rintro _ w2 ⟨rfl,ag⟩
 refine Lw O$ Lk O$ Lh Tryz.func168 O ?_
 exact⟨_,rfl,rfl,ad.trans ag⟩
theorem z3J {w:World}{a:Option Addr}{c:Nat}{l:List Nat}(hl:l.length<=1000)(hn:Nof l)(hm:∀v∈l,v<=1000000000)(hR:Rd w (.slice a l.length c) 1 l.length (l.map Ly)):LP Tryz.prog 125 [.slice a l.length c] w λv w'=>v= .bool true/\w'=w:=by
 refine Lb (e:=[(0,_)]) Tryz.func125 O Tryz.ntmps125 O O$ qN O$ Lk O$ run_seq$ qN O$ Le O$ Nd UZ O$ MH O O$ M5$ Lf$ An O$ py$ qN O$ Lk O ?_
 refine run_seq$ qN O$ Le O$ Nd UZ O$ Le O$ Lf$ Lc$ Nj (α:=Nat×Nat) ((0,0)) (λy=>[(3,Ly y.2),(9,.slice a l.length c),(10,I (l.length:Int)),(11,I (y.1:Int))]) (λy w'=>w'=w/\y.1<=l.length/\y.2<=1000000000/\∀v,l[y.1]? =some v->y.2<=v) (λy=>l.length-y.1) ?hI ?hround
 case hI=>exact⟨rfl,Nat.zero_le _,Nat.zero_le _,λv _=>Nat.zero_le _⟩
 case hround=>
  rintro⟨i,z⟩ w4 ⟨rfl,hi,hz,zn⟩ ih;dsimp only at hi hz zn
  try dsimp only
  refine qN O$ Mw O O$ Lf$ run_seq$ Lp O (λh0=>?_)$ λh0=>?_
  ·have dB:i<l.length:=by omega
   obtain⟨v,hv⟩:∃v,l[i]? =some v:=⟨_,List.getElem?_eq_getElem dB⟩;have HG:=zn v hv;have BQ:=hm v (List.mem_of_getElem? hv)
   obtain⟨gb,go,gc',e4⟩:∃b o c',Value.slice a l.length c= .slice (some ⟨b,o,none⟩) l.length c':=by
    rcases hR.2 with⟨c,hc,h0⟩|⟨b,off,c',hc,-⟩
    ·omega
    ·exact⟨b,off,c',hc⟩
   cases e4;refine py$ run_seq$ Lc$ qN O$ qV (M9 UZ QA O O (by omega))$ qV (LN MP O O (Mn hR (show(l.map Ly)[i]? =some (Ly v) by rw[List.getElem?_map,hv];rfl))) ?_;refine Lk O$ run_seq$ qN O$ Lu O O$ Mw O O$ M5$ Lu O O$ MH O O$ M5$ M8 O O$ Lf$ An O$ py$ Li O ?_;refine Le O$ Lk O$ Ld$ Li O$ Mb O O$ Le O$ Lf ((ih (i+1,v) _ ⟨rfl,dB,BQ,λu hu=>?_⟩ (by dsimp only;omega)).qb);obtain⟨a1,a2⟩:=List.getElem?_eq_some_iff.1 hv;obtain⟨b1,b2⟩:=List.getElem?_eq_some_iff.1 hu;have:=List.pairwise_iff_getElem.1 hn i (i+1) a1 b1 (by omega)
   rwa [a2,b2] at this
  ·refine Ln O$ qN O$ Lk O$ Lh Tryz.func125 O ?_;exact⟨_,rfl,rfl,rfl⟩
def O8 (k:Nat)(l:List Nat):List Bool:=l.flatMap λv=>bitsN k (v%2^k)
def restB (k:Nat):List Nat->List Bool
 |[]=>[]
 |v::_=>bitsN 32 (v / 2^k)
theorem z4X (k:Nat)(l:List Nat)(v:Nat):O8 k (l++[v])=O8 k l++bitsN k (v%2^k):=by simp[O8]
theorem Qm (k:Nat):∀l:List Nat,(O8 k l).length=l.length*k
 |[]=>by simp[O8]
 | v :: l => by
   show(bitsN k (v%2^k)++O8 k l).length=_;rw[List.length_append,Qm k l,bitsN_length,List.length_cons,Nat.add_mul];omega
theorem z0g (k:Nat):∀(l:List Nat) (len i v:Nat),Nof (l++[v])->(∀x,(l++[v]).head? =some x->len<=x / 2^k+i)->
  len+(hiB k len i l).length<=v / 2^k+(i+l.length)/\hiB k len i (l++[v])=hiB k len i l++(List.replicate (v / 2^k+(i+l.length)-(len+(hiB k len i l).length)) false++[true])
 | [], len, i, v, _, hl => by
   have:=hl v O;refine⟨by simp[hiB];omega,?_⟩
   simp[hiB]
 | x :: r, len, i, v, hn, hl => by
   have hx:=hl x O;rw[List.cons_append] at hn;obtain⟨n1,n2⟩:=List.pairwise_cons.1 hn
   obtain⟨h1,h2⟩:=z0g k r (x / 2^k+i+1) (i+1) v n2 (λy hy=>by
    have ni:y∈r++[v]:=List.mem_of_mem_head? hy;have:=Nat.div_le_div_right (c:=2^k) (n1 y ni)
    omega)
   rw[List.cons_append,hiB,hiB,h2,List.length_append,List.length_replicate,List.length_cons,List.length_cons];refine⟨by omega,?_⟩;rw[List.append_assoc,List.cons_append,show v / 2^k+(i+1+r.length)-(x / 2^k+i+1+(hiB k (x / 2^k+i+1) (i+1) r).length)=v / 2^k+(i+(r.length+1))-(len+(x / 2^k+i-len+((hiB k (x / 2^k+i+1) (i+1) r).length+1))) by omega]
theorem z1x (k:Nat)(l:List Nat)(v:Nat):restB k (l++[v])=restB k l++if l.length=0 then bitsN 32 (v / 2^k) else []:=by
 cases l with
 |nil=>simp[restB]
 |cons x l=>simp[restB]
def Uc (l:List Nat)(f:Fm):Bytes:=LK (bitsN 32 f.n++bitsN 64 f.u)++LK (O8 f.width l)++LK (hiB f.width 0 0 l)++LK (restB f.width l)
theorem z66 {b:Nat}:∀{l:List Nat},(∀x∈l,x<=b)->l.sum<=l.length*b
 |[],_=>by simp
 | x :: l, h => by
   have h1:=h x List.mem_cons_self;have h2:=z66 (λy hy=>h y (List.mem_cons_of_mem x hy));rw[List.sum_cons,List.length_cons,Nat.add_mul];omega
theorem z3H (k:Nat)(l:List Nat):(restB k l).length<=32:=by
 cases l with
 |nil=>simp[restB]
 |cons v l=>simp[restB]
theorem WT (k:Nat){l:List Nat}(hn:Nof l){z:Nat}(hz:l[l.length-1]? =some z):(hiB k 0 0 l).length=z / 2^k+l.length:=by
 have:=z3j k l 0 0 hn (λx hx=>Nat.zero_le _) z (by rw[List.getLast?_eq_getElem?];exact hz)
 omega
/-! ### Three writers side by side -/
def z6r (A B:Nat->Prop):Prop:=∀k,A k->¬B k
structure Z8 (w0 w:World)(b5:Nat)(f:Fm)(p1 p2 p3:Nat)(l1 l2 l3:List Bool):Prop where
 ex:∃F1 F2 F3:Nat->Prop,TX w p1 l1 F1/\TX w p2 l2 F2/\TX w p3 l3 F3/\z6r F1 F2/\z6r F2 F3/\z6r F3 F1/\∀k,F1 k\/F2 k\/F3 k->w0.heap.size<=k/\k≠b5
 ext:Ext w0 w
 Lg:Lq w b5 (fmC f) 238
section
variable {w0 w:World}{b5:Nat}{f:Fm}{p1 p2 p3:Nat}{l1 l2 l3:List Bool}
theorem Z8.rot (h:Z8 w0 w b5 f p1 p2 p3 l1 l2 l3):Z8 w0 w b5 f p2 p3 p1 l2 l3 l1:=by
 obtain⟨⟨F1,F2,F3,h1,h2,h3,h4,h5,h6,h7⟩,hx,hb⟩:=h
 exact⟨⟨F2,F3,F1,h2,h3,h1,h5,h6,h4,λk hk=>h7 k (by rcases hk with e|e|e;exact .inr (.inl e);exact .inr (.inr e);exact .inl e)⟩,hx,hb⟩
theorem Z8.on (h:Z8 w0 w b5 f p1 p2 p3 l1 l2 l3){w2:World}(hx:Ext w w2):Z8 w0 w2 b5 f p1 p2 p3 l1 l2 l3:=by
 obtain⟨⟨F1,F2,F3,h1,h2,h3,h4,h5,h6,h7⟩,jk,hb⟩:=h
 exact⟨⟨F1,F2,F3,h1.ext hx,h2.ext hx,h3.ext hx,h4,h5,h6,h7⟩,jk.trans hx,hx.Lg hb⟩
theorem Z8.z7P (h:Z8 w0 w b5 f p1 p2 p3 l1 l2 l3):∃F1,TX w p1 l1 F1/\¬F1 b5/\(∀w2 l,WrR p1 F1 w w2 l->Z8 w0 w2 b5 f p1 p2 p3 l l2 l3):=by
 obtain⟨⟨F1,F2,F3,h1,h2,h3,h4,h5,h6,h7⟩,jk,hb⟩:=h
 refine⟨F1,h1,λe=>(h7 b5 (.inl e)).2 O,λw2 l hr=>?_⟩
 obtain⟨F1',g1,g2,g3⟩:=hr
 have z:=jk.size
 have lb:=hb.lt
 refine⟨⟨F1',F2,F3,g1,h2.kp g2 (λi hi e=>h4 i e hi),h3.kp g2 (λi hi e=>h6 i hi e),λk hk e=>?_,h5,λk hk e=>?_,λk hk=>?_⟩,jk.It g2 (λk hk=>(h7 k (.inl hk)).1),g2.Lg hb (λe=>(h7 b5 (.inl e)).2 O)⟩
 ·rcases g3 k hk with e1|e1
  ·exact h4 k e1 e
  ·have:=h2.lt e;omega
 ·rcases g3 k e with e1|e1
  ·exact h6 k hk e1
  ·have:=h3.lt hk;omega
 ·rcases hk with hk|hk
  ·rcases g3 k hk with e1|e1
   ·exact h7 k (.inl e1)
   ·exact⟨by omega,by omega⟩
  ·exact h7 k (.inr hk)
theorem Z8.z8R (h:Z8 w0 w b5 f p1 p2 p3 l1 l2 l3):∃F2,TX w p2 l2 F2/\(∀w2 l,WrR p2 F2 w w2 l->Z8 w0 w2 b5 f p1 p2 p3 l1 l l3):=by
 obtain⟨F2,h1,-,h2⟩:=h.rot.z7P
 exact⟨F2,h1,λw2 l hr=>(h2 w2 l hr).rot.rot⟩
theorem Z8.zc6 (h:Z8 w0 w b5 f p1 p2 p3 l1 l2 l3):∃F3,TX w p3 l3 F3/\(∀w2 l,WrR p3 F3 w w2 l->Z8 w0 w2 b5 f p1 p2 p3 l1 l2 l):=by
 obtain⟨F3,h1,-,h2⟩:=h.rot.rot.z7P
 exact⟨F3,h1,λw2 l hr=>(h2 w2 l hr).rot⟩
end
theorem z0H {w:World}{a:Option Addr}{c:Nat}{l:List Nat}(cT:1<=l.length)(hn:l.length<=64)(lN:Nof l)(hm:∀v∈l,v<=999999999)(hR:Rd w (.slice a l.length c) 1 l.length (l.map Ly)){z:Nat}(hz:l[l.length-1]? =some z):
  LP Tryz.prog 88 [.slice a l.length c] w λv w'=>v= .tuple #[S (Uc l (PE l.length (z+1))),I 0]/\Ext w w':=by
 have KB:=hm z (List.mem_of_getElem? hz)
 have Ff:∀v∈l,v<=z:=λv hv=>by
  obtain⟨j,hj⟩:=List.mem_iff_getElem?.1 hv;obtain⟨a1,a2⟩:=List.getElem?_eq_some_iff.1 hj;obtain⟨b1,b2⟩:=List.getElem?_eq_some_iff.1 hz;rcases Nat.lt_or_ge j (l.length-1) with h| h
  ·have:=List.pairwise_iff_getElem.1 lN j (l.length-1) a1 b1 h
   rwa [a2,b2] at this
  ·have e:j=l.length-1:=by omega
   subst e;rw[hz] at hj;cases hj;exact Nat.le_refl _
 have tY:=UC (n:=l.length) (u:=z+1) (by omega)
 have nj:=WX (n:=l.length) (u:=z+1) cT (by omega)
 rw[Nat.add_sub_cancel] at nj
 obtain⟨gb,go,gc',e4⟩:∃b o c',Value.slice a l.length c= .slice (some ⟨b,o,none⟩) l.length c':=by
  rcases hR.2 with⟨c,hc,h0⟩|⟨b,off,c',hc,-⟩
  ·omega
  ·exact⟨b,off,c',hc⟩
 cases e4
 refine Lb (e:=[(0,_)]) Tryz.func88 O Tryz.ntmps88 O O$ qN O$ Lw O$ Lk O$ run_seq$ qN O$ Le O$ LD zbw O (z3J (by omega) lN (λv hv=>by have:=hm v hv;omega) hR) ?_
 rintro _ w ⟨rfl,rfl⟩
 refine qV ((by first|exact Mh O|exact NL O)) ?_
 refine Lf$ An O$ py$ qN O$ Lk O$ run_seq$ qN O$ Le O$ Nd UZ O$ MH O O$ Lf$ Lp O (λh0=>?_)$ λh0=>?_
 ·refine Li O$ Lu O O$ Nd UZ O$ Np O O ?_;rw[show(l.length:Int)-1=((l.length-1:Nat):Int) by omega];refine qV (M9 UZ QA O O (by omega))$ qV (LN MP O O (Mn hR (show(l.map Ly)[l.length-1]? =some (Ly z) by rw[List.getElem?_map,hz];rfl))) ?_;refine qV (QD O O) ?_;rw[Nat.mod_eq_of_lt (show z+1<18446744073709551616 by omega)];refine Lw O$ qM O$ Le O$ Nd UZ O$ Le O$ LD z5E O (T9 l.length (z+1) cT (by omega) (by omega) (by omega) _) ?_;rintro _ w1 ⟨rfl,ad⟩
  generalize hf:PE l.length (z+1)=f
  have HH:f.width=Tr l.length (z+1):=by rw[<-hf];rfl
  have oT:f.n=l.length:=by rw[<-hf];rfl
  have zo:f.u=z+1:=by rw[<-hf];rfl
  rw[<-HH] at tY nj;refine Lm O O (NJ (cs:=[_,_,_,_]) OW O) ?_;rintro _ w2 ⟨b5,rfl,gQ,ag,aI⟩;refine Ls O (M7 (news:=fmC f) OW O O O O aI (by simp)) ?_;rintro w3 ⟨ii,ax⟩;replace ii:Lq w3 b5 (fmC f) 238:=ii;have z1:=ad.size;have z2:=ag.size;have lb5:=ii.lt;have aL:Ext w1 w3:=ag.It ax (λi e=>by omega);have z3:=aL.size;refine qM O$ LD WR O (Qk w3) ?_;rintro _ w4 ⟨p1,F1,rfl,BR,ay,o6⟩;refine LD WR O (Qk w4) ?_;rintro _ w5 ⟨p2,F2,rfl,Fg,aX,Fh⟩;refine LD WR O (Qk w5) ?_;rintro _ w6 ⟨p3,F3,rfl,lF,aK,pf⟩;have z4:=ay.size;have z5:=aX.size
  have HI:Z8 w w6 b5 f p1 p2 p3 [] [] []:=⟨⟨F1,F2,F3,(BR.ext aX).ext aK,Fg.ext aK,lF,λk h1 h2=>by have:=BR.lt h1;have:=Fh k h2;omega,λk h1 h2=>by have:=Fg.lt h1;have:=pf k h2;omega,λk h1 h2=>by have:=BR.lt h2;have:=pf k h1;omega,λk hk=>by
   rcases hk with h|h| h
   ·have:=o6 k h;omega
   ·have:=Fh k h;omega
   ·have:=pf k h;omega⟩,(((ad.trans aL).trans ay).trans aX).trans aK,aK.Lg (aX.Lg (ay.Lg ii))⟩
  refine Lw O$ Lw O$ Lk O$ LS.qb (e:=[(0,_),(2,_),(3,_),(4,_),(5,_),(6,_),(7,_),(8,_)]) ?_;refine run_seq$ qN O$ Le O$ Nd UZ O$ Le O$ Lf$ Lc$ Nj (α:=Nat) (0) (λi=>[(4,Ly (z+1)),(5,ptr b5 0),(6,ptr p1 0),(7,ptr p2 0),(8,ptr p3 0),(39,.slice (some ⟨gb,go,none⟩) l.length c),(40,I (l.length:Int)),(41,I (i:Int))]) (λi w'=>Z8 w w' b5 f p1 p2 p3 (O8 f.width (l.take i)) (hiB f.width 0 0 (l.take i)) (restB f.width (l.take i))/\i<=l.length) (λi=>l.length-i) ?hI ?hround
  case hI=>exact⟨HI,Nat.zero_le _⟩
  case hround =>
   rintro i w7 ⟨hE,hi⟩ ih
   try dsimp only
   refine qN O$ Mw O O$ Lf$ run_seq$ Lp O (λh1=>?_)$ λh1=>?_
   ·have dB:i<l.length:=by omega
    obtain⟨v,hv⟩:∃v,l[i]? =some v:=⟨_,List.getElem?_eq_getElem dB⟩;have BQ:=Ff v (List.mem_of_getElem? hv);have Fi:v / 2^f.width<=z / 2^f.width:=Nat.div_le_div_right BQ;have p8:(l.take i).length=i:=by rw[List.length_take];omega
    obtain⟨dU,cW⟩:=z0g f.width (l.take i) 0 0 v (by rw[<-M4 hv];exact lN.sublist (List.take_sublist _ _)) (λx hx=>Nat.zero_le _);rw[<-M4 hv,Nat.zero_add,Nat.zero_add,p8] at cW;rw[Nat.zero_add,Nat.zero_add,p8] at dU;have KC:(l.take i).length*f.width<=64*30:=Nat.mul_le_mul (by omega) (by omega);have hg:=Ext.LC w7;obtain⟨F1',BS,vR,dv⟩:=(hE.on hg).z7P;have vS:Lq w7 b5 [I (f.n:Int),Ly f.u,I (f.width:Int),I (f.bits:Int)] 238:=hE.Lg;have oc:=Nat.two_pow_pos f.width;have KD:2^f.width<=2^30:=Nat.pow_le_pow_right (by decide) tY;refine py$ run_seq$ Lc$ qN O$ Le O$ qV (M9 UZ QA O O (by omega))$ qV (LN MP O O (Mn (hR.ext hE.ext) (show(l.map Ly)[i]? =some (Ly v) by rw[List.getElem?_map,hv];rfl))) ?_;refine Lw O$ Lk O$ run_seq$ N7 (λw'=>Kp F1' w7 w') O$ LA 0 O O (hg.kp)$ LA 1 O O (hg.kp)$ Ll 2 O (LV P5 O) (hg.kp)$ qT 3 O (λ_ h=>Lj U3 O O (h.Lg vS vR) O) (hg.kp)$ Ll 7 O (LV P5 O) (hg.kp)$ qT 8 O (λ_ h=>Lj U3 O O (h.Lg vS vR) O) (hg.kp)$ Ll 4 O (Na f.width (2^f.width) O O (by omega) O) (hg.kp) ?_;rw[show 1*2^f.width%18446744073709551616=2^f.width by rw[Nat.one_mul];exact Nat.mod_eq_of_lt (by omega)];refine Ll 5 O (RO (m:=2^f.width) (n:=1) O O O (by show 2^f.width<2^64;omega) (by omega)) (hg.kp) ?_;refine Ll 6 O (Qj O O (by omega) (by omega)) (hg.kp) ?_;rw[Nat.and_two_pow_sub_one_eq_mod];refine OA 9 O S5 O (O4 BS (v%2^f.width) f.width (by omega) (Nat.mod_lt _ oc) (by rw[Qm];omega)) ?_;rintro _ w8 ⟨rfl,fx⟩;refine⟨hg.kp.trans fx.choose_spec.2.1,?_⟩;have zp:=dv _ _ fx;rw[<-z4X,<-M4 hv] at zp;have sy:Lq w8 b5 [I (f.n:Int),Ly f.u,I (f.width:Int),I (f.bits:Int)] 238:=zp.Lg;obtain⟨F2',pq,dM⟩:=zp.z8R;refine qE$ qN O$ Le O$ Lt P5 O$ qV (Lj U3 O O sy O)$ qV (Qg f.width (2^f.width) O O (by show f.width<=64;omega) O) ?_;have dO:=z1x f.width (l.take i) v;rw[<-M4 hv,p8] at dO
    generalize v / 2^f.width=vq at dU cW Fi dO
    generalize z / 2^f.width=zq at Fi nj
    refine qV (M3 O MP U3 (by omega))$ Le O$ Mb O O ?_;rw[show(vq:Int)+(i:Int)=((vq+i:Nat):Int) by omega];refine Lk O$ run_seq$ qN O$ Lu O O$ LD Y9 O (R1 pq) ?_;rintro _ w8 ⟨rfl,rfl⟩;refine Np O O ?_
    generalize BT:(hiB f.width 0 0 (l.take i)).length=HL at dU cW
    rw[show((vq+i:Nat):Int)-(HL:Int)=((vq+i-(HL+0):Nat):Int) by omega];refine Lk O$ Lc$ Nj (α:=Nat) (0) (λy=>[(4,Ly (z+1)),(5,ptr b5 0),(6,ptr p1 0),(7,ptr p2 0),(8,ptr p3 0),(9,I (i:Int)),(11,I ((vq+i:Nat):Int)),(12,I ((vq+i-(HL+y):Nat):Int)),(39,.slice (some ⟨gb,go,none⟩) l.length c),(40,I (l.length:Int)),(41,I (i:Int))]) (λy w'=>Z8 w w' b5 f p1 p2 p3 (O8 f.width (l.take (i+1))) (hiB f.width 0 0 (l.take i)++List.replicate y false) (restB f.width (l.take i))/\HL+y<=vq+i) (λy=>vq+i-(HL+y)) ?hI ?hround
    case hI=>exact⟨by simpa using zp,dU⟩
    case hround=>
     rintro y w9 ⟨HJ,hy⟩ ih2
     try dsimp only
     obtain⟨F2',pq,dM⟩:=HJ.z8R;refine run_seq$ qN O$ Le O$ MH O O$ Lf$ Lp O (λh2=>?_)$ λh2=>?_
     ·obtain⟨m,oq,en,kM,Fj⟩:∃m,min (vq+i-(HL+y)) 64=m/\1<=m/\m<=64/\HL+y+m<=vq+i:=⟨_,rfl,by omega,by omega,by omega⟩;refine py$ run_seq$ Lc$ Li O$ Lu O O$ qV (ymi O O) ?_;rw[show min ((vq+i-(HL+y):Nat):Int) 64=(m:Int) by omega];refine LD S5 O (O4 pq 0 m kM (Nat.two_pow_pos _) (by rw[List.length_append,List.length_replicate,BT];omega)) ?_;rintro _ w10 ⟨rfl,nl⟩;have jT:=dM _ _ nl;rw[Rp,List.append_assoc,List.replicate_append_replicate] at jT;obtain⟨F2'',vT,-⟩:=jT.z8R;refine Lf$ Ld$ Li O$ Lu O O$ LD Y9 O (R1 vT) ?_;rintro _ w10 ⟨rfl,rfl⟩;rw[show(hiB f.width 0 0 (l.take i)++List.replicate (y+m) false).length=HL+(y+m) by rw[List.length_append,List.length_replicate,BT]];refine Np O O ?_;rw[show((vq+i:Nat):Int)-((HL+(y+m):Nat):Int)=((vq+i-(HL+(y+m)):Nat):Int) by omega];refine Lk O ?_;exact(ih2 (y+m) _ ⟨jT,by omega⟩ (by omega)).qb
     ·have HK:y=vq+i-HL:=by omega
      subst HK;refine Ln O$ qN O$ Le O$ LD S5 O (O4 pq 1 1 (by decide) (by decide) (by rw[List.length_append,List.length_replicate,BT];omega)) ?_;rintro _ w10 ⟨rfl,nl⟩;have jT:=dM _ _ nl;rw[show bitsN 1 1=[true] from rfl,List.append_assoc,<-cW] at jT;refine qM O$ Le O$ qV (yre O O (by omega))$ Nb O O$ Lf$ Lp O (λh3=>?_)$ λh3=>?_
      ·have jI:i=0:=by omega
       obtain⟨F3',BU,lH⟩:=jT.zc6;refine Li O$ Lu O O$ qV ((by first|exact Mc O U3 MP (by omega)|exact Ny O U3 MP)) ?_;refine LD S5 O (O4 BU (vq+i) 32 (by decide) (by show _<2^32;omega) (by rw[jI];show 0+32<=_;omega)) ?_;rintro _ w11 ⟨rfl,BV⟩;have lO:=lH _ _ BV;refine Lf$ Ld$ Li O$ Mb O O$ Le O$ Lf ((ih (i+1) _ ⟨?_,dB⟩ (by omega)).qb);rw[dO,if_pos jI];rw[show vq+i=vq by omega] at lO;exact lO
      ·refine py$ Ld$ Li O$ Mb O O$ Le O$ Lf ((ih (i+1) _ ⟨?_,dB⟩ (by omega)).qb);rw[dO,if_neg (by omega),List.append_nil];exact jT
   ·have cE:i=l.length:=by omega
    subst cE;rw[List.take_length] at hE;refine Ln O$ qN O$ LD WR O (Qk w7) ?_;rintro _ w8 ⟨p4,F4,rfl,lE,dy,Fk⟩;have sy:Lq w8 b5 [I (f.n:Int),Ly f.u,I (f.width:Int),I (f.bits:Int)] 238:=(hE.on dy).Lg;refine Lw O$ qM O$ Le O$ Lt Ue O$ qV (Lj U3 O O sy O)$ qV ((by first|exact Mc O U3 MP (by omega)|exact Ny O U3 MP)) ?_;refine LD S5 O (O4 lE f.n 32 (by decide) (by show _<2^32;omega) (by simp)) ?_;rintro _ w9 ⟨rfl,F5,zr,aP,tX⟩;have ij:Ext w7 w9:=dy.It aP Fk;have z79:=ij.size;refine qM O$ Lu O O$ LD S5 O (O4 zr (z+1) 64 (by decide) (by show _<2^64;omega) (by simp)) ?_;rintro _ w10 ⟨rfl,F6,kX,ar,KE⟩
    have qx:Ext w7 w10:=ij.It ar (λk hk=>by
     rcases tX k hk with e| e
     ·exact Fk k e
     ·have:=dy.size;omega)
    rw[List.nil_append,<-zo] at kX;refine qM O$ Lk O$ run_seq$ qN O$ Lu O O$ Lu O O$ Lm O O (RN (cs:=[_,_,_,_]) (zs:=[Value.pointer none,Value.pointer none,Value.pointer none,Value.pointer none]) zaw z3u O (by kernel_rfl) O O O (by decide)) ?_;rintro _ w11 ⟨b100,rfl,⟨Fl,aQ,Fn⟩,vU⟩;have lO:=hE.on (qx.trans aQ);obtain⟨tx,iD⟩:∃tx:List Bytes,tx=[LK (bitsN 32 f.n++bitsN 64 f.u),LK (O8 f.width l),LK (hiB f.width 0 0 l),LK (restB f.width l)]:=⟨_,rfl⟩
    have mx:∀j,(List.take j (List.map List.length tx)).sum<=4000:=λj=>by
     have h1:∀x∈List.take j (List.map List.length tx),x<=1000:=λx hx=>by
      have ag:=List.mem_of_mem_take hx;rw[iD] at ag;have dN:(O8 f.width l).length<=64*30:=by rw[Qm];exact Nat.mul_le_mul hn (by omega)
      have oo:=WT f.width lN hz;have gP:=z3H f.width l;simp only[List.map_cons,List.map_nil,LY,List.length_append,bitsN_length] at ag;simp only[List.mem_cons,List.not_mem_nil,or_false] at ag
      generalize z / 2^f.width=zq at nj oo
      omega
     have h2:=z66 h1;have h3:(List.take j (List.map List.length tx)).length<=4:=by rw[List.length_take,List.length_map,iD];simp;omega
     omega
    have eQ:∀(j:Nat) (x:Bytes),tx[j]? =some x->x.length<=4000:=λj x hx=>by
     have h1:=mx (j+1);rw[M4 (q:=x.length) (by rw[List.getElem?_map,hx];rfl),List.sum_append] at h1;simp at h1;omega
    have hq:∀j,j<4->∃q bs F,([ptr p4 0,ptr p1 0,ptr p2 0,ptr p3 0]:List Value)[j]? =some (ptr q 0)/\tx[j]? =some (LK bs)/\TX w11 q bs F:=λj hj=>by
     obtain⟨F1,h1,-,-⟩:=lO.z7P;obtain⟨F2,h2,-⟩:=lO.z8R;obtain⟨F3,h3,-⟩:=lO.zc6;rw[iD];have BW:j=0\/j=1\/j=2\/j=3:=by omega
     rcases BW with e|e|e|e<;>subst e
     ·exact⟨p4,_,_,rfl,rfl,kX.ext aQ⟩
     ·exact⟨p1,_,_,rfl,rfl,h1⟩
     ·exact⟨p2,_,_,rfl,rfl,h2⟩
     ·exact⟨p3,_,_,rfl,rfl,h3⟩
    refine Nd zaw O$ Le O$ Lf$ LS.qb (e:=[(14,_),(100,_),(101,_),(102,_)]) ?_;refine Lc$ Nj (α:=Nat) (0) (λj=>[(14,S ((tx.take j).flatten)),(100,.slice (some ⟨b100,0,none⟩) 4 4),(101,I 4),(102,I (j:Int))]) (λj w'=>w'=w11/\j<=4) (λj=>4-j) ?hI ?hround
    case hI=>exact⟨rfl,Nat.zero_le _⟩
    case hround=>
     rintro j w12 ⟨rfl,hj⟩ ih2
     try dsimp only
     refine qN O$ Mw O O$ Lf$ run_seq$ Lp O (λh2=>?_)$ λh2=>?_
     ·obtain⟨q,bs,F,g1,g2,g3⟩:=hq j (by omega);have KF:=mx j;have KG:=eQ j _ g2;refine py$ run_seq$ Lc$ qN O$ qV (M9 zaw z3u O O (by omega))$ qV (LN YY O O (Mn vU.rd g1))$ Lw O$ qM O$ Le O$ LD z3a O (Sd g3) ?_;rintro _ w12 ⟨rfl,rfl⟩;refine Le O$ Mp O O$ qV (Nq (v:=I 0) O O)$ Lw O$ Lk O$ run_seq$ qN O$ Le O$ Mu O O$ Lf$ An O$ py$ Li O$ Lu O O ?_;refine qV (Ua O O (by first|omega|(simp;done)|(simp;omega))) ?_;refine Lk O$ Ld$ Li O$ Mb O O$ Le O$ Lf ?_;rw[show(tx.take j).flatten++LK bs=(tx.take (j+1)).flatten by rw[M4 g2,List.flatten_append];simp];exact(ih2 (j+1) _ ⟨rfl,by omega⟩ (by omega)).qb
     ·have BW:j=4:=by omega
      subst BW;refine Ln O$ qN O$ Le O$ Lw O$ Lk O$ Lh Tryz.func88 O (⟨_,rfl,?_,(hE.ext.trans qx).trans aQ⟩);rw[iD];simp[resVal,Uc]
 ·omega
structure PHd where
 n:Nat
 m:Nat
 p:Mq
 bits:Nat
def hdC (h:PHd):List Value:=[I (h.n:Int),I (h.m:Int),I (h.p.LJ:Int),I (h.p.chain:Int),I (h.p.interval:Int),I (h.p.zeta:Int),I (h.p.most:Int),I (h.bits:Int)]
abbrev hdV (h:PHd):Value:= .agg (hdC h).toArray
structure PHd.My (h:PHd):Prop where
 n1:1<=h.n
 n2:h.n<=65536
 m:h.m<=1048576
 bits:h.bits<=134217728
 p:h.p.My
def Uo (h:PHd):List (Nat×Nat):=[(h.n,32),(h.m,32),(h.p.LJ,8),(h.p.chain,8),(h.p.interval,8),(h.p.zeta,8),(h.p.most,32),(h.bits,64)]
def Nh (l:List (Nat×Nat)):List Bool:=l.flatMap λq=>bitsN q.2 q.1
def z2O:Bytes:=[119,116,108,49]
def hdT (h:PHd):Bytes:=z2O++LK (Nh (Uo h))
theorem Qf (h:PHd):(Nh (Uo h)).length=192:=by
 simp[Nh,Uo]
theorem Sy (h:PHd):(hdT h).length=28:=by
 unfold hdT
 rw[List.length_append,LY,Qf];rfl
theorem T4 (h:PHd)(hh:h.My)(w:World):LP Tryz.prog 121 [hdV h] w λu w'=>u=I 0/\Ext w w':=by
 obtain⟨g1,g2,g3,g4,g5⟩:=hh
 refine Lb (e:=[(0,_)]) Tryz.func121 O Tryz.ntmps121 O O$ qN O$ Lm O O (Nc O (cs:=hdC h) O) ?_
 rintro _ w1 ⟨b1,rfl,bR,ad,ai⟩
 replace ai:Lq w1 b1 [I (h.n:Int),I (h.m:Int),I (h.p.LJ:Int),I (h.p.chain:Int),I (h.p.interval:Int),I (h.p.zeta:Int),I (h.p.most:Int),I (h.bits:Int)] 149:=ai
 refine Lk O$ run_seq$ Lc$ run_seq$ qN O$ Lt PR O$ qV (Lj U3 O O ai O)$ Mw O O$ M5$ Le O$ Lt PR O$ qV (Lj U3 O O ai O)$ MH O O$ M5 ?_
 refine M8 O O$ Lk O$ An O$ qN O$ Lt Yz O$ qV (Lj U3 O O ai O)$ Mw O O$ M5$ Le O$ Lt Yz O$ qV (Lj U3 O O ai O)$ MH O O$ M5$ M8 O O ?_
 refine Lk O$ An O$ qN O$ Lt QC O$ qV (Lj U3 O O ai O)$ Mw O O$ M5$ Le O$ Lt QC O$ qV (Lj U3 O O ai O)$ MH O O$ M5$ M8 O O$ Lk O ?_
 refine LS.qb (e:=[(1,_),(2,_),(3,_)]) ?_
 refine An O$ Li O$ Lt PR O$ qV (Lj U3 O O ai O)$ Nb O O$ M5$ Le O$ qS$ qS$ qS$ qS$ qS$ qS$ M8 O O ?_
 refine Lk O$ An O$ py$ Ld$ qN O$ Lt Uj O$ qV (LM (news:=QV h.p) Wq O Nw O (ai.cells (i:=2) (n:=5) O) O)$ LD z97 O (Vs h.p g5 _) ?_
 rintro _ w2 ⟨rfl,ag⟩
 refine Lk O$ Lh Tryz.func121 O ?_
 exact⟨_,rfl,rfl,ad.trans ag⟩
theorem z5s (h:PHd)(hh:h.My)(w:World):LP Tryz.prog 87 [hdV h] w λu w'=>u= .tuple #[S (hdT h),I 0]/\Ext w w':=by
 obtain⟨g1,g2,g3,g4,g5⟩:=id hh
 obtain⟨q1,q2,q3⟩:=id g5
 obtain⟨r1,r2,r3,r4⟩:=id q1
 have r1':h.p.LJ<=16:=r1
 have r2':h.p.interval<=64:=by
  have:h.p.interval=0\/2<=h.p.interval/\h.p.interval<=64:=r2;omega
 have r4':h.p.zeta<=16:=r4
 refine Lb (e:=[(0,_)]) Tryz.func87 O Tryz.ntmps87 O O$ qN O$ Lm O O (Nc O (cs:=hdC h) O) ?_
 rintro _ w1 ⟨b1,rfl,bR,ad,ai⟩
 replace ai:Lq w1 b1 [I (h.n:Int),I (h.m:Int),I (h.p.LJ:Int),I (h.p.chain:Int),I (h.p.interval:Int),I (h.p.zeta:Int),I (h.p.most:Int),I (h.bits:Int)] 149:=ai
 refine Lw O$ Lk O$ run_seq$ qN O$ qV (LM (news:=hdC h) z2q O Pz O (ai.cells (n:=8) O) O)$ LD z6N O (T4 h hh _) ?_
 rintro _ w2 ⟨rfl,ag⟩
 refine Lw O$ qM O$ Le O$ Mu O O$ Lf$ An O$ py$ qN O$ LD WR O (Qk w2) ?_
 rintro _ w3 ⟨wp,F,rfl,lF,ah,pf⟩
 have aL:=ag.trans ah
 have dp:=aL.Lg ai
 refine Lw O$ qM O$ Lt Uj O$ qV (LM (news:=QV h.p) Wq O Nw O (dp.cells (i:=2) (n:=5) O) O)$ Lm O O (NJ (cs:=[_,_,_,_,_]) Nw O) ?_
 rintro _ w4 ⟨b6,rfl,m7,ay,aR⟩
 refine Ls O (M7 (news:=QV h.p) Nw O O O O aR (by simp)) ?_
 rintro w5 ⟨ep,ak⟩
 replace ep:Lq w5 b6 [I (h.p.LJ:Int),I (h.p.chain:Int),I (h.p.interval:Int),I (h.p.zeta:Int),I (h.p.most:Int)] 88:=ep
 have cm:Ext w3 w5:=ay.It ak (λi e=>by omega)
 have dR:=cm.Lg dp
 refine Lf$ run_seq$ qN O$ Lt PR O$ qV ((by first|exact Lj U3 O O dR O|exact Lj U3 O O ep O)) ?_
 refine qV (O6 (cs:=[_,_]) R7 O VC O O)$ Lt Yz O$ qV ((by first|exact Lj U3 O O dR O|exact Lj U3 O O ep O)) ?_
 refine qV (O6 (cs:=[_,_]) R7 O VC O O)$ Lt Xe O$ qV ((by first|exact Lj U3 O O dR O|exact Lj U3 O O ep O)) ?_
 refine qV (O6 (cs:=[_,_]) R7 O VC O O)$ Lt UH O$ qV ((by first|exact Lj U3 O O dR O|exact Lj U3 O O ep O)) ?_
 refine qV (O6 (cs:=[_,_]) R7 O VC O O)$ Lt z60 O$ qV ((by first|exact Lj U3 O O dR O|exact Lj U3 O O ep O)) ?_
 refine qV (O6 (cs:=[_,_]) R7 O VC O O)$ Lt z7z O$ qV ((by first|exact Lj U3 O O dR O|exact Lj U3 O O ep O)) ?_
 refine qV (O6 (cs:=[_,_]) R7 O VC O O)$ Lt Ph O$ qV ((by first|exact Lj U3 O O dR O|exact Lj U3 O O ep O)) ?_
 refine qV (O6 (cs:=[_,_]) R7 O VC O O)$ Lt QC O$ qV ((by first|exact Lj U3 O O dR O|exact Lj U3 O O ep O)) ?_
 refine qV (O6 (cs:=[_,_]) R7 O VC O O)$ Lm O O (RN (cs:=[_,_,_,_,_,_,_,_,_,_,_,_,_,_,_,_]) (zs:=[Value.int .i64 0,Value.int .i64 0,Value.int .i64 0,Value.int .i64 0,Value.int .i64 0,Value.int .i64 0,Value.int .i64 0,Value.int .i64 0,Value.int .i64 0,Value.int .i64 0,Value.int .i64 0,Value.int .i64 0,Value.int .i64 0,Value.int .i64 0,Value.int .i64 0,Value.int .i64 0]) za7 R7 O (by kernel_rfl) O O O (by decide)) ?_
 rintro _ w6 ⟨b43,rfl,⟨AU,aK,dQ⟩,mM⟩
 have vV:=cm.trans aK
 have kX:=lF.ext vV
 have z3:=ah.size
 have hL:(Uo h).length=8:=rfl
 replace mM:Sl w6 (.slice (some ⟨b43,0,none⟩) 8 8) 233 2 8 ((Uo h).flatMap λq=>[I (q.1:Int),I (q.2:Int)]):=mM
 refine Nd za7 O$ Le O$ Lf$ LS.qb (e:=[(2,_),(3,_),(5,_),(43,_),(44,_),(45,_)]) ?_
 refine Lc$ Nj (α:=Nat) (0) (λi=>[(5,ptr wp 0),(43,.slice (some ⟨b43,0,none⟩) 8 8),(44,I 8),(45,I (i:Int))]) (λi w'=>WrR wp F w6 w' (Nh ((Uo h).take i))/\i<=8) (λi=>8-i) ?hI ?hround
 case hI=>exact⟨⟨F,kX,Kp.refl _ _,λk hk=> .inl hk⟩,Nat.zero_le _⟩
 case hround=>
  rintro i w7 ⟨⟨F7,o3,aC,o4⟩,hi⟩ ih
  try dsimp only
  refine qN O$ Mw O O$ Lf$ run_seq$ Lp O (λh0=>?_)$ λh0=>?_
  ·obtain⟨⟨v,c⟩,hq⟩:∃q,(Uo h)[i]? =some q:=⟨_,List.getElem?_eq_getElem (by rw[hL];omega)⟩
   have zd:v<2^c/\c<=64/\v<=134217728:=by
    have hm:=List.mem_of_getElem? hq;simp only[Uo,List.mem_cons,List.not_mem_nil,or_false,Prod.mk.injEq] at hm;rcases hm with⟨rfl,rfl⟩|⟨rfl,rfl⟩|⟨rfl,rfl⟩|⟨rfl,rfl⟩|⟨rfl,rfl⟩|⟨rfl,rfl⟩|⟨rfl,rfl⟩|⟨rfl,rfl⟩<;>refine⟨by omega,by omega,by omega⟩
   have eT:(Nh ((Uo h).take i)).length+c<=192:=by
    have e:Nh ((Uo h).take (i+1))=Nh ((Uo h).take i)++bitsN c v:=by rw[M4 hq];simp[Nh]
    have e2:=congrArg List.length e;rw[List.length_append,bitsN_length] at e2
    have e3:(Nh (Uo h)).length=(Nh ((Uo h).take (i+1))).length+(Nh ((Uo h).drop (i+1))).length:=by
     conv=>lhs;rw[<-List.take_append_drop (i+1) (Uo h)]
     unfold Nh;rw[List.flatMap_append,List.length_append]
    have e4:=Qf h;omega
   have gY:=mM.kp aC (λg hg e=>by have e1:b43=g:=ML hg;have:=kX.lt e;have:=lF.lt e;have:=cm.size;omega);have jJ:=Xb (f:=λq:Nat×Nat=>[I (q.1:Int),I (q.2:Int)]) (λ_=>rfl) gY.rd hq;refine py$ run_seq$ Lc$ qN O$ qV (M9 za7 R7 O O (by omega))$ qV (LM (news:=[I (v:Int),I (c:Int)]) zeI O R7 O jJ O)$ Lm O O (NJ (cs:=[_,_]) R7 O) ?_;rintro _ w8 ⟨b8,rfl,ja,dy,cu⟩;refine Ls O (M7 (news:=[I (v:Int),I (c:Int)]) R7 O O O O cu (by simp)) ?_;rintro w9 ⟨pu,aP⟩;replace pu:Lq w9 b8 [I (v:Int),I (c:Int)] 233:=pu;have ij:Ext w7 w9:=dy.It aP (λi e=>by omega);refine Lf$ Li O$ Le O$ Lt z7H O$ qV (Lj U3 O O pu O)$ qV ((by first|exact Mc O U3 MP (by omega)|exact Ny O U3 MP)) ?_;refine Lt z7K O$ qV (Lj U3 O O pu O)$ LD S5 O (O4 (o3.ext ij) v c zd.2.1 zd.1 (by omega)) ?_;rintro _ w10 ⟨rfl,F10,BX,ar,ba⟩;refine Lf$ Ld$ Li O$ Mb O O$ Le O$ Lf ((ih (i+1) _ ⟨⟨F10,?_,(aC.trans ij.kp).It ar (λk hk=>(o4 k hk).symm),λk hk=>?_⟩,by omega⟩ (by omega)).qb)
   ·rw[M4 hq,show Nh ((Uo h).take i++[(v,c)])=Nh ((Uo h).take i)++bitsN c v by simp[Nh]];exact BX
   ·rcases ba k hk with e| e
    ·exact o4 k e
    ·have:=aC.size;have:=ij.size;exact .inr (by omega)
  ·have cE:i=8:=by omega
   subst cE;rw[show(Uo h).take 8=Uo h from rfl] at o3;refine Ln O$ qN O$ Le O$ LD z3a O (Sd o3) ?_;rintro _ w8 ⟨rfl,rfl⟩;have eQ:(LK (Nh (Uo h))).length=24:=by rw[LY,Qf]
   refine Le O$ Mp O O$ Mp O O$ Lw O$ Lw O$ qM O$ Le O$ qV (Ua O O (by first|omega|(simp;done)|(simp;omega))) ?_;refine Le O$ Lw O$ Lk O$ Lh Tryz.func87 O (⟨_,rfl,?_,((ad.trans aL).trans vV).It aC (λk hk=>by have:=pf k hk;have:=ag.size;have:=ad.size;omega)⟩);simp[resVal,hdT,z2O]
theorem z1V {w:World}{ga:Option Addr}{gc:Nat}{g:List (List Nat)}(h:GrM w (.slice ga g.length gc) g)(hg:Nu g):LP Tryz.prog 86 [.slice ga g.length gc] w λu w'=>u=I (Mv g:Int)/\w'=w:=by
 have hn:=hg.n
 obtain⟨vs,fj,jf⟩:=h.ex
 refine Lb (e:=[(0,_)]) Tryz.func86 O Tryz.ntmps86 O O$ qN O$ Lw O$ qM O$ Lk O$ run_seq$ qN O$ Le O$ Nd Qq O$ Le O$ Lf$ Lc$ Nj (α:=Nat) (0) (λi=>[(3,I (Mv (g.take i):Int)),(6,.slice ga g.length gc),(7,I (g.length:Int)),(8,I (i:Int))]) (λi w'=>w'=w/\i<=g.length) (λi=>g.length-i) ?hI ?hround
 case hI=>exact⟨rfl,Nat.zero_le _⟩
 case hround=>
  rintro i w4 ⟨rfl,hi⟩ ih;have oh:=PB hg i
  try dsimp only
  refine qN O$ Mw O O$ Lf$ run_seq$ Lp O (λh0=>?_)$ λh0=>?_
  ·obtain⟨l,hl⟩:∃l,g[i]? =some l:=⟨_,List.getElem?_eq_getElem (by omega)⟩;have dN:=hg.len (List.mem_of_getElem? hl);obtain⟨a,c,e1,e2,e3⟩:=jf i l hl
   obtain⟨gb,go,gc',e4⟩:∃b o c',Value.slice ga g.length gc= .slice (some ⟨b,o,none⟩) g.length c':=by
    rcases fj.2 with⟨c,hc,h0⟩|⟨b,off,c',hc,-⟩
    ·omega
    ·exact⟨b,off,c',hc⟩
   cases e4;have zi:=Ti (g.take i) l;rw[<-M4 hl] at zi;refine py$ run_seq$ Lc$ qN O$ qV (M9 Qq O2 O O (by omega))$ qV (LN LI O O (Mn fj e1))$ Lk O$ Li O$ Lu O O$ Nd LI O$ Mb O O$ Lk O$ Ld$ Li O ?_;refine Mb O O$ Le O$ Lf ?_;rw[show(Mv (g.take i):Int)+(l.length:Int)=(Mv (g.take (i+1)):Int) by omega];exact(ih (i+1) _ ⟨rfl,by omega⟩ (by omega)).qb
  ·have cE:i=g.length:=by omega
   subst cE;rw[List.take_length];refine Ln O$ qN O$ Le O$ Lk O$ Lh Tryz.func86 O ?_;exact⟨_,rfl,rfl,rfl⟩
theorem Su (p:Mq)(g:List (List Nat))(E:List (Nat×Nat)):∀(d i:Nat),(MB p g E i).length<=(MB p g E (i+d)).length
 |0,i=>Nat.le_refl _
 | d + 1, i => by
   have h:=Su p g E d i;rw[<-Nat.add_assoc,OL,List.length_append];omega
theorem z2T (p:Mq)(g:List (List Nat))(E:List (Nat×Nat))(n:Nat):Nof (RP p g E n):=by
 unfold RP Nof
 rw[List.pairwise_map]
 refine List.pairwise_lt_range.imp fun {i j} gW=>?_
 have:=Su p g E (j-i) i
 rwa [show i+(j-i)=j by omega] at this
theorem VN (p:Mq)(g:List (List Nat))(E:List (Nat×Nat)){n i:Nat}(h:i<=n):(RP p g E n)[i]? =some (MB p g E i).length:=by
 unfold RP
 rw[List.getElem?_map,List.getElem?_range (by omega)];rfl
theorem zax (p:Mq)(g:List (List Nat))(E:List (Nat×Nat))(n:Nat):∀v∈RP p g E n,v<=(MB p g E n).length:=λv hv=>by
 unfold RP at hv
 obtain⟨j,hj,rfl⟩:=List.mem_map.1 hv
 have h1:=List.mem_range.1 hj
 have:=Su p g E (n-j) j
 rwa [show j+(n-j)=n by omega] at this
theorem Zv {l:List Nat}(cT:1<=l.length)(hn:l.length<=64)(lN:Nof l){z:Nat}(hz:l[l.length-1]? =some z):(Uc l (PE l.length (z+1))).length=(PE l.length (z+1)).size:=by
 have h1:=WT (PE l.length (z+1)).width lN hz
 have h2:=Qm (PE l.length (z+1)).width l
 have h3:(restB (PE l.length (z+1)).width l).length=32:=by
  cases l with
  |nil=>simp at cT
  |cons v l=>simp[restB]
 have h4:(PE l.length (z+1)).bits=z / 2^(PE l.length (z+1)).width+l.length:=by
  show(z+1-1) / _+_=_;rw[Nat.add_sub_cancel]
  rfl
 unfold Uc Fm.size Fm.Qv Fm.high
 rw[List.length_append,List.length_append,List.length_append,LY,LY,LY,LY,List.length_append,bitsN_length,bitsN_length,h1,h2,h3,h4]
 show _=12+(l.length*_+7) / 8+_+4*((l.length+63) / 64)
 have h5:(l.length+63) / 64=1:=by omega
 rw[h5]
def T3 (p:Mq)(g:List (List Nat))(E:List (Nat×Nat)):Bytes:=
 hdT ⟨g.length,Mv g,p,(MB p g E g.length).length⟩++LK (MB p g E g.length)++Uc (RP p g E g.length) (PE (g.length+1) ((MB p g E g.length).length+1))
structure z5W (p:Mq)(g:List (List Nat))(E:List (Nat×Nat)):Prop where
 el:E.length=g.length
 ok:z9j p g E
 bits:(MB p g E g.length).length<=2688000
theorem z1c {w:World}{p:Mq}(hp:p.My){g:List (List Nat)}(hg:Nu g)(aJ:1<=g.length){ga:Option Addr}{gc:Nat}(kL:GrM w (.slice ga g.length gc) g)(hG:Lq w 0 (Og .gamma) 260)(hU:Lq w 1 (Og .unary) 260):
  LP Tryz.prog 54 [.slice ga g.length gc,bpV p] w λu w'=>∃E,z5W p g E/\u= .tuple #[S (T3 p g E),I 0]/\Ext w w':=by
 have hn:=hg.n
 have sA:=PB hg g.length
 rw[List.take_length] at sA
 refine Lb (e:=[(0,_),(1,_)]) Tryz.func54 O Tryz.ntmps54 O O$ qN O$ Lm O O (Nc O (cs:=QV p) O) ?_
 rintro _ w1 ⟨b3,rfl,eB,ad,aq⟩
 refine Lw O$ Lw O$ qM O$ Le O$ qV (LM (news:=QV p) Wq O Nw O (aq.cells (n:=5) O) O)$ LD zf0 O (z4q hp hg (kL.ext ad) (ad.Lg hG) (ad.Lg hU)) ?_
 rintro _ w2 ⟨E,v,rfl,qv,HM,tU,cG,rg,ag⟩
 have aG:=ad.trans ag
 have aa:=Ext.LC w2
 obtain⟨va,vc,rfl,-⟩:=cG.rd.shape
 have vW:=z2T p g E g.length
 have gA:=zax p g E g.length
 have aD:=YS p g E g.length
 have fY:=VN p g E (Nat.le_refl g.length)
 obtain⟨vb,vc2,e5⟩:∃b c,Value.slice va (g.length+1) vc= .slice (some ⟨b,0,none⟩) (g.length+1) c:=by
  rcases cG.shape with⟨-,h0⟩|⟨b,c,e,hc⟩
  ·omega
  ·exact⟨b,c,e⟩
 cases e5
 refine Le O$ qV (Nq (v:=S (LK (MB p g E g.length))) O O)$ qV (Nq (v:= .slice (some ⟨vb,0,none⟩) (g.length+1) vc) O O)$ qV (Nq (v:=I 0) O O)$ Lw O$ Lw O$ Lk O$ run_seq$ qN O$ Le O$ Mu O O$ Lf$ An O$ py ?_
 refine run_seq ?_
 have HN:PHd.My ⟨g.length,Mv g,p,(MB p g E g.length).length⟩:=⟨aJ,(by show g.length<=_;omega),(by show Mv g<=_;omega),(by show(MB p g E g.length).length<=_;omega),hp⟩
 refine N7 (λw'=>Ext w2 w') O$ LA 0 O O (aa)$ Ll 1 O (Ol Qq O) aa$ LA 2 O O (aa)$ LA 5 O O (aa)$ LA 6 O O (aa)$ Ll 7 O (Ol Qq O) aa$ Ll 8 O (M9 UZ QA O O (by omega)) aa$ qT 4 O (λ_ hS=>LM (news:=QV p) Wq O Nw O ((hS.Lg (ag.Lg aq)).cells (n:=5) O) O) aa$ qT 9 O (λ_ hS=>LN MP O O (Mn (cG.ext hS).rd (show((RP p g E g.length).map Ly)[g.length]? =some (Ly (MB p g E g.length).length) by rw[List.getElem?_map,fY];rfl))) aa ?_
 refine Ll 10 O (M3 O MP U3 (by omega)) aa$ OA 3 O zeu O (z1V ((kL.ext aG).ext aa) hg) ?_
 rintro _ w3 ⟨rfl,rfl⟩
 refine⟨aa,?_⟩
 refine Ll 11 O (O6 (cs:=[_,_,_,_,_,_,_,_]) Pz O z9t O O) aa$ OA 12 O zfd O (z5s ⟨g.length,Mv g,p,(MB p g E g.length).length⟩ HN _) ?_
 rintro _ w3 ⟨rfl,ah⟩
 refine⟨aa.trans ah,?_⟩
 have ek:=aa.trans ah
 refine LA 13 O O (aa.trans ah)$ qT 14 O (λ_ hS=>Nq (v:=S (hdT ⟨g.length,Mv g,p,(MB p g E g.length).length⟩)) O O) (aa.trans ah)$ Ll 16 O (Ni O) (aa.trans ah)$ Ll 15 O (Nq (v:=I 0) O O) (aa.trans ah)$ Ll 17 O (Ni O) (aa.trans ah)$ qE$ LS.qb (e:=[(4,_),(5,_),(6,_),(7,_),(8,_),(9,_)]) ?_
 refine run_seq$ qN O$ Le O$ Mu O O ?_
 have BY:Rd w3 (.slice (some ⟨vb,0,none⟩) (RP p g E g.length).length vc) 1 (RP p g E g.length).length ((RP p g E g.length).map Ly):=by rw[aD];exact(cG.ext ek).rd
 have hz:(RP p g E g.length)[(RP p g E g.length).length-1]? =some (MB p g E g.length).length:=by rw[aD];exact fY
 have AB:=z0H (by omega) (by omega) vW (λv hv=>by have:=gA v hv;omega) BY hz
 have oh:=Zv (by omega) (by omega) vW hz
 have HO:(PE (RP p g E g.length).length ((MB p g E g.length).length+1)).size<=40000000:=by
  have h1:=Z2 (n:=(RP p g E g.length).length) (u:=(MB p g E g.length).length+1) (by omega) (by omega) (by omega) (by omega);have h2:=Fm.Sr h1;obtain⟨h3,h4,h5⟩:=h1;unfold Fm.size Fm.Qv;omega
 rw[aD] at AB oh HO
 have oo:=Sy ⟨g.length,Mv g,p,(MB p g E g.length).length⟩
 have eQ:=LY (MB p g E g.length)
 refine Lf$ An O$ py$ qN O$ Le O$ LD zfo O (AB) ?_
 rintro _ w4 ⟨rfl,ay⟩
 refine Le O$ qV (Nq (v:=S (Uc (RP p g E g.length) (PE (g.length+1) ((MB p g E g.length).length+1)))) O O)$ qV (Nq (v:=I 0) O O)$ Lw O$ Lw O$ qM O$ Lu O O$ qV (Ua O O (by first|omega|(simp;done)|(simp;omega))) ?_
 refine Le O$ qV (Ua O O (by first|omega|(simp;done)|(simp;omega))) ?_
 refine Le O$ Lw O$ Lk O$ Lh Tryz.func54 O ?_
 exact⟨_,rfl,E,⟨qv,HM,tU⟩,rfl,(aG.trans ek).trans ay⟩
/-! ### Bytes of a word, the least first -/
def val8:List Nat->Nat
 |[]=>0
 |b::r=>b+256*val8 r
theorem Qa {s a b c d:Nat}(hb:b<2^s)(hd:d<2^s):(b+2^s*a)&&&(d+2^s*c)=(b&&&d)+2^s*(a&&&c):=by
 apply Nat.eq_of_testBit_eq
 intro j
 have tU:b&&&d<2^s:=Nat.lt_of_le_of_lt Nat.and_le_left hb
 rw[Nat.testBit_and,Nat.add_comm b,Nat.add_comm d,Nat.add_comm (b&&&d),Nat.testBit_two_pow_mul_add _ hb,Nat.testBit_two_pow_mul_add _ hd,Nat.testBit_two_pow_mul_add _ tU]
 by_cases h:j<s
 ·simp only[if_pos h,Nat.testBit_and]
 ·simp only[if_neg h,Nat.testBit_and]
theorem z7G {s a b m:Nat}(hb:b<2^s)(hm:m<2^s):(b+2^s*a)&&&m=b&&&m:=by
 have:=Qa (a:=a) (c:=0) hb hm
 simpa using this
theorem Wf (m:Nat)(hm:m<256):∀L:List Nat,(∀b∈L,b<256)->val8 L&&&val8 (List.replicate L.length m)=val8 (L.map (·&&&m))
 |[],_=>by simp[val8]
 | b :: r, h => by
   have ih:=Wf m hm r (λx hx=>h x (List.mem_cons_of_mem b hx));rw[List.length_cons,List.replicate_succ,val8,val8,List.map_cons,val8,<-ih];exact Qa (s:=8) (h b List.mem_cons_self) hm
theorem Yk (s m:Nat)(hs:s<=8)(hm:m<2^(8-s)):∀L:List Nat,(∀b∈L,b<256)->val8 L / 2^s&&&val8 (List.replicate L.length m)=val8 (L.map λb=>b / 2^s&&&m)
 |[],_=>by simp[val8]
 | b :: r, h => by
   have ih:=Yk s m hs hm r (λx hx=>h x (List.mem_cons_of_mem b hx));have hb:=h b List.mem_cons_self;have e256:256=2^s*2^(8-s):=by rw[<-Nat.pow_add,show s+(8-s)=8 by omega]
   have hp:0<2^s:=Nat.two_pow_pos s;have vX:b / 2^s<2^(8-s):=by rw[Nat.div_lt_iff_lt_mul hp,Nat.mul_comm,<-e256];exact hb
   have e1:(b+256*val8 r) / 2^s=b / 2^s+2^(8-s)*val8 r:=by
    rw[e256,Nat.mul_assoc,Nat.add_mul_div_left _ _ hp]
   have e2:b / 2^s+2^(8-s)*val8 r=(b / 2^s+2^(8-s)*(val8 r%2^s))+2^8*(val8 r / 2^s):=by
    have h1:=Nat.div_add_mod (val8 r) (2^s);have e3:2^8=2^(8-s)*2^s:=by rw[Nat.mul_comm];exact e256
    rw[e3,Nat.mul_assoc,Nat.add_assoc,<-Nat.mul_add,Nat.add_comm (val8 r%2^s),h1]
   have h3:b / 2^s+2^(8-s)*(val8 r%2^s)<2^8:=by
    have h4:val8 r%2^s+1<=2^s:=Nat.mod_lt _ hp;have h5:=Nat.mul_le_mul_left (2^(8-s)) h4;rw[Nat.mul_add,Nat.mul_one] at h5;have e3:2^8=2^(8-s)*2^s:=by rw[Nat.mul_comm];exact e256
    omega
   have HP:m<2^8:=Nat.lt_of_lt_of_le hm (Nat.pow_le_pow_right (by decide) (by omega));rw[List.length_cons,List.replicate_succ,val8,val8,List.map_cons,val8,<-ih,e1,e2];have:=Qa (s:=8) (a:=val8 r / 2^s) (c:=val8 (List.replicate r.length m)) h3 HP;rw[show m+256*val8 (List.replicate r.length m)=m+2^8*val8 (List.replicate r.length m) from rfl,this,z7G vX hm]
theorem WH (f g:Nat->Nat):∀L:List Nat,val8 (L.map f)+val8 (L.map g)=val8 (L.map λb=>f b+g b)
 |[]=>rfl
 | b :: r => by
   rw[List.map_cons,List.map_cons,List.map_cons,val8,val8,val8,<-WH f g r,Nat.mul_add];omega
theorem Zk:∀L:List Nat,(∀c∈L,c / 16<=4/\c%16<=4)->(val8 L / 16+val8 L)&&&val8 (List.replicate L.length 15)=val8 (L.map λc=>c / 16+c%16)/\val8 L%16<=4
 |[],_=>⟨by simp[val8],by simp[val8]⟩
 | c :: r, h => by
   obtain⟨ih,ih2⟩:=Zk r (λx hx=>h x (List.mem_cons_of_mem c hx));obtain⟨h1,h2⟩:=h c List.mem_cons_self;have e:(c+256*val8 r) / 16+(c+256*val8 r)=(c / 16+16*(val8 r%16)+c)+2^8*(val8 r / 16+val8 r):=by omega
   have aV:c / 16+16*(val8 r%16)+c<2^8:=by omega
   have HQ:(c / 16+16*(val8 r%16)+c)&&&15=c / 16+c%16:=by
    have:=Nat.and_two_pow_sub_one_eq_mod (c / 16+16*(val8 r%16)+c) 4;rw[show(2:Nat)^4-1=15 from rfl,show(2:Nat)^4=16 from rfl] at this;rw[this];omega
   refine⟨?_,by rw[val8];omega⟩;rw[List.length_cons,List.replicate_succ,val8,val8,List.map_cons,val8,<-ih,e];have:=Qa (s:=8) (a:=val8 r / 16+val8 r) (c:=val8 (List.replicate r.length 15)) aV (by decide:15<2^8);rw[show 15+256*val8 (List.replicate r.length 15)=15+2^8*val8 (List.replicate r.length 15) from rfl,this,HQ]
theorem z0D:∀L:List Nat,(∀b∈L,b<256)->(bitsN (8*L.length) (val8 L)).count true=(L.map λb=>(bitsN 8 b).count true).sum
 |[],_=>rfl
 | b :: r, h => by
   have ih:=z0D r (λx hx=>h x (List.mem_cons_of_mem b hx));have hb:=h b List.mem_cons_self;rw[List.length_cons,Nat.mul_add,Nat.mul_one,NM,List.count_append,val8];have e1:(b+256*val8 r) / 2^8=val8 r:=by omega
   rw[List.map_cons,List.sum_cons,show(bitsN 8 (b+256*val8 r))=bitsN 8 b from Sa (by omega),e1,ih];omega
def XA (b:Nat):Nat:=(b / 2&&&85)+(b&&&85)
def s2B (b:Nat):Nat:=(b / 4&&&51)+(b&&&51)
theorem z3X:∀b:Fin 256,XA b<256/\s2B (XA b)<256/\s2B (XA b) / 16<=4/\s2B (XA b)%16<=4/\s2B (XA b) / 16+s2B (XA b)%16=(bitsN 8 b).count true:=by decide+kernel
theorem To {b:Nat}(h:b<256):XA b<256/\s2B (XA b)<256/\s2B (XA b) / 16<=4/\s2B (XA b)%16<=4/\s2B (XA b) / 16+s2B (XA b)%16=(bitsN 8 b).count true:=z3X ⟨b,h⟩
def UA (x:Nat):List Nat:=[x%256,x / 256%256,x / 65536%256,x / 16777216%256,x / 4294967296%256,x / 1099511627776%256,x / 281474976710656%256,x / 72057594037927936%256]
theorem z1Y {x:Nat}(h:x<18446744073709551616):val8 (UA x)=x:=by
 simp only[UA,val8]
 omega
theorem z4R (x:Nat):∀b∈UA x,b<256:=λb hb=>by
 simp only[UA,List.mem_cons,List.not_mem_nil,or_false] at hb
 rcases hb with rfl|rfl|rfl|rfl|rfl|rfl|rfl|rfl<;>exact Nat.mod_lt _ (by decide)
theorem z29 {x:Nat}(h:x<18446744073709551616):∃D:List Nat,D.length=8/\(∀d∈D,d<=8)/\
  ((((x / 2&&&6148914691236517205)+(x&&&6148914691236517205)) / 4&&&3689348814741910323)+(((x / 2&&&6148914691236517205)+(x&&&6148914691236517205))&&&3689348814741910323)) / 16+((((x / 2&&&6148914691236517205)+(x&&&6148914691236517205)) / 4&&&3689348814741910323)+(((x / 2&&&6148914691236517205)+(x&&&6148914691236517205))&&&3689348814741910323))&&&1085102592571150095=val8 D/\D.sum=(bitsN 64 x).count true:=by
 have hv:=z1Y h
 have hl:=z4R x
 have hL:(UA x).length=8:=rfl
 generalize UA x=L at hv hl hL
 have m0:6148914691236517205=val8 (List.replicate L.length 85):=by rw[hL];rfl
 have m1:3689348814741910323=val8 (List.replicate L.length 51):=by rw[hL];rfl
 have m2:1085102592571150095=val8 (List.replicate L.length 15):=by rw[hL];rfl
 have f1:=Yk 1 85 (by decide) (by decide) L hl
 have f2:=Wf 85 (by decide) L hl
 rw[show(2:Nat)^1=2 from rfl] at f1
 have kN:∀b∈L.map XA,b<256:=λb hb=>by
  obtain⟨y,hy,rfl⟩:=List.mem_map.1 hb;exact(To (hl y hy)).1
 have e1:(x / 2&&&6148914691236517205)+(x&&&6148914691236517205)=val8 (L.map XA):=by
  rw[m0,<-hv,f1,f2,WH];rfl
 have f3:=Yk 2 51 (by decide) (by decide) (L.map XA) kN
 have f4:=Wf 51 (by decide) (L.map XA) kN
 rw[show(2:Nat)^2=4 from rfl] at f3
 rw[List.length_map] at f3 f4
 have e2:(val8 (L.map XA) / 4&&&3689348814741910323)+(val8 (L.map XA)&&&3689348814741910323)=val8 ((L.map XA).map s2B):=by
  rw[m1,f3,f4,WH];rfl
 rw[e1,e2]
 have gy:∀c∈(L.map XA).map s2B,c / 16<=4/\c%16<=4:=λc hc=>by
  obtain⟨z,hz,rfl⟩:=List.mem_map.1 hc;obtain⟨y,hy,rfl⟩:=List.mem_map.1 hz;have:=To (hl y hy);exact⟨this.2.2.1,this.2.2.2.1⟩
 have f5:=(Zk _ gy).1
 rw[List.length_map,List.length_map] at f5
 refine⟨((L.map XA).map s2B).map λc=>c / 16+c%16,by rw[List.length_map,List.length_map,List.length_map];exact hL,λd hd=>?_,by rw[m2];exact f5,?_⟩
 ·obtain⟨c,hc,rfl⟩:=List.mem_map.1 hd;have:=gy c hc;omega
 ·have sB:=z0D L hl;rw[hL,hv] at sB;rw[show 8*8=64 from rfl] at sB;rw[sB,List.map_map,List.map_map]
  congr 1
  refine List.map_congr_left λb hb=>?_;exact(To (hl b hb)).2.2.2.2
theorem z5T {D:List Nat}(h8:D.length=8)(hd:∀d∈D,d<=8):let x4:=val8 D+val8 D / 256;let x5:=x4+x4 / 65536;let x6:=x5+x5 / 4294967296;val8 D<1152921504606846976/\x6%128=D.sum/\D.sum<=64:=by
 obtain⟨d0,d1,d2,d3,d4,d5,d6,d7,rfl⟩:∃d0 d1 d2 d3 d4 d5 d6 d7,D=[d0,d1,d2,d3,d4,d5,d6,d7]:=by
  match D,h8 with
  |[a,b,c,d,e,f,g,i],_=>exact⟨a,b,c,d,e,f,g,i,rfl⟩
 have k0:=hd d0 (by simp)
 have k1:=hd d1 (by simp)
 have k2:=hd d2 (by simp)
 have k3:=hd d3 (by simp)
 have k4:=hd d4 (by simp)
 have k5:=hd d5 (by simp)
 have k6:=hd d6 (by simp)
 have k7:=hd d7 (by simp)
 have h3:val8 [d0,d1,d2,d3,d4,d5,d6,d7] / 256=val8 [d1,d2,d3,d4,d5,d6,d7]:=by
  rw[val8,Nat.add_mul_div_left _ _ (by decide),Nat.div_eq_of_lt (by omega),Nat.zero_add]
 have h4:val8 [d0,d1,d2,d3,d4,d5,d6,d7]+val8 [d1,d2,d3,d4,d5,d6,d7]=(d0+d1+256*(d1+d2))+65536*((d2+d3)+256*(d3+d4)+65536*((d4+d5)+256*(d5+d6)+65536*((d6+d7)+256*d7))):=by
  simp only[val8];omega
 have h5:(val8 [d0,d1,d2,d3,d4,d5,d6,d7]+val8 [d1,d2,d3,d4,d5,d6,d7]) / 65536=(d2+d3)+256*(d3+d4)+65536*((d4+d5)+256*(d5+d6)+65536*((d6+d7)+256*d7)):=by
  rw[h4,Nat.add_mul_div_left _ _ (by decide),Nat.div_eq_of_lt (by omega),Nat.zero_add]
 dsimp only
 rw[h3,h5,h4]
 have h6:(d0+d1+256*(d1+d2))+65536*((d2+d3)+256*(d3+d4)+65536*((d4+d5)+256*(d5+d6)+65536*((d6+d7)+256*d7)))+((d2+d3)+256*(d3+d4)+65536*((d4+d5)+256*(d5+d6)+65536*((d6+d7)+256*d7)))=
   ((d0+d1+d2+d3)+256*(d1+d2+d3+d4)+65536*((d2+d3+d4+d5)+256*(d3+d4+d5+d6)))+4294967296*((d4+d5+d6+d7)+256*(d5+d6+d7)+65536*(d6+d7+256*d7)):=by omega
 rw[h6,Nat.add_mul_div_left _ _ (by decide),Nat.div_eq_of_lt (by omega),Nat.zero_add]
 refine⟨by simp only[val8];omega,?_,by simp only[List.sum_cons,List.sum_nil];omega⟩
 simp only[List.sum_cons,List.sum_nil]
 have h7:(d0+d1+d2+d3)+256*(d1+d2+d3+d4)+65536*((d2+d3+d4+d5)+256*(d3+d4+d5+d6))+4294967296*((d4+d5+d6+d7)+256*(d5+d6+d7)+65536*(d6+d7+256*d7))+((d4+d5+d6+d7)+256*(d5+d6+d7)+65536*(d6+d7+256*d7))=
   (d0+d1+d2+d3+d4+d5+d6+d7)+128*(2*(d1+d2+d3+d4)+512*((d2+d3+d4+d5)+256*(d3+d4+d5+d6))+33554432*((d4+d5+d6+d7)+256*(d5+d6+d7)+65536*(d6+d7+256*d7))+(2*(d5+d6+d7)+512*(d6+d7+256*d7))):=by omega
 rw[h7,Nat.add_mul_mod_self_left,Nat.mod_eq_of_lt (by omega)]
 omega
theorem z7y (x:Nat)(hx:x<18446744073709551616)(w:World):LP Tryz.prog 213 [Ly x] w λv w'=>v=I ((bitsN 64 x).count true:Int)/\w'=w:=by
 obtain⟨D,h1,h2,h3,h4⟩:=z29 hx
 obtain⟨f1,f2,f3⟩:=z5T h1 h2
 have a1:x / 2&&&6148914691236517205<=6148914691236517205:=Nat.and_le_right
 have a2:x&&&6148914691236517205<=6148914691236517205:=Nat.and_le_right
 rw[<-h4]
 refine Lb (e:=[(0,_)]) Tryz.func213 O Tryz.ntmps213 O O$ qN O$ Lw O$ qM O$ Le O$ qV (Qg 1 2 O O (by decide) O)$ qV (Qj O O (by omega) (by omega))$ Le O$ qV (Qj O O (by omega) (by omega))$ qV (QD O O)$ Lw O$ qM O ?_
 rw[Nat.mod_eq_of_lt (show(x / 2&&&6148914691236517205)+(x&&&6148914691236517205)<18446744073709551616 by omega)]
 generalize hy:(x / 2&&&6148914691236517205)+(x&&&6148914691236517205)=y at h3
 have pw:y<18446744073709551616:=by omega
 have a3:y / 4&&&3689348814741910323<=3689348814741910323:=Nat.and_le_right
 have a4:y&&&3689348814741910323<=3689348814741910323:=Nat.and_le_right
 refine Le O$ qV (Qg 2 4 O O (by decide) O)$ qV (Qj O O (by omega) (by omega))$ Le O$ qV (Qj O O (by omega) (by omega))$ qV (QD O O)$ Lw O$ qM O ?_
 rw[Nat.mod_eq_of_lt (show(y / 4&&&3689348814741910323)+(y&&&3689348814741910323)<18446744073709551616 by omega)]
 generalize hz:(y / 4&&&3689348814741910323)+(y&&&3689348814741910323)=z at h3
 have m5:z<=7378697629483820646:=by omega
 refine Le O$ qV (Qg 4 16 O O (by decide) O)$ Le O$ qV (QD O O) ?_
 rw[Nat.mod_eq_of_lt (show z / 16+z<18446744073709551616 by omega)]
 refine qV (Qj O O (by omega) (by omega))$ Lw O$ qM O ?_
 rw[h3]
 generalize val8 D=x3 at f1 f2
 refine Lu O O$ qV (Qg 8 256 O O (by decide) O)$ qV (QD O O)$ Lw O$ qM O ?_
 rw[Nat.mod_eq_of_lt (show x3+x3 / 256<18446744073709551616 by omega)]
 generalize ay:x3+x3 / 256=x4 at f2
 have vY:x4<=1157495777000000000:=by omega
 refine Lu O O$ qV (Qg 16 65536 O O (by decide) O)$ qV (QD O O)$ Lk O$ LS.qb (e:=[(0,_),(2,_)]) ?_
 refine qN O ?_
 rw[Nat.mod_eq_of_lt (show x4+x4 / 65536<18446744073709551616 by omega)]
 generalize aX:x4+x4 / 65536=x5 at f2
 have HR:x5<=1160000000000000000:=by omega
 refine Lu O O$ qV (Qg 32 4294967296 O O (by decide) O)$ qV (QD O O)$ Lw O$ qM O ?_
 rw[Nat.mod_eq_of_lt (show x5+x5 / 4294967296<18446744073709551616 by omega)]
 generalize aK:x5+x5 / 4294967296=x6 at f2
 have HS:x6<=1170000000000000000:=by omega
 refine Le O$ qV (M3 O MP U3 (by omega))$ qV (SO O O (by omega) (by omega)) ?_
 rw[show x6&&&127=D.sum by rw[<-f2];exact Nat.and_two_pow_sub_one_eq_mod x6 7]
 refine Lk O$ Lh Tryz.func213 O ?_
 exact⟨_,rfl,rfl,rfl⟩
theorem z5c {x:Nat}(hx:x<18446744073709551616):Ma x<=64:=N0 (by omega)
theorem z64 (x:Nat)(hx:x<18446744073709551616)(w:World):LP Tryz.prog 214 [Ly x] w λv w'=>v=I ((64-Ma x:Nat):Int)/\w'=w:=by
 have rj:=z5c hx
 refine Lb (e:=[(0,_)]) Tryz.func214 O Tryz.ntmps214 O O$ qN O$ Lw O$ qM O$ Le O$ LD XL O (PV x hx w) ?_
 rintro _ w ⟨rfl,rfl⟩
 refine Np O O ?_
 rw[show(64:Int)-(Ma x:Int)=((64-Ma x:Nat):Int) by omega]
 refine Lk O$ Lh Tryz.func214 O ?_
 exact⟨_,rfl,rfl,rfl⟩
def methT (P:Program)(t:TypeId)(name:String):Option FuncId:=match P.info? t with
 | some i => match i.methods.toList.find? (·.name == name) with
   | some m => match m.path.toList, m.func with
     | [], some (f, pr) => match P.underlying t with
       |some (.pointer _)=>cond pr (some f) none
       |some _=>cond pr none (some f)
       |none=>none
     |_,_=>none
   |none=>none
 |none=>none
section
variable {P:Program}{e:Env}{d:Option Nat}{ty t t':TypeId}{pos:String}{aft:Array Edge}{g:Option (Nat×Bool)}{x y:Operand}{w:World}{m n:Nat}
theorem Pv {i:TypeInfo}(h:P.info? t=some i):(typeInfo t).run P w= .ok i w:=by simp[typeInfo,program,Sem.run,h]
theorem z48 {f:FuncId}{name:String}{u:Value}(h:methT P t name=some f)(n:Nat):(method (n+1) t u name).run P w= .ok (f,u) w:=by
 unfold methT at h
 split at h<;>try cases h
 rename_i i hi
 split at h<;>try cases h
 rename_i m hm
 split at h<;>try cases h
 rename_i f' pr iV iW
 have mV:i.methods.find? (·.name==name)=some m:=by rw[<-hm,Array.find?_toList]
 split at h<;>try cases h
 ·rename_i el hu
  cases pr<;>simp at h;subst h;simp[method,Pv hi,mV,iV,follow,iW,receiverAt,run_underlying hu,Place.get]
 ·rename_i td Fo hu
  cases pr<;>simp at h;subst h;unfold method;simp only[Sem.run_bind,Pv hi,Result.andThen_ok,mV,iV,follow,Sem.run_pure,iW,receiverAt,run_underlying hu,Place.get]
theorem yci {f:FuncId}{nm:String}{args:List Operand}{ts:Array TypeId}{vs:List Value}{u:Value}(hf:CF P f)(hm:methT P t nm=some f)(hx:look e x=some (.iface t u))(ha:looks e args=some vs):
  Yc P e ⟨d,.call ⟨.invoke x nm,args.toArray,ts⟩,ty,pos,aft,g⟩ f (u::vs) w:=fun ρ hρ=>by
 have zt:=λw=>z48 (P:=P) (w:=w) (u:=u) hm (P.types.size+(Made.depth-1))
 rw[show P.types.size+(Made.depth-1)+1=P.types.size+Made.depth from rfl] at zt
 have rN:(program).run P w= .ok P w:=rfl
 have mV:=Pp hρ _ _ ha
 have h0:=hρ _ _ hx
 simp[execOp,resolve,mV,h0,Deferred.ofValue,invoke,callMethod,rN,zt,OT hf]
theorem zam (hx:look e x=some (I (m:Int)))(hy:look e y=some (I 7))(hm:m<2^62):Y P e ⟨d,.binOp .andNot t x y t',ty,pos,aft,g⟩ (I ((m / 8*8:Nat):Int)) w w:=fun ρ hρ=>by
 have h1:m<2^IntKind.i64.bits:=by simp only[IntKind.bits];omega
 have h3:m&&&18446744073709551608=m / 8*8:=by
  have h4:=Qa (s:=3) (a:=m / 8) (b:=m%8) (c:=2305843009213693951) (d:=0) (Nat.mod_lt _ (by decide)) (by decide);rw[Nat.and_zero,Nat.zero_add,Nat.zero_add] at h4;have h5:=Nat.and_two_pow_sub_one_eq_mod (m / 8) 61;rw[show(2:Nat)^61-1=2305843009213693951 from rfl,Nat.mod_eq_of_lt (by omega)] at h5;rw[h5,show(2:Nat)^3=8 from rfl,show 8*2305843009213693951=18446744073709551608 from rfl,show m%8+8*(m / 8)=m by omega] at h4;rw[h4];omega
 have h6:(BitVec.ofInt IntKind.i64.bits (m:Int)&&&~~~(BitVec.ofInt IntKind.i64.bits 7)).toNat=m / 8*8:=by
  rw[BitVec.toNat_and,MA h1,show(~~~(BitVec.ofInt IntKind.i64.bits 7)).toNat=18446744073709551608 by decide,h3]
 simp only[execOp,eqGuard_andNot,binOp_andNot,intBits_andNot,hρ _ _ hx,hρ _ _ hy,pure_bind,Sem.run_pure,bits,h6]
 rw[wrap_i64 ⟨by omega,by omega⟩]
theorem zfF {r v q:Nat}(hr:r<=63)(hv:v<2^r)(hq:2^r=q)(hx:look e x=some (.int .u64 ((q+v:Nat):Int)))(hy:look e y=some (.int .u64 (q:Int))):Y P e ⟨d,.binOp .andNot t x y t',ty,pos,aft,g⟩ (.int .u64 (v:Int)) w w:=fun ρ hρ=>by
 subst hq
 have hp:2^r<=2^63:=Nat.pow_le_pow_right (by decide) hr
 have rj:2^64=2^r*2^(64-r):=by rw[<-Nat.pow_add,show r+(64-r)=64 by omega]
 have h2:2^(64-r)=2*2^(63-r):=by rw[<-Nat.pow_succ',show 64-r=(63-r)+1 by omega]
 have tP:0<2^(63-r):=Nat.two_pow_pos _
 have h1:2^r+v<2^IntKind.u64.bits:=by simp only[IntKind.bits];omega
 have h3:2^r<2^IntKind.u64.bits:=by simp only[IntKind.bits];omega
 have h4:(2^r+v)&&&(2^64-1-2^r)=v:=by
  have h5:=Qa (s:=r) (a:=1) (b:=v) (c:=2^(64-r)-2) (d:=2^r-1) hv (by have:=Nat.two_pow_pos r;omega);rw[Nat.mul_one,Nat.and_two_pow_sub_one_eq_mod,Nat.mod_eq_of_lt hv,Nat.one_and_eq_mod_two,h2,show(2*2^(63-r)-2)%2=0 by omega,Nat.mul_zero,Nat.add_zero] at h5
  have h6:2^r-1+2^r*(2*2^(63-r)-2)=2^64-1-2^r:=by
   rw[Nat.mul_sub,<-h2,<-rj];have:=Nat.two_pow_pos r;omega
  rw[h6,Nat.add_comm v] at h5;exact h5
 have h6:(BitVec.ofInt IntKind.u64.bits ((2^r+v:Nat):Int)&&&~~~(BitVec.ofInt IntKind.u64.bits ((2^r:Nat):Int))).toNat=v:=by
  rw[BitVec.toNat_and,BitVec.toNat_not,MA h1,MA h3];exact h4
 simp only[execOp,eqGuard_andNot,binOp_andNot,intBits_andNot,hρ _ _ hx,hρ _ _ hy,pure_bind,Sem.run_pure,bits,h6]
 rw[Vv (k:= .u64) O (by simp only[IntKind.bits];omega)]
end
structure Src (t:TypeId)(u:Value)(T:Bytes) where
 inv:(Nat->Prop)->World->Prop
 fl:FuncId
 fr:FuncId
 cl:CF Tryz.prog fl
 cr:CF Tryz.prog fr
 ml:methT Tryz.prog t "Length"=some fl
 mr:methT Tryz.prog t "ReadAt"=some fr
 ext:∀{X Y:Nat->Prop} {w w':World},inv X w->Ext w w'->(∀k,Y k->X k\/w.heap.size<=k)->inv Y w'
 step:∀{X Y S:Nat->Prop} {w w':World},inv X w->Kp S w w'->(∀k,S k->X k)->(∀k,Y k->X k\/w.heap.size<=k)->inv Y w'
 len:∀{X:Nat->Prop} {w:World},inv X w->LP Tryz.prog fl [u] w λv w'=>v=I (T.length:Int)/\Ext w w'
 rd:∀{X:Nat->Prop} {w:World} (off n:Nat),inv X w->(∀k,X k->k<w.heap.size)->off+n<=T.length->LP Tryz.prog fr [u,I (off:Int),I (n:Int)] w λv w'=>v= .tuple #[S ((T.drop off).take n),I 0]/\inv X w'/\Kp (λk=>¬X k) w w'
theorem Src.own {t:TypeId}{u:Value}{T:Bytes}(R:Src t u T){X S:Nat->Prop}{w w':World}(h:R.inv X w)(hk:Kp S w w')(hS:∀k,S k->X k):R.inv X w':=R.step h hk hS λ_ e=> .inl e
theorem Wo {s:Bytes}{i:Nat}{c:UInt8}(h:s[i]? =some c):valB (LF (s.take (i+1)))=valB (LF (s.take i))*256+c.toNat:=by
 rw[M4 h,Tw,NK,show LF [c]=bitsN 8 c.toNat by simp[LF],Me,bitsN_length]
 have:=c.toNat_lt
 omega
theorem Sf (s:Bytes)(hs:s.length<=8)(w:World):LP Tryz.prog 169 [S s] w λv w'=>v=Ly (valB (LF s))/\Ext w w':=by
 refine Lb (e:=[(0,_)]) Tryz.func169 O Tryz.ntmps169 O O$ qN O$ Lw O$ qM O$ Lk O$ run_seq$ qN O$ Le O$ Lm O O (z5X U9 Mz U5 O) ?_
 rintro _ w1 ⟨b7,c7,rest,rfl,⟨kW,ad,ai⟩,BG⟩
 refine Nd Mz O$ Le O$ Lf$ Lc$ Nj (α:=Nat) (0) (λi=>[(3,Ly (valB (LF (s.take i)))),(7,.slice (some ⟨b7,0,none⟩) s.length c7),(8,I (s.length:Int)),(9,I (i:Int))]) (λi w'=>w'=w1/\i<=s.length) (λi=>s.length-i) ?hI ?hround
 case hI=>exact⟨rfl,Nat.zero_le _⟩
 case hround=>
  rintro i w2 ⟨rfl,hi⟩ ih
  try dsimp only
  refine qN O$ Mw O O$ Lf$ run_seq$ Lp O (λh0=>?_)$ λh0=>?_
  ·obtain⟨c,hc⟩:∃c,s[i]? =some c:=⟨_,List.getElem?_eq_getElem (by omega)⟩;have dt:=c.toNat_lt;have eL:=Wo hc
   have aV:valB (LF (s.take i))<72057594037927936:=by
    have h1:=N1 (LF (s.take i));rw[bitsT_length,List.length_take] at h1;have h2:2^(8*min i s.length)<=2^56:=Nat.pow_le_pow_right (by decide) (by omega);omega
   have aZ:w2.cell? ⟨b7,0+i*1,none⟩=some (P9 c):=by
    rw[ai.cell,Nat.zero_add,Nat.mul_one,List.getElem?_append_left (by rw[List.length_map];omega),List.getElem?_map,hc];rfl
   refine py$ run_seq$ Lc$ qN O$ qV (M9 Mz Tq O O (by omega))$ qV (LN U5 O O aZ) ?_
   generalize valB (LF (s.take i))=q at eL aV
   refine Lk O$ Li O$ Le O$ qV (Na 8 256 O O (by decide) O)$ Le O$ qV ((by first|exact z4t O U5 MP (by decide)|exact Mc O U5 MP (by omega))) ?_;refine qV (Xi O O (by omega) (by omega)) ?_
   have nZ:(q*256%18446744073709551616 |||c.toNat)=valB (LF (s.take (i+1))):=by
    rw[eL,Nat.mod_eq_of_lt (by omega),Nat.mul_comm q];exact(Nat.two_pow_add_eq_or_of_lt (i:=8) dt q).symm
   rw[nZ];refine Lk O$ Ld$ Li O$ Mb O O$ Le O$ Lf ?_;exact(ih (i+1) _ ⟨rfl,by omega⟩ (by omega)).qb
  ·have cE:i=s.length:=by omega
   subst cE;rw[List.take_length];refine Ln O$ qN O$ Le O$ Lk O$ Lh Tryz.func169 O ?_;exact⟨_,rfl,rfl,ad⟩
section
variable {P:Program}{e:Env}{d:Option Nat}{ty t t':TypeId}{pos:String}{aft:Array Edge}{g:Option (Nat×Bool)}{x y:Operand}{w:World}
theorem z8B {ms:Array (String×TypeId)}{tx:TypeId}{v:Value}(ht:P.underlying t=some (.interface ms)):(binOp .eql t (.iface tx v) .nilIface).run P w= .ok (.bool false) w:=by
 have h:P.methodsAt t=ms:=by unfold Program.methodsAt;rw[ht]
 exact run_eql_held_nil w t tx v (by rw[h];exact ht)
theorem z9E {ms:Array (String×TypeId)}{tx:TypeId}{v:Value}(ht:P.underlying t=some (.interface ms))(hx:look e x=some (.iface tx v))(hy:look e y=some .nilIface):Y P e ⟨d,.binOp .eql t x y t',ty,pos,aft,g⟩ (.bool false) w w:=fun ρ hρ=>by
 have hg:∀a b,(eqGuard .eql t a b (.iface tx v) .nilIface).run P w= .ok () w:=λa b=>rfl
 simp only[execOp,hρ _ _ hx,hρ _ _ hy,Sem.run_bind,hg,Result.andThen_ok,z8B ht,Sem.run_pure]
theorem ze2 {tx:TypeId}{v:Value}(hx:look e x=some (.iface tx v)):Y P e ⟨d,.nilCheck x,ty,pos,aft,g⟩ (.iface tx v) w w:=fun ρ hρ=>by simp[execOp,hρ _ _ hx]
end
structure QZ (l:List Nat)(f:Fm)(z:Nat):Prop where
 n1:1<=l.length
 n2:l.length<=64
 nof:Nof l
 last:l[l.length-1]? =some z
 zb:z<=999999998
 fe:f=PE l.length (z+1)
theorem QZ.small {l:List Nat}{f:Fm}{z:Nat}(h:QZ l f z):f.small:=by
 rw[h.fe]
 exact Z2 h.n1 (by have:=h.n2;omega) (by omega) (by have:=h.zb;omega)
theorem QZ.len {l:List Nat}{f:Fm}{z:Nat}(h:QZ l f z):(Uc l f).length=f.size:=by
 rw[h.fe]
 exact Zv h.n1 h.n2 h.nof h.last
theorem QZ.n {l:List Nat}{f:Fm}{z:Nat}(h:QZ l f z):f.n=l.length:=by rw[h.fe];rfl
theorem QZ.u {l:List Nat}{f:Fm}{z:Nat}(h:QZ l f z):f.u=z+1:=by rw[h.fe];rfl
theorem QZ.size_le {l:List Nat}{f:Fm}{z:Nat}(h:QZ l f z):f.size<=40000000/\12<=f.size:=by
 have h1:=h.small
 have h2:=Fm.Sr h1
 obtain⟨h3,h4,h5⟩:=h1
 unfold Fm.size Fm.Qv
 have:12<=f.high:=by unfold Fm.high;omega
 omega
theorem piece {A B C:Bytes}{off n o:Nat}(h:off=A.length+o)(hn:o+n<=B.length):((A++B++C).drop off).take n=(B.drop o).take n:=by
 rw[h,List.append_assoc,List.drop_length_add_append,List.drop_append_of_le_length (by omega),List.take_append_of_le_length (by rw[List.length_drop];omega)]
def OO (f:Fm):List Bool:=bitsN 32 f.n++bitsN 64 f.u
theorem XP (f:Fm):LF (LK (OO f))=OO f:=by
 obtain⟨z,h1,h2,h3⟩:=O5 (OO f)
 have hl:(OO f).length=96:=by simp[OO]
 have hz:z=0:=by omega
 rw[h1,hz,List.replicate_zero,List.append_nil]
theorem Qe (f:Fm):(LK (OO f)).length=12:=by
 rw[LY];simp[OO]
theorem zaA (f:Fm)(hn:f.n<4294967296):valB (LF ((LK (OO f)).take 4))=f.n:=by
 rw[Q7,XP]
 unfold OO
 rw[List.take_left' (by simp),Me]
 exact Nat.mod_eq_of_lt hn
theorem zaf (f:Fm)(hu:f.u<18446744073709551616):valB (LF ((LK (OO f)).drop 4))=f.u:=by
 rw[Po,XP]
 unfold OO
 rw[List.drop_left' (by simp),Me]
 exact Nat.mod_eq_of_lt hu
theorem z6j (l:List Nat)(f:Fm):((Uc l f).drop 0).take 12=LK (OO f):=by
 have h:=piece (A:=[]) (B:=LK (OO f)) (C:=LK (O8 f.width l)++(LK (hiB f.width 0 0 l)++LK (restB f.width l))) (off:=0) (n:=12) (o:=0) O (by rw[Qe];omega)
 rw[List.nil_append] at h
 unfold Uc
 rw[List.append_assoc,List.append_assoc]
 refine h.trans ?_
 rw[List.drop_zero,List.take_of_length_le (by rw[Qe];omega)]
def elC (f:Fm)(t:TypeId)(u:Value):List Value:=[I (f.n:Int),Ly f.u,I (f.width:Int),I (f.bits:Int),.iface t u]
theorem z1n {t:TypeId}{u:Value}{l:List Nat}{f:Fm}{z:Nat}(he:QZ l f z)(R:Src t u (Uc l f)){X:Nat->Prop}{w:World}(hI:R.inv X w)(hX:∀k,X k->k<w.heap.size):
  LP Tryz.prog 134 [.iface t u] w λv w'=>∃x,v= .tuple #[ptr x 0,I 0]/\Lq w' x (elC f t u) 294/\w.heap.size<=x/\R.inv (λk=>X k\/k=x) w'/\Kp (λk=>¬X k) w w':=by
 obtain⟨dU,cW⟩:=he.size_le
 have aD:=he.len
 have oT:=he.n
 have zo:=he.u
 have jc:=he.n2
 have cT:=he.n1
 have um:=he.zb
 refine Lb (e:=[(0,_)]) Tryz.func134 O Tryz.ntmps134 O O$ qN O$ Lw O$ Lk O$ run_seq$ Lc$ qN O$ Le O$ qV (z9E z0t O O)$ Lk O$ An O$ qN O$ Le O$ MK O O (yci R.cl R.ml O O) (R.len hI) ?_
 rintro _ w1 ⟨rfl,ad⟩
 rw[aD]
 have lP:=R.ext hI ad (λk hk=> .inl hk)
 have kO:∀k,X k->k<w1.heap.size:=λk hk=>by have:=hX k hk;have:=ad.size;omega
 refine Mw O O$ M5$ Lk O$ An O$ py$ Ld$ qN O$ Le O$ MK O O (yci R.cr R.mr O O) (R.rd 0 12 lP kO (by rw[aD];omega)) ?_
 rintro _ w2 ⟨rfl,cP,ao⟩
 rw[z6j]
 have dC:Kp (λk=>¬X k) w w2:=ad.kp.trans ao
 have gq:∀k,X k->k<w2.heap.size:=λk hk=>by have:=kO k hk;have:=ao.size;omega
 have oo:=Qe f
 have og:((LK (OO f)).take 4).length<=8:=by rw[List.length_take];omega
 have m9:((LK (OO f)).drop 4).length<=8:=by rw[List.length_drop];omega
 have zu:=zaA f (by omega)
 have Fp:=zaf f (by omega)
 generalize LK (OO f)=hb at oo og m9 zu Fp
 have aa:=Ext.LC w2
 refine Le O$ Mp O O$ Mp O O$ Lw O$ Lk O$ run_seq$ qN O$ Le O$ Mu O O$ Lf$ An O$ py$ run_seq$ N7 (λw'=>Ext w2 w') O ?_
 refine LA 0 O O (aa)$ Ll 1 O (Zr U9 O O (by omega)) aa$ LA 3 O O (aa)$ Ll 4 O (Xg U9 O O (by omega)) aa$ OA 2 O z2V O (Sf (hb.take 4) og _) ?_
 rintro _ w3 ⟨rfl,ah⟩
 refine⟨aa.trans ah,?_⟩
 refine OA 5 O z2V O (Sf (hb.drop 4) m9 _) ?_
 rintro _ w4 ⟨rfl,ay⟩
 refine⟨(aa.trans ah).trans ay,?_⟩
 have cX:=(aa.trans ah).trans ay
 rw[zu,Fp]
 have jU:=R.ext cP cX (λk hk=> .inl hk)
 refine Ll 6 O (Ni O) ((aa.trans ah).trans ay)$ Ll 7 O (Ni O) ((aa.trans ah).trans ay)$ qE$ LS.qb (e:=[(0,_),(2,_),(3,_),(6,_),(7,_)]) ?_
 refine run_seq$ qN O$ Le O$ MH O O$ M5$ Lu O O$ MH O O$ M5$ M8 O O$ Lu O O$ Nb O O$ M5$ Le O$ Nb O O ?_
 refine M5$ qV (z6q O O U4)$ M8 O O$ Lf$ An O$ py$ qN O$ Le O$ qV (M3 O MP U3 (by omega))$ Le O ?_
 have HT:PE f.n f.u=f:=by rw[oT,zo];exact he.fe.symm
 have kw:=T9 f.n f.u (by omega) (by omega) (by omega) (by omega) w4
 rw[HT] at kw
 refine LD z5E O (kw) ?_
 rintro _ w5 ⟨rfl,aX⟩
 refine Lm O O (NJ (cs:=[_,_,_,_]) OW O) ?_
 rintro _ w6 ⟨b8,rfl,ja,aK,cu⟩
 refine Ls O (M7 (news:=fmC f) OW O O O O cu (by simp)) ?_
 rintro w7 ⟨px,aC⟩
 replace px:Lq w7 b8 (fmC f) 238:=px
 have pi:Ext w5 w7:=aK.It aC (λi e=>by omega)
 have vZ:=aX.trans pi
 have jh:=R.ext jU vZ (λk hk=> .inl hk)
 refine Lf$ run_seq$ qN O$ qV (LM (news:=fmC f) z0P O OW O (px.cells (n:=4) O) O)$ LD z9h O (Yd f he.small _) ?_
 rintro _ w8 ⟨rfl,dy⟩
 have BZ:=R.ext jh dy (λk hk=> .inl hk)
 refine Le O$ MK O O (yci R.cl R.ml O O) (R.len BZ) ?_
 rintro _ w9 ⟨rfl,eI⟩
 rw[aD]
 have ji:=R.ext BZ eI (λk hk=> .inl hk)
 have ij:=dy.trans eI
 have wa:=(cX.trans vZ).trans ij
 refine Mu O O$ M5$ Lf$ LS.qb (e:=[(0,_),(2,_),(3,_),(8,_),(51,_)]) ?_
 refine An O$ py$ qN O$ qV (LM (news:=fmC f) z0P O OW O ((ij.Lg px).cells (n:=4) O) O)$ Le O$ qV (O6 (cs:=[_,_,_,_,_]) zdO O zbS O O)$ Lm O O (Nc O (cs:=elC f t u) O) ?_
 rintro _ w10 ⟨x,rfl,hx,bC,dc⟩
 refine Lw O$ Lk O$ Lh Tryz.func134 O ?_
 exact⟨_,rfl,x,rfl,dc,by have:=dC.size;have:=wa.size;omega,R.ext ji bC (λk hk=>hk.imp id λe=>by omega),dC.trans (wa.trans bC).kp⟩
theorem z5e {t:TypeId}{u:Value}{f:Fm}{x:Nat}{w:World}(hB:Lq w x (elC f t u) 294):LP Tryz.prog 135 [ptr x 0] w λv w'=>v=I (f.n:Int)/\w'=w:=by
 replace hB:Lq w x [I (f.n:Int),Ly f.u,I (f.width:Int),I (f.bits:Int),.iface t u] 294:=hB
 refine Lb (e:=[(0,_)]) Tryz.func135 O Tryz.ntmps135 O O$ qN O$ Lk O$ run_seq$ qN O$ Le O$ qV (Ml Ui O O)$ Lf$ An O$ py$ qN O$ Le O$ LU O$ Lt O7 O ?_
 refine Lt Ue O$ qV (Lj U3 O O hB O)$ Lk O$ Lh Tryz.func135 O ?_
 exact⟨_,rfl,rfl,rfl⟩
theorem z6B (k:Nat)(a b:List Nat):O8 k (a++b)=O8 k a++O8 k b:=by simp[O8]
theorem z89 {k i v:Nat}{l:List Nat}(h:l[i]? =some v)(rest:List Bool):((O8 k l++rest).drop (i*k)).take k=bitsN k (v%2^k):=by
 have hi:=(List.getElem?_eq_some_iff.1 h).1
 have e:l=l.take i++(v::l.drop (i+1)):=by
  conv=>lhs;rw[<-List.take_append_drop i l]
  congr 1
  rw[List.drop_eq_getElem_cons hi,(List.getElem?_eq_some_iff.1 h).2]
 have hl:(O8 k (l.take i)).length=i*k:=by rw[Qm,List.length_take,Nat.min_eq_left (by omega)]
 rw[e,z6B,List.append_assoc,List.drop_left' hl]
 show((bitsN k (v%2^k)++O8 k (l.drop (i+1)))++rest).take k=_
 rw[List.append_assoc,List.take_left' (by simp)]
theorem Xq {B:Bytes}{o n a m:Nat}(h:a+m<=8*n):((LF ((B.drop o).take n)).drop a).take m=((LF B).drop (8*o+a)).take m:=by
 rw[Q7,Po,List.drop_take,List.drop_drop,List.take_take,Nat.min_eq_left (by omega)]
theorem z8M (l:List Nat)(f:Fm){o n:Nat}(h:o+n<=(LK (O8 f.width l)).length):((Uc l f).drop (12+o)).take n=((LK (O8 f.width l)).drop o).take n:=by
 unfold Uc
 rw[List.append_assoc (LK (bitsN 32 f.n++bitsN 64 f.u)++LK (O8 f.width l))]
 exact piece (by rw[show LK (bitsN 32 f.n++bitsN 64 f.u)=LK (OO f) from rfl,Qe]) h
theorem z4V {t:TypeId}{u:Value}{l:List Nat}{f:Fm}{z:Nat}(he:QZ l f z)(R:Src t u (Uc l f)){X:Nat->Prop}{w:World}(hI:R.inv X w)(hX:∀k,X k->k<w.heap.size){x:Nat}(hx:X x)(hB:Lq w x (elC f t u) 294){i v:Nat}(hv:l[i]? =some v):
  LP Tryz.prog 182 [ptr x 0,I (i:Int)] w λr w'=>r= .tuple #[Ly (v%2^f.width),I 0]/\R.inv X w'/\Kp (λk=>¬X k) w w':=by
 have cE:=(List.getElem?_eq_some_iff.1 hv).1
 have aD:=he.len
 obtain⟨uL,wc⟩:=he.size_le
 have jc:=he.n2
 have tY:f.width<=30:=by rw[he.fe];exact UC (by have:=he.zb;omega)
 replace hB:Lq w x [I (f.n:Int),Ly f.u,I (f.width:Int),I (f.bits:Int),.iface t u] 294:=hB
 refine Lb (e:=[(0,_),(1,_)]) Tryz.func182 O Tryz.ntmps182 O O$ qN O$ Lw O$ Lk O$ run_seq$ qN O$ Le O$ LU O$ Lt O7 O$ Lt P5 O$ qV (Lj U3 O O hB O)$ Nb O O$ Lf$ Lp O (λh0=>?_)$ λh0=>?_
 ·have mC:f.width=0:=by omega
  refine qN O$ Lw O$ Lk O$ Lh Tryz.func182 O (⟨_,rfl,?_,hI,Kp.refl _ _⟩);rw[mC,Nat.pow_zero,Nat.mod_one]
  rfl
 ·have ET:1<=f.width:=by omega
  have HU:i*f.width<=64*30:=Nat.mul_le_mul (by omega) tY;have Fr:(i+1)*f.width=i*f.width+f.width:=by rw[Nat.add_mul,Nat.one_mul]
  have ev:(i+1)*f.width<=l.length*f.width:=Nat.mul_le_mul_right _ cE;have e1:((i*f.width:Nat):Int)=(i:Int)*(f.width:Int):=Int.natCast_mul _ _;have e2:(((i+1)*f.width:Nat):Int)=((i:Int)+1)*(f.width:Int):=Int.natCast_mul _ _;have hg:=Ext.LC w;refine py$ run_seq$ N7 (λw'=>Ext w w') O$ LA 0 O O (hg)$ LA 1 O O (hg)$ Ll 2 O (Mo O) hg$ Ll 3 O (LV O7 O) hg$ Ll 4 O (LV P5 O) hg$ qT 5 O (λ_ h=>Lj U3 O O (h.Lg hB) O) hg$ LA 7 O O (hg)$ Ll 8 O (Qu O O (by omega)) hg$ LA 9 O O (hg)$ Ll 10 O (Mo O) hg$ Ll 11 O (LV O7 O) hg ?_;refine Ll 12 O (LV P5 O) hg$ qT 13 O (λ_ h=>Lj U3 O O (h.Lg hB) O) hg$ Ll 6 O (T6 O O (by rw[<-e1];omega)) hg ?_;rw[<-e1];refine Ll 15 O (Ni O) hg$ Ll 14 O (T6 O O (by rw[<-e2];omega)) hg ?_;rw[<-e2,Fr];refine Ll 16 O (Ni O) hg$ qE$ LS.qb (e:=[(0,_),(4,_),(5,_),(6,_),(7,_)]) ?_;refine qN O$ Le O$ LU O$ Lt Yo O$ qV (Lj z0t O O hB O)$ Le O$ qV (SC O O (by omega))$ Mb O O$ Le O$ Mb O O$ qV (SC O O (by omega))$ Le O$ qV (SC O O (by omega))$ Np O O ?_;have wg:=hg.Lg hB;have HV:=R.ext hI hg (λk hk=> .inl hk);have HW:∀k,X k->k<w.drew.heap.size:=λk hk=>by have:=hX k hk;have:=hg.size;omega
  have C1:(LK (O8 f.width l)).length=(l.length*f.width+7) / 8:=by rw[LY,Qm]
  have C2:=z89 (k:=f.width) hv;have oK:∀rest,((O8 f.width l++rest).drop (i*f.width)).take f.width=bitsN f.width (v%2^f.width):=C2;rw[Fr] at ev
  generalize i*f.width=fr at HU ev oK e1
  rw[show(12:Int)+(fr:Int) / 8=((12+fr / 8:Nat):Int) by omega,show((fr+f.width:Nat):Int)+7=((fr+f.width+7:Nat):Int) by omega,show((fr+f.width+7:Nat):Int) / 8-(fr:Int) / 8=(((fr+f.width+7) / 8-fr / 8:Nat):Int) by omega];have sC:fr / 8+((fr+f.width+7) / 8-fr / 8)<=(LK (O8 f.width l)).length:=by rw[C1];omega
  have kV:=z8M l f sC
  have sD:12+fr / 8+((fr+f.width+7) / 8-fr / 8)<=(Uc l f).length:=by
   have e:(Uc l f).length=12+(LK (O8 f.width l)).length+(LK (hiB f.width 0 0 l)).length+(LK (restB f.width l)).length:=by
    unfold Uc;rw[List.length_append,List.length_append,List.length_append,show LK (bitsN 32 f.n++bitsN 64 f.u)=LK (OO f) from rfl,Qe]
   omega
  refine MK O O (yci R.cr R.mr O O) (R.rd (12+fr / 8) ((fr+f.width+7) / 8-fr / 8) HV HW sD) ?_;rintro _ w1 ⟨rfl,lP,aN⟩;rw[kV];have ik:Kp (λk=>¬X k) w w1:=hg.kp.trans aN;have ai:=ik.Lg hB (λe=>e hx)
  have eQ:(((LK (O8 f.width l)).drop (fr / 8)).take ((fr+f.width+7) / 8-fr / 8)).length=(fr+f.width+7) / 8-fr / 8:=by
   rw[List.length_take,List.length_drop];omega
  obtain⟨zz,m5,-,-⟩:=O5 (O8 f.width l);have bS:=Xq (B:=LK (O8 f.width l)) (o:=fr / 8) (n:=(fr+f.width+7) / 8-fr / 8) (a:=fr%8) (m:=f.width) (by omega);rw[show 8*(fr / 8)+fr%8=fr by omega,m5,oK] at bS
  generalize ((LK (O8 f.width l)).drop (fr / 8)).take ((fr+f.width+7) / 8-fr / 8)=pt at eQ bS
  refine Le O$ Mp O O$ Mp O O$ Lw O$ Lk O$ run_seq$ qN O$ Le O$ Mu O O$ Lf$ LS.qb (e:=[(0,_),(4,_),(5,_),(6,_),(8,_),(9,_),(52,_)]) ?_;refine An O$ py$ qN O$ Le O$ LD z2H O (Sz pt (by omega) w1) ?_;rintro _ w2 ⟨r,rfl,cH,ag,dP⟩;refine Lw O$ qM O$ Lu O O$ qV (SO O O (by omega) (by omega)) ?_;rw[show fr&&&7=fr%8 from Nat.and_two_pow_sub_one_eq_mod fr 3];refine LD z5y O (Ux cH (fr%8) (by omega)) ?_;rintro _ w3 ⟨rfl,kP,ax⟩;have aL:Ext w1 w3:=ag.It ax (λi e=>by omega);have aq:=aL.Lg ai;refine qM O$ Lu O O$ LU O$ Lt O7 O$ Lt P5 O$ qV (Lj U3 O O aq O)$ LD ZO O (R6 kP f.width (by omega)) ?_;rintro v4 w4 qg
  have fd:v4= .tuple #[Ly (v%2^f.width),I 0]/\Kp (λk=>k=r) w3 w4:=by
   rcases qg with⟨-,e,-,hk⟩|⟨e,-,-⟩
   ·rw[bS,Me,Nat.mod_mod] at e;exact⟨e,hk⟩
   ·omega
  obtain⟨rfl,av⟩:=fd;have bV:Ext w1 w4:=aL.It av (λi e=>by omega);refine Le O$ Mp O O$ Mp O O$ Lw O$ Lk O$ LS.qb (e:=[(4,_),(5,_),(11,_)]) ?_;refine qN O$ Le O$ Lw O$ Lk O$ Lh Tryz.func182 O ?_;exact⟨_,rfl,rfl,R.ext lP bV (λk hk=> .inl hk),ik.trans bV.kp⟩
theorem Wh (n:Nat):valB (List.replicate n false)=0:=by
 rw[<-Rp,Me];simp
theorem ZW (b:List Bool)(k:Nat):valB (b++List.replicate k false)=valB b*2^k:=by
 rw[NK,Wh,List.length_replicate,Nat.add_zero]
theorem Y8 (b:List Bool)(k:Nat):valB (List.replicate k false++b)=valB b:=by
 rw[NK,Wh];simp
theorem WB {D:List Bool}{a b m:Nat}(ha:m<=D.length+a)(hb:m<=D.length+b):(D++List.replicate a false).take m=(D++List.replicate b false).take m:=by
 rw[List.take_append,List.take_append,List.take_replicate,List.take_replicate,Nat.min_eq_left (by omega),Nat.min_eq_left (by omega)]
def Za (H:List Bool)(a:Nat):List Bool:=List.replicate (a%8) false++(H.drop a++List.replicate 64 false).take (64-a%8)
theorem z3C (H:List Bool)(a:Nat):(Za H a).length=64:=by
 unfold Za
 rw[List.length_append,List.length_replicate,List.length_take,List.length_append,List.length_replicate]
 omega
theorem z5f {H:List Bool}{fq n:Nat}(hf:8*fq<H.length)(hn:n=min 8 ((H.length+7) / 8-fq)):
  LF (((LK H).drop fq).take n)++List.replicate (64-8*n) false=(H.drop (8*fq)++List.replicate 64 false).take 64:=by
 obtain⟨z,h1,h2,h3⟩:=O5 H
 rw[Q7,Po,h1,List.drop_append_of_le_length (by omega)]
 have hD:(H.drop (8*fq)).length=H.length-8*fq:=List.length_drop
 generalize H.drop (8*fq)=D at hD
 rcases Nat.lt_or_ge n 8 with h| h
 ·have e:8*n=D.length+z:=by omega
  rw[List.take_of_length_le (by rw[List.length_append,List.length_replicate];omega),List.append_assoc,List.replicate_append_replicate];rw[WB (a:=64) (b:=z+(64-8*n)) (by omega) (by omega),List.take_of_length_le (by rw[List.length_append,List.length_replicate];omega)]
 ·have e:n=8:=by omega
  subst e;rw[show 64-8*8=0 from rfl,List.replicate_zero,List.append_nil];exact WB (by omega) (by omega)
theorem z5d {W:List Bool}(hW:W.length=64){d:Nat}(hd:d<=64):valB W%2^(64-d)=valB (List.replicate d false++W.drop d):=by
 have h1:=NK (W.take d) (W.drop d)
 rw[List.take_append_drop,List.length_drop,hW] at h1
 have h2:=N1 (W.drop d)
 rw[List.length_drop,hW] at h2
 rw[Y8,h1,Nat.add_comm,Nat.add_mul_mod_self_right,Nat.mod_eq_of_lt h2]
theorem z5q {H:List Bool}{a:Nat}(ha:a<H.length):List.replicate (a%8) false++((H.drop (8*(a / 8))++List.replicate 64 false).take 64).drop (a%8)=Za H a:=by
 unfold Za
 congr 1
 have hd:a%8<=(H.drop (8*(a / 8))).length:=by rw[List.length_drop];omega
 rw[List.drop_take,List.drop_append_of_le_length hd,List.drop_drop,show 8*(a / 8)+a%8=a by omega]
theorem z6s {H:List Bool}{a r:Nat}(ha:a<H.length)(hr:a / 8*8+64=H.length+r):∃q,valB (Za H a)=q*2^r:=by
 have hD:(H.drop a).length=H.length-a:=List.length_drop
 refine⟨valB (List.replicate (a%8) false++H.drop a),?_⟩
 rw[<-ZW]
 congr 1
 unfold Za
 rw[List.append_assoc,WB (a:=64) (b:=r) (by omega) (by omega),List.take_of_length_le (by rw[List.length_append,List.length_replicate];omega)]
theorem z4Z {d:Nat}(hd:d<=64):18446744073709551615 / 2^d=2^(64-d)-1:=by
 have hp:0<2^d:=Nat.two_pow_pos d
 have h1:2^64=2^d*2^(64-d):=by rw[<-Nat.pow_add,show d+(64-d)=64 by omega]
 have h2:0<2^(64-d):=Nat.two_pow_pos _
 have h3:18446744073709551615=(2^d-1)+2^d*(2^(64-d)-1):=by
  rw[Nat.mul_sub,<-h1,Nat.mul_one];have h4:2^d<=2^64:=Nat.pow_le_pow_right (by decide) hd;omega
 rw[h3,Nat.add_mul_div_left _ _ hp,Nat.div_eq_of_lt (by omega),Nat.zero_add]
theorem z32 {b:List Bool}(h:b.length=64):valB b<18446744073709551616:=by
 have:=N1 b
 rw[h] at this
 exact this
theorem za0 (l:List Nat)(f:Fm)(hf:f.high=12+(LK (O8 f.width l)).length){o n:Nat}(h:o+n<=(LK (hiB f.width 0 0 l)).length):((Uc l f).drop (f.high+o)).take n=((LK (hiB f.width 0 0 l)).drop o).take n:=by
 unfold Uc
 exact piece (by rw[List.length_append,show LK (bitsN 32 f.n++bitsN 64 f.u)=LK (OO f) from rfl,Qe,hf]) h
theorem QZ.high {l:List Nat}{f:Fm}{z:Nat}(he:QZ l f z):f.high=12+(LK (O8 f.width l)).length:=by
 unfold Fm.high
 rw[LY,Qm,he.n]
theorem QZ.bits {l:List Nat}{f:Fm}{z:Nat}(he:QZ l f z):f.bits=(hiB f.width 0 0 l).length:=by
 rw[WT f.width he.nof he.last]
 rw[he.fe]
 show(z+1-1) / _+_=_
 rw[Nat.add_sub_cancel]
 rfl
theorem z2k {t:TypeId}{u:Value}{l:List Nat}{f:Fm}{z:Nat}(he:QZ l f z)(R:Src t u (Uc l f)){X:Nat->Prop}{w:World}(hI:R.inv X w)(hX:∀k,X k->k<w.heap.size){x b3 b8 v0:Nat}(hx:X x)(h3:X b3)(h8:X b8)(rh:b8≠x/\b8≠b3)(hB:Lq w x (elC f t u) 294)(aq:Lq w b3 [ptr x 0] 152)(cu:Lq w b8 [Ly v0] 41){a:Nat}(ha:a<f.bits):
  LP Tryz.prog 212 [I (a:Int),ptr b3 0,ptr b8 0] w λr w'=>r=I 0/\R.inv X w'/\Kp (λk=>¬X k\/k=b8) w w'/\Lq w' b8 [Ly (valB (Za (hiB f.width 0 0 l) a))] 41:=by
 have aD:=he.len
 obtain⟨uL,wc⟩:=he.size_le
 have sE:=he.small
 have oo:=Fm.Sr sE
 have eT:=sE.2.2
 have bS:=he.bits
 have wh:=he.high
 have eQ:(LK (hiB f.width 0 0 l)).length=(f.bits+7) / 8:=by rw[LY,bS]
 replace hB:Lq w x [I (f.n:Int),Ly f.u,I (f.width:Int),I (f.bits:Int),.iface t u] 294:=hB
 refine Lb (e:=[(0,_),(1,_),(2,_)]) Tryz.func212 O Tryz.ntmps212 O O$ qN O$ Lw O$ qM O$ Le O$ qV (zam O O (by omega))$ Lw O$ qM O$ qV ((by first|exact Lj Ui O O hB O|exact Lj Ui O O aq O)) ?_
 refine LU O$ Lt O7 O$ Lt TJ O$ qV ((by first|exact Lj U3 O O hB O|exact Lj U3 O O aq O)) ?_
 refine Mb O O$ qV (SC O O (by omega))$ Le O$ qV (SC O O (by omega))$ Np O O ?_
 rw[show((f.bits:Int)+7) / 8-((a / 8*8:Nat):Int) / 8=(((f.bits+7) / 8-a / 8:Nat):Int) by omega]
 refine qV (ymi O O) ?_
 rw[show min (8:Int) (((f.bits+7) / 8-a / 8:Nat):Int)=((min 8 ((f.bits+7) / 8-a / 8):Nat):Int) by omega]
 obtain⟨n,hn⟩:∃n,n=min 8 ((f.bits+7) / 8-a / 8):=⟨_,rfl⟩
 rw[<-hn]
 have hg:=Ext.LC w
 refine Lk O$ run_seq$ N7 (λw'=>Kp (λk=>¬X k) w w') O$ qT 0 O (λ_ hS=>(by first|exact Lj Ui O O (hS.Lg hB (λe=>e hx)) O|exact Lj Ui O O (hS.Lg aq (λe=>e h3)) O)) (hg.kp) ?_
 refine Ll 1 O (Mo O) (hg.kp)$ Ll 2 O (LV Yo O) (hg.kp)$ qT 3 O (λ_ hS=>(by first|exact Lj z0t O O (hS.Lg hB (λe=>e hx)) O|exact Lj z0t O O (hS.Lg aq (λe=>e h3)) O)) (hg.kp) ?_
 refine qT 4 O (λ_ hS=>(by first|exact Lj Ui O O (hS.Lg hB (λe=>e hx)) O|exact Lj Ui O O (hS.Lg aq (λe=>e h3)) O)) (hg.kp) ?_
 refine Ll 5 O (Mo O) (hg.kp)$ Ll 6 O (LV O7 O) (hg.kp)$ LA 9 O O (hg.kp)$ Ll 10 O (SC O O (by omega)) (hg.kp)$ LA 12 O O (hg.kp)$ qT 7 O (λ_ hS=>LM (news:=fmC f) z0P O OW O ((hS.Lg hB (λe=>e hx)).cells (n:=4) O) O) (hg.kp)$ Ll 13 O (ze2 O) (hg.kp)$ LA 14 O O (hg.kp)$ OA 8 O z9D O (Zj f sE _) ?_
 rintro _ w1 ⟨rfl,ad⟩
 refine⟨(hg.trans ad).kp,?_⟩
 have bX:=hg.trans ad
 refine Ll 11 O (Qu O O (by omega)) ((hg.trans ad).kp) ?_
 rw[show(f.high:Int)+((a / 8*8:Nat):Int) / 8=((f.high+a / 8:Nat):Int) by omega]
 have lP:=R.ext hI bX (λk hk=> .inl hk)
 have kO:∀k,X k->k<w1.heap.size:=λk hk=>by have:=hX k hk;have:=bX.size;omega
 have sC:a / 8+n<=(LK (hiB f.width 0 0 l)).length:=by rw[eQ];omega
 have sD:f.high+a / 8+n<=(Uc l f).length:=by
  rw[aD];have e:f.size=f.Qv+4*((f.n+63) / 64):=rfl;have e2:f.Qv=f.high+(f.bits+7) / 8:=rfl;omega
 have kV:=za0 l f wh sC
 have nj:=z5f (H:=hiB f.width 0 0 l) (fq:=a / 8) (n:=n) (by omega) (by rw[<-bS];exact hn)
 refine qO 15$ RT (i:=15) O O O (yci R.cr R.mr O O) (R.rd (f.high+a / 8) n lP kO sD) ?_
 rintro _ w2 ⟨rfl,cP,ao⟩
 refine⟨bX.kp.trans ao,?_⟩
 rw[kV]
 have dC:Kp (λk=>¬X k) w w2:=bX.kp.trans ao
 have am:=dC.Lg hB (λe=>e hx)
 have cU:=dC.Lg aq (λe=>e h3)
 have sg:=dC.Lg cu (λe=>e h8)
 have C3:(((LK (hiB f.width 0 0 l)).drop (a / 8)).take n).length=n:=by rw[List.length_take,List.length_drop];omega
 generalize ((LK (hiB f.width 0 0 l)).drop (a / 8)).take n=pt at nj C3
 refine LA 16 O O (bX.kp.trans ao)$ Ll 17 O (Nq O O) (bX.kp.trans ao)$ Ll 18 O (Nq O O) (bX.kp.trans ao)$ Ll 19 O (Ni O) (bX.kp.trans ao)$ Ll 20 O (Ni O) (bX.kp.trans ao)$ qE$ LS.qb (e:=[(0,_),(1,_),(2,_),(4,_),(5,_),(6,_),(7,_),(8,_)]) ?_
 refine qN O$ Le O$ LD z2V O (Sf pt (by omega) w2) ?_
 rintro _ w3 ⟨rfl,ah⟩
 refine Le O$ qV (T6 O O (by omega))$ Np O O ?_
 rw[show(64:Int)-8*(n:Int)=((64-8*n:Nat):Int) by omega]
 refine qV (Na (64-8*n) (2^(64-8*n)) O O (by omega) O) ?_
 have C4:=ZW (LF pt) (64-8*n)
 rw[nj] at C4
 have HX:((hiB f.width 0 0 l).drop (8*(a / 8))++List.replicate 64 false).take 64=((hiB f.width 0 0 l).drop (8*(a / 8))++List.replicate 64 false).take 64:=rfl
 obtain⟨W0,wj⟩:∃W0,W0=((hiB f.width 0 0 l).drop (8*(a / 8))++List.replicate 64 false).take 64:=⟨_,rfl⟩
 have wk:W0.length=64:=by rw[wj,List.length_take,List.length_append,List.length_replicate];omega
 have Fs:=z5q (H:=hiB f.width 0 0 l) (a:=a) (by omega)
 rw[<-wj] at C4 Fs
 have ev:=z5d wk (d:=a%8) (by omega)
 rw[Fs] at ev
 have C5:=z32 wk
 rw[<-C4,Nat.mod_eq_of_lt C5]
 refine Ls O (MY QA O O O (ah.Lg sg) (by simp)) ?_
 rintro w4 ⟨eE,av⟩
 replace eE:Lq w4 b8 [Ly (valB W0)] 41:=eE
 have aF:=av.Lg (ah.Lg am) (λe=>rh.1 e.symm)
 have dg:=av.Lg (ah.Lg cU) (λe=>rh.2 e.symm)
 have jU:=R.own (R.ext cP ah (λk hk=> .inl hk)) av (λk e=>by rw[e];exact h8)
 have af:=Ext.LC w4
 refine Lf$ run_seq$ LH [6] (λw'=>Ext w4 w') (by kernel_rfl) O$ qL [5,6] 0 O (λ_ h=>Lj MP O O (h.Lg eE) O) af$ qL [3,4,5,6] 1 O (λ_ h=>M0 O) af$ qL [3,4,5,6] 2 O (λ_ h=>M0 O) af$ qL [4,5,6] 3 O (λ_ h=>SR O O (by omega)) af ?_
 rw[show(a:Int)-((a / 8*8:Nat):Int)=((a%8:Nat):Int) by omega]
 refine qL [5,6] 4 O (λ_ h=>Qg (m:=18446744073709551615) (a%8) (2^(a%8)) O O (by show a%8<=64;omega) O) af ?_
 rw[z4Z (d:=a%8) (by omega)]
 have HY:2^(64-a%8)<=2^64:=Nat.pow_le_pow_right (by decide) (by omega)
 refine qL [6] 5 O (λ_ h=>Qj O O (by omega) (by omega)) af ?_
 rw[Nat.and_two_pow_sub_one_eq_mod,ev]
 refine OY [6]$ qO 6$ M1 (i:=6) O O (MY QA O O O (af.Lg eE) (by simp)) ?_
 rintro w5 ⟨bI,ak⟩
 refine⟨trivial,?_⟩
 replace bI:Lq w5 b8 [Ly (valB (Za (hiB f.width 0 0 l) a))] 41:=bI
 have aI:=ak.Lg (af.Lg aF) (λe=>rh.1 e.symm)
 have cy:=ak.Lg (af.Lg dg) (λe=>rh.2 e.symm)
 have lq:=R.own (R.ext jU af (λk hk=> .inl hk)) ak (λk e=>by rw[e];exact h8)
 have ci:Kp (λk=>¬X k\/k=b8) w w5:=(((dC.Lv λk e=> .inl e).trans ah.kp).trans (av.Lv λk e=> .inr e)).trans (af.kp.trans (ak.Lv λk e=> .inr e))
 have C6:=z32 (z3C (hiB f.width 0 0 l) a)
 refine qE$ run_seq$ qN O$ Le O$ Mb O O$ qV ((by first|exact Lj Ui O O aI O|exact Lj Ui O O cy O)) ?_
 refine LU O$ Lt O7 O$ Lt TJ O$ qV ((by first|exact Lj U3 O O aI O|exact Lj U3 O O cy O)) ?_
 refine Np O O$ Lk O$ LS.qb (e:=[(2,_),(4,_),(8,_),(9,_)]) ?_
 refine qN O$ Le O$ MH O O$ Lf$ Lp O (λh0=>?_)$ λh0=>?_
 ·obtain⟨r,hr⟩:∃r,a / 8*8+64=f.bits+r:=⟨a / 8*8+64-f.bits,by omega⟩;obtain⟨q,hq⟩:=z6s (H:=hiB f.width 0 0 l) (a:=a) (r:=r) (by omega) (by omega);rw[show((a / 8*8:Nat):Int)+64-(f.bits:Int)=(r:Int) by omega];have hp:=Nat.two_pow_pos r
  have wo:valB (Za (hiB f.width 0 0 l) a) / 2^r*2^r%18446744073709551616=valB (Za (hiB f.width 0 0 l) a):=by
   rw[Nat.mod_eq_of_lt (Nat.lt_of_le_of_lt (Nat.div_mul_le_self _ _) C6),hq,Nat.mul_div_cancel _ hp]
  refine Li O$ qV (Lj MP O O bI O)$ Le O$ qV (Qg r (2^r) O O (by show r<=64;omega) O) ?_;refine Le O$ qV (Na r (2^r) O O (by omega) O) ?_;rw[wo];refine Ls O (MY QA O O O bI (by simp)) ?_;rintro w6 ⟨jV,aU⟩;refine qM O$ Le O$ Lk O$ Lh Tryz.func212 O ?_;exact⟨_,rfl,rfl,R.own lq aU (λk e=>by rw[e];exact h8),ci.trans (aU.Lv λk e=> .inr e),jV⟩
 ·refine py$ qN O$ Le O$ Lk O$ Lh Tryz.func212 O ?_;exact⟨_,rfl,rfl,lq,ci,bI⟩
theorem z0k:∀{W:List Bool} {k p:Nat},nth1 W k=some p->∃z r,W=List.replicate z false++true::r
 |true::W,k,p,h=>⟨0,W,rfl⟩
 | false :: W, k, p, h => by
   simp only[nth1,Option.map_eq_some_iff] at h;obtain⟨q,hq,-⟩:=h;obtain⟨z,r,e⟩:=z0k hq
   exact⟨z+1,r,by rw[e,List.replicate_succ];rfl⟩
 |[],k,p,h=>by simp[nth1] at h
theorem z1O (z:Nat)(r:List Bool)(k:Nat):nth1 (List.replicate z false++true::r) (k+1)=nth1 (List.replicate (z+1) false++r) k:=by
 rw[Q8,Q8,nth1,Option.map_map]
 congr 1
 funext j;show j+1+z=j+(z+1);omega
theorem z3K (z:Nat)(r:List Bool):nth1 (List.replicate z false++true::r) 0=some z:=by
 rw[Q8,nth1];simp
theorem z22 (z:Nat)(r:List Bool):Ma (valB (List.replicate z false++true::r))=r.length+1:=by
 rw[Tl]
 have:=N1 r
 exact z2R (by omega) (by rw[Nat.pow_succ];omega)
theorem Yf (n:Nat):(List.replicate n false).count true=0:=by
 rw[List.count_replicate];rfl
theorem XK (H:List Bool)(a:Nat):(Za H a).count true=((H.drop a).take (64-a%8)).count true:=by
 unfold Za
 rw[List.count_append,Yf,Nat.zero_add,List.take_append,List.count_append,List.take_replicate,Yf];omega
theorem z8d {W:List Bool}(h:W.length=64):(bitsN 64 (valB W)).count true=W.count true:=by
 have:=X7 W
 rw[h] at this
 rw[this]
theorem z8I {H:List Bool}{a k q:Nat}(h:nth1 (H.drop a) k=some q)(hk:k<(Za H a).count true):nth1 (Za H a) k=some (a%8+q):=by
 rw[XK] at hk
 have h1:=RZ ((H.drop a).take (64-a%8)) ((H.drop a).drop (64-a%8)) k
 rw[List.take_append_drop,if_pos hk,h] at h1
 unfold Za
 rw[Q8,List.take_append,RZ,if_pos hk,<-h1]
 show some (q+a%8)=_
 rw[Nat.add_comm]
theorem z4U {H:List Bool}{a k q:Nat}(h:nth1 (H.drop a) k=some q)(hk:(Za H a).count true<=k):64-a%8<=q/\nth1 (H.drop (a / 8*8+64)) (k-(Za H a).count true)=some (q-(64-a%8)):=by
 rw[XK] at hk⊢
 have h1:=RZ ((H.drop a).take (64-a%8)) ((H.drop a).drop (64-a%8)) k
 rw[List.take_append_drop,if_neg (by omega),h] at h1
 obtain⟨p,hp,HZ⟩:=Option.map_eq_some_iff.1 h1.symm
 have h2:=(VR hp).1
 rw[List.length_drop] at h2
 rw[List.length_take,Nat.min_eq_left (by omega)] at HZ
 rw[List.drop_drop,show a+(64-a%8)=a / 8*8+64 by omega] at hp
 exact⟨by omega,by rw[hp];congr 1;omega⟩
theorem z4r {t:TypeId}{u:Value}{l:List Nat}{f:Fm}{z:Nat}(he:QZ l f z)(R:Src t u (Uc l f)){X:Nat->Prop}{w:World}(hI:R.inv X w)(hX:∀k,X k->k<w.heap.size){x:Nat}(hx:X x)(hB:Lq w x (elC f t u) 294){p k q:Nat}(aN:k<=1000000)(hq:nth1 ((hiB f.width 0 0 l).drop p) k=some q):
  LP Tryz.prog 181 [ptr x 0,I (p:Int),I (k:Int)] w λr w'=>r= .tuple #[I ((p+q:Nat):Int),I 0]/\R.inv X w'/\Kp (λj=>¬X j) w w':=by
 have bS:=he.bits
 have eT:=he.small.2.2
 have f9:=hX x hx
 refine Lb (e:=[(0,_),(1,_),(2,_)]) Tryz.func181 O Tryz.ntmps181 O O$ qN O$ Lm O O (Nc O (cs:=[ptr x 0]) O) ?_
 rintro _ w1 ⟨b3,rfl,eB,ad,aq⟩
 refine Lw O$ Lw O$ qM O$ Lm O O (NJ (cs:=[_]) QA O) ?_
 rintro _ w2 ⟨b8,rfl,ja,ag,cu⟩
 have z1:=ad.size
 have z2:=ag.size
 have l3:=aq.lt
 have l8:=cu.lt
 have aA:=ad.trans ag
 have cP:R.inv (λj=>X j\/j=b3\/j=b8) w2:=R.ext hI aA (λj hj=>by rcases hj with e|e|e;exact .inl e;exact .inr (by omega);exact .inr (by omega))
 replace cu:Lq w2 b8 [Ly 0] 41:=cu
 refine qM O$ qV (Z9 (first:=[]) (caps:=[.tmp 3,.tmp 8]) O O)$ Lk O$ run_seq$ qN O$ Le O$ Lk O$ Lc$ Nj (α:=Nat×Nat×Nat×Nat) ((p,k,q,0)) (λy=>[(2,I (y.2.1:Int)),(3,ptr b3 0),(8,ptr b8 0),(9,.func (.func 212) #[] #[ptr b3 0,ptr b8 0]),(10,I (y.1:Int))]) (λy w'=>R.inv (λj=>X j\/j=b3\/j=b8) w'/\Kp (λj=>¬X j) w w'/\w2.heap.size<=w'.heap.size/\Lq w' x (elC f t u) 294/\Lq w' b3 [ptr x 0] 152/\Lq w' b8 [Ly y.2.2.2] 41/\nth1 ((hiB f.width 0 0 l).drop y.1) y.2.1=some y.2.2.1/\y.1+y.2.2.1=p+q/\y.2.1<=1000000) (λy=>f.bits-y.1) ?hI ?hround
 case hI=>exact⟨cP,aA.kp,Nat.le_refl _,aA.Lg hB,ag.Lg aq,cu,hq,rfl,aN⟩
 case hround =>
  rintro⟨a,k4,q4,v4⟩ w4 ⟨jU,av,Ft,aF,dg,eE,cz,Bp,wq⟩ ih;dsimp only at jU av Ft aF dg eE cz Bp wq;have wu:=(VR cz).1;rw[List.length_drop] at wu;have zv:a<f.bits:=by omega
  have C7:∀j,(X j\/j=b3\/j=b8)->j<w4.heap.size:=λj hj=>by
   rcases hj with e|e| e
   ·have:=hX j e;omega
   ·omega
   ·omega
  have er:Lq w4 x [I (f.n:Int),Ly f.u,I (f.width:Int),I (f.bits:Int),.iface t u] 294:=aF
  try dsimp only
  refine run_seq$ qN O$ Le O$ qV ((by first|exact Lj Ui O O dg O|exact Lj Ui O O er O)) ?_;refine LU O$ Lt O7 O$ Lt TJ O$ qV ((by first|exact Lj U3 O O dg O|exact Lj U3 O O er O)) ?_;refine Mw O O$ Lf$ Lp O (λh0=>?_)$ λh0=>?_
  ·refine py$ run_seq$ Lc$ run_seq$ qN O$ Lu O O$ MK O O (NW zbu O O) (z2k he R jU C7 (.inl hx) (.inr (.inl O)) (.inr (.inr O)) ⟨by omega,by omega⟩ aF dg eE zv) ?_;rintro _ w5 ⟨rfl,lq,ak,bI⟩;have z5:=ak.size;have ci:Kp (λj=>¬X j) w w5:=av.It ak (λj hj=>by rcases hj with e|e;exact .inr (λh=>e (.inl h));exact .inl (by omega));have aI:=ak.Lg aF (λe=>by rcases e with e|e;exact e (.inl hx);omega);have cy:=ak.Lg dg (λe=>by rcases e with e|e;exact e (.inr (.inl O));omega);have wv:=z3C (hiB f.width 0 0 l) a;have ww:=z32 wv;have zw:=z8d wv;have ot:=λh=>z8I (H:=hiB f.width 0 0 l) cz h;have Fu:=λh=>z4U (H:=hiB f.width 0 0 l) cz h
   generalize Za (hiB f.width 0 0 l) a=W at wv ww zw ot Fu bI
   have dt:W.count true<=64:=by rw[<-wv];exact List.count_le_length
   refine Lw O$ qM O$ Le O$ Mu O O$ Lf$ An O$ py$ run_seq$ qN O$ qV (Lj MP O O bI O)$ LD zbo O (z7y (valB W) ww w5) ?_;rintro _ w5 ⟨rfl,rfl⟩;rw[zw];refine Lw O$ qM O$ Lu O O$ zle O O$ Lf$ Lp O (λh1=>?_)$ λh1=>?_
   ·obtain⟨dU,cW⟩:=Fu (by omega);refine qN O$ Lu O O$ Np O O$ Lk O$ Ln O$ Li O$ Le O ?_;rw[show(k4:Int)-((W.count true:Nat):Int)=((k4-W.count true:Nat):Int) by omega];refine qV (zam O O (by omega))$ Mb O O$ Lk O ?_;rw[show((a / 8*8:Nat):Int)+64=((a / 8*8+64:Nat):Int) by omega];exact(ih (a / 8*8+64,k4-W.count true,q4-(64-a%8),valB W) _ ⟨lq,ci,by omega,aI,cy,bI,cW,by dsimp only;omega,by dsimp only;omega⟩ (by dsimp only;omega)).qb
   ·have yY:=ot (by omega);refine py$ run_seq$ Lc$ Nj (α:=List Bool×Nat) ((W,k4)) (λy=>[(2,I (y.2:Int)),(8,ptr b8 0),(10,I (a:Int))]) (λy w'=>R.inv (λj=>X j\/j=b3\/j=b8) w'/\Kp (λj=>¬X j) w w'/\Lq w' b8 [Ly (valB y.1)] 41/\y.1.length=64/\nth1 y.1 y.2=some (a%8+q4)/\y.2<=1000000) (λy=>y.2) ?hI ?hround
    case hI=>exact⟨lq,ci,bI,wv,yY,wq⟩
    case hround=>
     rintro⟨W6,k6⟩ w6 ⟨oM,aU,jV,kX,tZ,C8⟩ ih2;dsimp only at oM aU jV kX tZ C8;obtain⟨zz,r,rfl⟩:=z0k tZ;have u5:=z22 zz r;have I0:=Tl zz r;have jW:=N1 r;have wG:=z32 kX;rw[List.length_append,List.length_replicate,List.length_cons] at kX
     try dsimp only
     refine run_seq$ qN O$ Le O$ MH O O$ Lf$ Lp O (λh2=>?_)$ λh2=>?_
     ·obtain⟨k7,rfl⟩:∃k7,k6=k7+1:=⟨k6-1,by omega⟩;rw[z1O] at tZ;have dw:=Ext.LC w6;refine py$ run_seq$ Lc$ LH [6] (λw'=>Ext w6 w') (by kernel_rfl) O$ qL [5,6] 0 O (λ_ h=>Lj MP O O (h.Lg jV) O) dw$ qL [2,3,4,5,6] 1 O (λ_ h=>Lj MP O O (h.Lg jV) O) dw$ N4 (i:=2) (by kernel_rfl)$ ND (i:=2) O O O (yc z9O O) (z64 _ wG _) ?_;rintro _ w7 ⟨rfl,rfl⟩;refine⟨dw,?_⟩;rw[u5];refine qL [4,5,6] 3 O (λ_ h=>SR O O (by omega)) dw ?_;rw[show(63:Int)-((64-(r.length+1):Nat):Int)=(r.length:Int) by omega];refine qL [5,6] 4 O (λ_ h=>Na r.length (2^r.length) O O (by omega) O) dw ?_;have eQ:2^r.length<=2^63:=Nat.pow_le_pow_right (by decide) (by omega);rw[show 1*2^r.length%18446744073709551616=2^r.length by rw[Nat.one_mul];exact Nat.mod_eq_of_lt (by omega)];rw[I0];refine qL [6] 5 O (λ_ h=>zfF (by omega) jW O O O) dw$ OY [6]$ qO 6$ M1 (i:=6) O O (MY QA O O O (dw.Lg jV) (by simp)) ?_;rintro w8 ⟨sF,bB⟩;refine⟨trivial,?_⟩;replace sF:Lq w8 b8 [Ly (valB r)] 41:=sF;refine qE$ Ld$ Li O$ Le O$ Np O O$ Lk O ?_;rw[show((k7+1:Nat):Int)-1=(k7:Int) by omega];refine(ih2 (List.replicate (zz+1) false++r,k7) _ ⟨R.own (R.ext oM dw (λj hj=> .inl hj)) bB (λj e=> .inr (.inr e)),(aU.trans dw.kp).It bB (λj e=> .inl (by omega)),?_,?_,tZ,by dsimp only;omega⟩ (by dsimp only;omega)).qb
      ·dsimp only;rw[Y8];exact sF
      ·dsimp only;rw[List.length_append,List.length_replicate];omega
     ·have C9:k6=0:=by omega
      subst C9;rw[z3K] at tZ;have KH:zz=a%8+q4:=ML tZ;refine Ln O$ qN O$ Le O$ qV (zam O O (by omega))$ qV (Lj MP O O jV O)$ LD z9O O (z64 _ wG _) ?_;rintro _ w7 ⟨rfl,rfl⟩;rw[u5];refine Mb O O ?_;rw[show((a / 8*8:Nat):Int)+((64-(r.length+1):Nat):Int)=((p+q:Nat):Int) by omega];refine Lw O$ Lk O$ Lh Tryz.func181 O ?_;exact⟨_,rfl,rfl,R.ext oM (Ext.refl _) (λj hj=> .inl (.inl hj)),aU⟩
  ·omega
theorem z5J (l:List Nat)(f:Fm)(hf:f.Qv=12+(LK (O8 f.width l)).length+(LK (hiB f.width 0 0 l)).length)(h4:(LK (restB f.width l)).length=4):((Uc l f).drop f.Qv).take 4=LK (restB f.width l):=by
 have h:=piece (A:=LK (bitsN 32 f.n++bitsN 64 f.u)++LK (O8 f.width l)++LK (hiB f.width 0 0 l)) (B:=LK (restB f.width l)) (C:=[]) (off:=f.Qv) (n:=4) (o:=0) (by rw[List.length_append,List.length_append,show LK (bitsN 32 f.n++bitsN 64 f.u)=LK (OO f) from rfl,Qe,hf];omega) (by omega)
 have h2:((LK (restB f.width l)).drop 0).take 4=LK (restB f.width l):=by rw[List.drop_zero];exact List.take_of_length_le (by omega)
 rw[List.append_nil] at h
 exact h.trans h2
theorem z6P {k:Nat}{l:List Nat}{y:Nat}(h:l[0]? =some y)(hy:y<4294967296):valB (LF (LK (restB k l)))=y / 2^k/\(LK (restB k l)).length=4:=by
 obtain⟨r,rfl⟩:∃r,l=y::r:=by
  cases l with
  |nil=>simp at h
  |cons a r=>simp at h;subst h;exact⟨r,rfl⟩
 have hr:restB k (y::r)=bitsN 32 (y / 2^k):=rfl
 obtain⟨z,h1,h2,h3⟩:=O5 (bitsN 32 (y / 2^k))
 rw[bitsN_length] at h2
 have hz:z=0:=by omega
 rw[hr,h1,hz,List.replicate_zero,List.append_nil,Me,LY,bitsN_length]
 have:=Nat.div_le_self y (2^k)
 exact⟨Nat.mod_eq_of_lt (by omega),rfl⟩
theorem XD {t:TypeId}{u:Value}{l:List Nat}{f:Fm}{z:Nat}(he:QZ l f z)(R:Src t u (Uc l f)){X:Nat->Prop}{w:World}(hI:R.inv X w)(hX:∀k,X k->k<w.heap.size){x:Nat}(hx:X x)(hB:Lq w x (elC f t u) 294){i v:Nat}(hv:l[i]? =some v):
  LP Tryz.prog 143 [ptr x 0,I (i:Int)] w λr w'=>r= .tuple #[Ly v,I 0]/\R.inv X w'/\Kp (λj=>¬X j) w w':=by
 have cE:=(List.getElem?_eq_some_iff.1 hv).1
 have aD:=he.len
 have jc:=he.n2
 have oT:=he.n
 have um:=he.zb
 have tY:f.width<=30:=by rw[he.fe];exact UC (by omega)
 have sE:=he.small
 have qy:∀j y k y2,l[j]? =some y->l[k]? =some y2->j<=k->y<=y2:=λj y k y2 hj hk Ca=>by
  obtain⟨a1,a2⟩:=List.getElem?_eq_some_iff.1 hj;obtain⟨b1,b2⟩:=List.getElem?_eq_some_iff.1 hk;rcases Nat.lt_or_ge j k with h| h
  ·have:=List.pairwise_iff_getElem.1 he.nof j k a1 b1 h
   rwa [a2,b2] at this
  ·have e:j=k:=Nat.le_antisymm Ca h;subst e;rw[hj] at hk;cases hk;exact Nat.le_refl _
 have Ff:v<=z:=qy i v _ z hv he.last (by omega)
 obtain⟨y0,Cb⟩:∃y,l[0]? =some y:=⟨_,List.getElem?_eq_getElem (by omega)⟩
 have Cc:y0<=v:=qy 0 y0 i v Cb hv (Nat.zero_le _)
 obtain⟨I1,gP⟩:=z6P (k:=f.width) Cb (by omega)
 have I2:=z5J l f (by
  have e:f.Qv=f.high+(f.bits+7) / 8:=rfl
  rw[e,he.high,LY (hiB f.width 0 0 l),he.bits]) gP
 have cT:=W8 f.width l 0 0 0 y0 he.nof Cb (λy _=>Nat.zero_le _)
 have u7:=W8 f.width l 0 0 i v he.nof hv (λy _=>Nat.zero_le _)
 simp only[Nat.add_zero,Nat.sub_zero] at cT u7
 have fA:=UN (hiB f.width 0 0 l) 0 (y0 / 2^f.width) i cT
 rw[Nat.zero_add,u7] at fA
 have Fv:y0 / 2^f.width<=v / 2^f.width:=Nat.div_le_div_right Cc
 have qz:f.Qv+4<=(Uc l f).length:=by
  rw[aD];have e:f.size=f.Qv+4*((f.n+63) / 64):=rfl;rw[e,oT];omega
 have fm:f.Qv<=40000000:=by have:=he.size_le.1;rw[aD] at qz;omega
 replace hB:Lq w x [I (f.n:Int),Ly f.u,I (f.width:Int),I (f.bits:Int),.iface t u] 294:=hB
 refine Lb (e:=[(0,_),(1,_)]) Tryz.func143 O Tryz.ntmps143 O O$ qN O$ Lw O$ Lk O$ run_seq$ Lc$ qN O$ Le O$ qV (Ml Ui O O)$ Lk O$ An O$ qN O$ Le O$ Mw O O ?_
 refine M5$ Lu O O$ Le O$ LU O$ Lt O7 O$ Lt Ue O$ qV (Lj U3 O O hB O)$ Pa O O$ M5$ M8 O O$ Lk O$ An O$ py$ Ld ?_
 refine run_seq ?_
 have hg:=Ext.LC w
 refine N7 (λw'=>Kp (λk=>¬X k) w w') O$ LA 0 O O (hg.kp)$ Ll 1 O (Mo O) (hg.kp)$ Ll 2 O (LV Yo O) (hg.kp)$ qT 3 O (λ_ h=>Lj z0t O O (h.Lg hB (λe=>e hx)) O) (hg.kp)$ LA 4 O O (hg.kp)$ Ll 5 O (Mo O) (hg.kp)$ Ll 6 O (LV O7 O) (hg.kp)$ LA 9 O O (hg.kp)$ Ll 10 O (SC O O (by omega)) (hg.kp)$ Ll 11 O (T6 O O (by omega)) (hg.kp)$ qT 7 O (λ_ hS=>LM (news:=fmC f) z0P O OW O ((hS.Lg hB (λe=>e hx)).cells (n:=4) O) O) (hg.kp)$ Ll 13 O (ze2 O) (hg.kp)$ LA 14 O O (hg.kp) ?_
 refine OA 8 O z9i O (ZK f sE _) ?_
 rintro _ w1 ⟨rfl,ad⟩
 refine⟨(hg.trans ad).kp,?_⟩
 have bX:=hg.trans ad
 have lP:=R.ext hI bX (λk hk=> .inl hk)
 have kO:∀k,X k->k<w1.heap.size:=λk hk=>by have:=hX k hk;have:=bX.size;omega
 refine Ll 12 O (Qu O O (by omega)) ((hg.trans ad).kp) ?_
 rw[show(f.Qv:Int)+4*((i:Int) / 64)=((f.Qv:Nat):Int) by omega]
 refine qO 15$ RT (i:=15) O O O (yci R.cr R.mr O O) (R.rd f.Qv 4 lP kO qz) ?_
 rintro _ w2 ⟨rfl,cP,ao⟩
 refine⟨bX.kp.trans ao,?_⟩
 rw[I2]
 have dC:Kp (λk=>¬X k) w w2:=bX.kp.trans ao
 refine LA 16 O O (bX.kp.trans ao)$ Ll 17 O (Nq O O) (bX.kp.trans ao)$ Ll 18 O (Nq O O) (bX.kp.trans ao)$ Ll 19 O (Ni O) (bX.kp.trans ao)$ Ll 20 O (Ni O) (bX.kp.trans ao)$ qE$ LS.qb (e:=[(0,_),(1,_),(4,_),(5,_),(6,_),(7,_)]) ?_
 refine run_seq$ qN O$ Le O$ Mu O O$ Lf$ An O$ py$ qN O$ Lu O O$ LD z2V O (Sf (LK (restB f.width l)) (by omega) w2) ?_
 rintro _ w3 ⟨rfl,ah⟩
 rw[I1]
 have cA:Kp (λk=>¬X k) w w3:=dC.trans ah.kp
 have Ce:=R.ext cP ah (λk hk=> .inl hk)
 have oe:∀k,X k->k<w3.heap.size:=λk hk=>by have:=hX k hk;have:=cA.size;omega
 have aq:=cA.Lg hB (λe=>e hx)
 have I3:y0 / 2^f.width<=y0:=Nat.div_le_self _ _
 have I4:v / 2^f.width<=v:=Nat.div_le_self _ _
 have nZ:v / 2^f.width*2^f.width%18446744073709551616 |||v%2^f.width=v:=by
  have h1:=Nat.div_mul_le_self v (2^f.width);rw[Nat.mod_eq_of_lt (by omega),Nat.mul_comm,<-Nat.two_pow_add_eq_or_of_lt (Nat.mod_lt _ (Nat.two_pow_pos _))];exact Nat.div_add_mod v (2^f.width)
 have gZ:v%2^f.width<=v:=Nat.mod_le _ _
 generalize I5:v / 2^f.width=vq at fA Fv I4 nZ
 generalize y0 / 2^f.width=yq at fA Fv I3
 refine qV (M3 O MP U3 (by omega))$ Le O$ qV (yre O O (by omega)) ?_
 rw[show(i:Int)%64=(i:Int) by omega]
 refine LD ze6 O (z4r he R Ce oe hx aq (k:=i) (by omega) fA) ?_
 rintro _ w4 ⟨rfl,jU,av⟩
 rw[show yq+(vq+i-yq)=vq+i by omega]
 have jX:=cA.trans av
 have C7:∀k,X k->k<w4.heap.size:=λk hk=>by have:=hX k hk;have:=jX.size;omega
 have aF:=jX.Lg hB (λe=>e hx)
 refine Le O$ Mp O O$ Mp O O$ Lw O$ Lk O$ run_seq$ qN O$ Le O$ Mu O O$ Lf$ An O$ py$ qN O$ Lu O O ?_
 refine LD zdD O (z4V he R jU C7 hx aF hv) ?_
 rintro _ w5 ⟨rfl,lq,ak⟩
 have ci:=jX.trans ak
 have aI:=ci.Lg hB (λe=>e hx)
 have zo:=he.u
 refine Le O$ Mp O O$ Mp O O$ Lw O$ Lk O$ LS.qb (e:=[(0,_),(1,_),(4,_),(5,_),(7,_),(8,_),(9,_)]) ?_
 refine run_seq$ qN O$ Le O$ Mu O O$ Lf$ An O$ py$ qN O$ Lu O O$ Np O O ?_
 rw[show((vq+i:Nat):Int)-(i:Int)=(vq:Int) by omega]
 refine qV ((by first|exact Mc O U3 MP (by omega)|exact Ny O U3 MP)) ?_
 refine Le O$ LU O$ Lt O7 O$ Lt P5 O$ qV (Lj U3 O O aI O)$ qV (Na f.width (2^f.width) O O (by omega) O)$ Le O ?_
 have zx:=Nat.mod_lt (vq*2^f.width) (show 0<18446744073709551616 by decide)
 refine qV (Xi O O (by omega) (by omega)) ?_
 rw[nZ]
 refine Lk O$ run_seq$ qN O$ Lu O O$ Mw O O$ M5$ Lu O O$ Le O$ LU O$ Lt O7 O$ Lt z8p O$ qV (Lj MP O O aI O)$ Pa O O$ M5 ?_
 refine M8 O O$ Lf$ LS.qb (e:=[(4,_),(5,_),(10,_),(93,_)]) ?_
 refine An O$ py$ qN O$ Le O$ Lw O$ Lk O$ Lh Tryz.func143 O ?_
 exact⟨_,rfl,rfl,lq,ci⟩
theorem z7g (a b:Bytes)(w:World)(hl:(a++b).length<=100000000000):LP Tryz.prog 173 [S (a++b),S a] w λu w'=>u= .bool true/\w'=w:=by
 rw[List.length_append] at hl
 have j9:(a++b).length=a.length+b.length:=List.length_append
 have ht:(a++b).take a.length=a:=List.take_left
 refine Lb (e:=[(0,_),(1,_)]) Tryz.func173 O Tryz.ntmps173 O O$ qN O$ Lw O$ qM O$ Le O$ qV (RK U9 O)$ Le O$ qV (RK U9 O)$ Pa O O$ Ns$ Lu O O$ Le O$ qV (RK U9 O)$ qV (Zr U9 O O (by omega)) ?_
 refine Le O ?_
 rw[ht]
 refine qV (zey O O)$ Ns$ MU O O$ Lk O$ Lh Tryz.func173 O ?_
 exact⟨_,rfl,rfl,rfl⟩
theorem z6b (a b:Bytes)(w:World)(hl:(a++b).length<=100000000000):LP Tryz.prog 204 [S (a++b),S a] w λu w'=>u= .tuple #[S b,.bool true]/\w'=w:=by
 have j9:(a++b).length=a.length+b.length:=List.length_append
 have hd:(a++b).drop a.length=b:=List.drop_left
 refine Lb (e:=[(0,_),(1,_)]) Tryz.func204 O Tryz.ntmps204 O O$ qN O$ Lw O$ Lk O$ run_seq$ qN O$ Lu O O$ LD zch O (z7g a b w hl) ?_
 rintro _ w ⟨rfl,rfl⟩
 refine qV ((by first|exact Mh O|exact NL O)) ?_
 refine Lf$ An O$ py$ qN O$ Lu O O$ qV (RK U9 O)$ qV (Xg U9 O O (by omega)) ?_
 rw[hd]
 refine Lw O$ Lk O$ Lh Tryz.func204 O ?_
 exact⟨_,rfl,rfl,rfl⟩
theorem z1G (a b:Bytes)(w:World)(hl:(a++b).length<=100000000000):LP Tryz.prog 165 [S (a++b),S a] w λu w'=>u= .tuple #[S b,.bool true]/\w'=w:=by
 refine Lb (e:=[(0,_),(1,_)]) Tryz.func165 O Tryz.ntmps165 O O$ qN O$ Lw O$ Lw O$ qM O$ Lu O O$ LD zdl O (z6b a b w hl) ?_
 rintro _ w ⟨rfl,rfl⟩
 refine Mp O O$ Mp O O$ Lw O$ Lk O$ Lh Tryz.func165 O ?_
 exact⟨_,rfl,rfl,rfl⟩
theorem OJ {w:World}{r a b6 b7:Nat}{s:Bytes}(h:Py w r s a)(aR:Lq w b6 [ptr r 0] 158)(bJ:Lq w b7 [.bool false] 4)(h6:b6≠r/\b7≠r/\b6≠b7)(n v:Nat)(hn:n<=64)(hv:v<2^n)(jf:v<=134217728)(rest:List Bool)(hb:(LF s).drop a=bitsN n v++rest):
  LP Tryz.prog 166 [I (n:Int),ptr b6 0,ptr b7 0] w λu w'=>u=I (v:Int)/\Py w' r s (a+n)/\Lq w' b6 [ptr r 0] 158/\Lq w' b7 [.bool false] 4/\Kp (λk=>k=r\/k=b7) w w':=by
 have aD:a+n<=8*s.length:=by
  have e:=congrArg List.length hb;rw[List.length_drop,bitsT_length,List.length_append,bitsN_length] at e;have:=h.2.1;omega
 have pz:valB (((LF s).drop a).take n)=v:=by
  rw[hb,List.take_left' (by simp),Me];exact Nat.mod_eq_of_lt hv
 refine Lb (e:=[(0,_),(1,_),(2,_)]) Tryz.func166 O Tryz.ntmps166 O O$ qN O$ Lw O$ qM O$ qV (Lj Pn O O aR O)$ Le O$ LD ZO O (R6 h n hn) ?_
 rintro v1 w1 fj
 have fd:v1= .tuple #[Ly v,I 0]/\Py w1 r s (a+n)/\Kp (λk=>k=r) w w1:=by
  rcases fj with⟨-,e,h1,hk⟩|⟨e,-,-⟩
  ·rw[pz] at e;exact⟨e,h1,hk⟩
  ·omega
 obtain⟨rfl,h1,aN⟩:=fd
 have wH:=aN.Lg bJ h6.2.1
 have Cf:=aN.Lg aR h6.1
 refine Le O$ Mp O O$ Mp O O$ Lw O$ Lw O$ qM O$ qV (Lj U4 O O wH O)$ Lu O O$ Mu O O$ M8 O O$ Lu O O$ MH O O$ M5$ M8 O O ?_
 refine Ls O (MY Rz O O O wH (by simp)) ?_
 rintro w2 ⟨eh,ao⟩
 refine qM O$ Le O$ qV (Qj O O (by omega) (by omega)) ?_
 rw[show v&&&268435455=v from(Nat.and_two_pow_sub_one_eq_mod v 28).trans (Nat.mod_eq_of_lt (by omega))]
 refine qV (M3 O MP U3 (by omega))$ Lk O$ Lh Tryz.func166 O ?_
 exact⟨_,rfl,rfl,⟨ao.Lg h1.1 (λe=>h6.2.1 e.symm),h1.2⟩,ao.Lg Cf h6.2.2,eh,(aN.Lv λk e=> .inl e).trans (ao.Lv λk e=> .inr e)⟩
theorem OK {s:List Bool}{n v a:Nat}{rest:List Bool}(h:s.drop a=bitsN n v++rest):s.drop (a+n)=rest:=by
 rw[<-List.drop_drop,h,List.drop_left' (by simp)]
theorem z7T (h:PHd):LF (LK (Nh (Uo h)))=bitsN 32 h.n++(bitsN 32 h.m++(bitsN 8 h.p.LJ++(bitsN 8 h.p.chain++(bitsN 8 h.p.interval++(bitsN 8 h.p.zeta++(bitsN 32 h.p.most++(bitsN 64 h.bits++[]))))))):=by
 obtain⟨z,h1,h2,h3⟩:=O5 (Nh (Uo h))
 have hl:=Qf h
 have hz:z=0:=by omega
 rw[h1,hz,List.replicate_zero,List.append_nil]
 rfl
theorem z5r (h:PHd)(hh:h.My)(w:World):LP Tryz.prog 132 [S (hdT h)] w λu w'=>u= .tuple #[hdV h,I 0]/\Ext w w':=by
 obtain⟨g1,g2,g3,g4,g5⟩:=id hh
 obtain⟨q1,q2,q3⟩:=id g5
 obtain⟨r1,r2,r3,r4⟩:=id q1
 have r1':h.p.LJ<=16:=r1
 have r2':h.p.interval<=64:=by
  have:h.p.interval=0\/2<=h.p.interval/\h.p.interval<=64:=r2;omega
 have r4':h.p.zeta<=16:=r4
 have I6:=Sy h
 have pA:=z7T h
 rw[show LF (LK (Nh (Uo h)))=(LF (LK (Nh (Uo h)))).drop 0 from List.drop_zero.symm] at pA
 have eQ:(LK (Nh (Uo h))).length=24:=by rw[LY,Qf]
 refine Lb (e:=[(0,_)]) Tryz.func132 O Tryz.ntmps132 O O$ qN O$ Lm O O (NJ (cs:=[_,_,_,_,_,_,_,_]) Pz O) ?_
 rintro _ w1 ⟨b2,rfl,c6,ad,am⟩
 refine Lw O$ qM O$ Le O$ MK O O (yc (args:=[.tmp 11,.const (Value.string (⟨#[119,116,108,49]⟩))]) zc2 O) (z1G z2O (LK (Nh (Uo h))) _ (by rw[show z2O++LK (Nh (Uo h))=hdT h from rfl];omega)) ?_
 rintro _ w1 ⟨rfl,rfl⟩
 refine Le O$ Mp O O$ Mp O O$ Lw O$ Lk O$ run_seq$ qN O$ Le O$ qV ((by first|exact Mh O|exact NL O)) ?_
 refine Lu O O$ qV (RK U9 O)$ Mw O O$ M5$ M8 O O$ Lf$ An O$ py$ qN O$ Le O ?_
 generalize LK (Nh (Uo h))=pt at pA eQ
 refine LD z2H O (Sz pt (by omega) w1) ?_
 rintro _ w2 ⟨r,rfl,cH,ag,dP⟩
 refine Lm O O (NJ (cs:=[_]) XJ O) ?_
 rintro _ w3 ⟨b6,rfl,m7,ah,aR⟩
 refine Ls O (MY XJ O O O aR (by simp)) ?_
 rintro w4 ⟨pB,av⟩
 replace pB:Lq w4 b6 [ptr r 0] 158:=pB
 refine qM O$ Lm O O (NJ (cs:=[_]) Rz O) ?_
 rintro _ w5 ⟨b7,rfl,kW,aX,bJ⟩
 refine Ls O (MY Rz O O O bJ (by simp)) ?_
 rintro w6 ⟨pC,aU⟩
 replace pC:Lq w6 b7 [.bool false] 4:=pC
 have z1:=ad.size
 have z2:=ag.size
 have z3:=ah.size
 have z4:=av.size
 have z5:=aX.size
 have lr:=cH.1.lt
 have l6:=pB.lt
 have l2:=am.lt
 have sG:=aU.Lg (aX.Lg pB) (by omega)
 have kJ:Py w6 r pt 0:=⟨aU.Lg (aX.Lg (av.Lg (ah.Lg cH.1) (by omega))) (by omega),cH.2⟩
 have aO:Ext w1 w6:=(((ag.trans ah).It av (λi e=>by omega)).trans aX).It aU (λi e=>by omega)
 refine qM O$ qV (Z9 (first:=[]) (caps:=[.tmp 6,.tmp 7]) O O)$ Lw O$ qM O$ Le O$ MK O O (NW Ve O O) (OJ kJ sG pC ⟨by omega,by omega,by omega⟩ 32 h.n (by decide) (by omega) (by omega) _ pA) ?_
 rintro _ v0 ⟨rfl,Cg,wI,wJ,wK⟩
 have wL:=OK pA
 refine Le O$ MK O O (NW Ve O O) (OJ Cg wI wJ ⟨by omega,by omega,by omega⟩ 32 h.m (by decide) (by omega) (by omega) _ wL) ?_
 rintro _ v1 ⟨rfl,wM,wO,wP,wQ⟩
 have wR:=OK wL
 refine qV (O6 (cs:=[_,_,_,_,_,_,_,_]) Pz O z9t O O)$ Lm O O (NJ (cs:=[_,_,_,_,_,_,_,_]) Pz O) ?_
 rintro _ w7 ⟨b9,rfl,mz,cg,cM⟩
 have zv1:=wK.size
 have zv2:=wQ.size
 have z7:=cg.size
 have z6:=aU.size
 have l9:=cM.lt
 refine Ls O (M7 (news:=[I (h.n:Int),I (h.m:Int),I 0,I 0,I 0,I 0,I 0,I 0]) Pz O O O O cM (by simp)) ?_
 rintro w8 ⟨sH,bB⟩
 replace sH:Lq w8 b9 [I (h.n:Int),I (h.m:Int),I 0,I 0,I 0,I 0,I 0,I 0] 149:=sH
 have l7:=pC.lt
 have dy:Ext v1 w8:=cg.It bB (λi e=>by omega)
 have tG:Py w8 r pt (0+32+32):=⟨dy.Lg wM.1,wM.2⟩
 have il:=dy.Lg wO
 have Ch:=dy.Lg wP
 have o8:Kp (λk=>k=r\/k=b7) w6 w8:=(wK.trans wQ).trans dy.kp
 refine Lf$ LS.qb (e:=[(2,_),(3,_),(7,_),(8,_),(9,_)]) ?_
 refine qN O$ Le O$ MK O O (NW Ve O O) (OJ tG il Ch ⟨by omega,by omega,by omega⟩ 8 h.p.LJ (by decide) (by omega) (by omega) _ wR) ?_
 rintro _ v2 ⟨rfl,Ci,wS,wT,Cj⟩
 have wU:=OK wR
 refine Le O$ MK O O (NW Ve O O) (OJ Ci wS wT ⟨by omega,by omega,by omega⟩ 8 h.p.chain (by decide) (by omega) (by omega) _ wU) ?_
 rintro _ v3 ⟨rfl,Ck,wV,wW,Cl⟩
 have wX:=OK wU
 refine Le O$ MK O O (NW Ve O O) (OJ Ck wV wW ⟨by omega,by omega,by omega⟩ 8 h.p.interval (by decide) (by omega) (by omega) _ wX) ?_
 rintro _ v4 ⟨rfl,Cm,wY,wZ,Cn⟩
 have x7:=OK wX
 refine Le O$ MK O O (NW Ve O O) (OJ Cm wY wZ ⟨by omega,by omega,by omega⟩ 8 h.p.zeta (by decide) (by omega) (by omega) _ x7) ?_
 rintro _ v5 ⟨rfl,Co,x8,x9,Cp⟩
 have xa:=OK x7
 refine Le O$ MK O O (NW Ve O O) (OJ Co x8 x9 ⟨by omega,by omega,by omega⟩ 32 h.p.most (by decide) (by omega) (by omega) _ xa) ?_
 rintro _ v6 ⟨rfl,xc,xd,xe,Cq⟩
 have xh:=OK xa
 have iM:Kp (λk=>k=r\/k=b7) w8 v6:=(((Cj.trans Cl).trans Cn).trans Cp).trans Cq
 have Cr:=iM.Lg sH (by omega)
 refine qV (O6 (cs:=[_,_,_,_,_]) Nw O z8q O O)$ Lt Uj O$ Ls O (M7 (news:=QV h.p) Nw O O O O Cr (by simp)) ?_
 rintro w9 ⟨sI,aP⟩
 replace sI:Lq w9 b9 [I (h.n:Int),I (h.m:Int),I (h.p.LJ:Int),I (h.p.chain:Int),I (h.p.interval:Int),I (h.p.zeta:Int),I (h.p.most:Int),I 0] 149:=sI
 have tJ:Py w9 r pt (0+32+32+8+8+8+8+32):=⟨aP.Lg xc.1 (by omega),xc.2⟩
 have im:=aP.Lg xd (by omega)
 have Cs:=aP.Lg xe (by omega)
 refine qM O$ Le O$ MK O O (NW Ve O O) (OJ tJ im Cs ⟨by omega,by omega,by omega⟩ 64 h.bits (by decide) (by omega) (by omega) _ xh) ?_
 rintro _ v7 ⟨rfl,I7,Fw,xi,xj⟩
 have I8:=OK xh
 have Ct:=xj.Lg sI (by omega)
 refine Lt QC O$ Ls O (MY Md O O O Ct (by simp)) ?_
 rintro w10 ⟨kQ,ar⟩
 replace kQ:Lq w10 b9 (hdC h) 149:=kQ
 have xl:=ar.Lg xi (by omega)
 have xm:Kp (λk=>k=r\/k=b7\/k=b9) w6 w10:=((((o8.trans iM).Lv λk e=>by omega).trans (aP.Lv λk e=>by omega)).trans (xj.Lv λk e=>by omega)).trans (ar.Lv λk e=>by omega)
 have fW:Ext w1 w10:=aO.It xm (λk e=>by omega)
 refine Lf$ run_seq$ qN O$ qV (Lj U4 O O xl O)$ Le O$ qV (LM (news:=hdC h) z2q O Pz O (kQ.cells (n:=8) O) O)$ LD z6N O (T4 h hh _) ?_
 rintro _ w11 ⟨rfl,aQ⟩
 refine Mu O O$ M8 O O$ Lf$ LS.qb (e:=[(2,_),(3,_),(9,_),(51,_)]) ?_
 refine An O$ py$ qN O$ qV (LM (news:=hdC h) z2q O Pz O ((aQ.Lg kQ).cells (n:=8) O) O) ?_
 have xn:=(fW.trans aQ).Lg am
 refine Ls O (M7 (news:=hdC h) Pz O O O O xn (by simp)) ?_
 rintro w12 ⟨iX,aS⟩
 replace iX:Lq w12 b2 (hdC h) 149:=iX
 replace iX:Lq w12 b2 [I (h.n:Int),I (h.m:Int),I (h.p.LJ:Int),I (h.p.chain:Int),I (h.p.interval:Int),I (h.p.zeta:Int),I (h.p.most:Int),I (h.bits:Int)] 149:=iX
 refine Lk O$ LL Tryz.func132 (.cell z2q O Pz O (Lq.cells (n:=8) iX (news:=[_,_,_,_,_,_,_,_]) O) O (.tmp O .nil)) ?_
 exact⟨_,rfl,rfl,((ad.trans fW).trans aQ).It aS (λk e=>by omega)⟩
theorem z3T (h:PHd)(hh:h.My)(c6:h.n<=500)(w:World):LP Tryz.prog 133 [hdV h] w λu w'=>u= .tuple #[I ((28+(h.bits+7) / 8+(PE (h.n+1) (h.bits+1)).size:Nat):Int),I 0]/\Ext w w':=by
 obtain⟨g1,g2,g3,g4,g5⟩:=id hh
 have hs:=Z2 (n:=h.n+1) (u:=h.bits+1) (by omega) (by omega) (by omega) (by omega)
 have cF:(PE (h.n+1) (h.bits+1)).size<=40000000:=by
  have h2:=Fm.Sr hs;obtain⟨h3,h4,h5⟩:=hs;unfold Fm.size Fm.Qv;omega
 refine Lb (e:=[(0,_)]) Tryz.func133 O Tryz.ntmps133 O O$ qN O$ Lm O O (Nc O (cs:=hdC h) O) ?_
 rintro _ w1 ⟨b1,rfl,bR,ad,ai⟩
 replace ai:Lq w1 b1 [I (h.n:Int),I (h.m:Int),I (h.p.LJ:Int),I (h.p.chain:Int),I (h.p.interval:Int),I (h.p.zeta:Int),I (h.p.most:Int),I (h.bits:Int)] 149:=ai
 refine Lw O$ Lk O$ run_seq$ qN O$ qV (LM (news:=hdC h) z2q O Pz O (ai.cells (n:=8) O) O)$ LD z6N O (T4 h hh _) ?_
 rintro _ w2 ⟨rfl,ag⟩
 have bz:=ag.Lg ai
 refine Lw O$ qM O$ Le O$ Mu O O$ Lf$ An O$ py$ qN O$ Lt PR O$ qV (Lj U3 O O bz O)$ Mb O O$ Lt QC O$ qV (Lj U3 O O bz O)$ qV ((by first|exact Mc O U3 MP (by omega)|exact Ny O U3 MP)) ?_
 rw[show(h.n:Int)+1=((h.n+1:Nat):Int) by omega]
 refine LD zcS O (z27 (h.n+1) h.bits (by omega) (by omega) (by omega) _) ?_
 rintro _ w3 ⟨rfl,ah⟩
 have dp:=ah.Lg bz
 refine Le O$ qV (Nq (v:=I ((PE (h.n+1) (h.bits+1)).size:Int)) O O)$ qV (Nq (v:=I 0) O O) ?_
 generalize (PE (h.n+1) (h.bits+1)).size=q at cF
 refine Lw O$ Lw O$ qM O$ Lt QC O$ qV (Lj U3 O O dp O)$ Mb O O$ qV (SC O O (by omega))$ Mb O O$ Le O$ Mb O O$ Le O$ Lw O$ Lk O$ LS.qb (e:=[(2,_),(3,_)]) ?_
 refine Lh Tryz.func133 O (⟨_,rfl,?_,(ad.trans ag).trans ah⟩)
 show Value.tuple #[I (28+((h.bits:Int)+7) / 8+(q:Int)),I 0]= .tuple #[I ((28+(h.bits+7) / 8+q:Nat):Int),I 0]
 rw[show(28:Int)+((h.bits:Int)+7) / 8+(q:Int)=((28+(h.bits+7) / 8+q:Nat):Int) by omega]
section
variable {P:Program}{e:Env}{d:Option Nat}{ty t t':TypeId}{pos:String}{aft:Array Edge}{g:Option (Nat×Bool)}{x y:Operand}{w:World}
theorem z26 {f:FuncId}{name:String}{u:Value}(h:methT P t name=some f):(nilAhead (P.types.size+Made.depth) t u name).run P w= .ok (some false) w:=by
 rw[show P.types.size+Made.depth=P.types.size+(Made.depth-1)+1 from rfl]
 unfold methT at h
 split at h<;>try cases h
 rename_i i hi
 split at h<;>try cases h
 rename_i m hm
 split at h<;>try cases h
 rename_i f' pr iV iW
 have mV:i.methods.find? (·.name==name)=some m:=by rw[<-hm,Array.find?_toList]
 unfold nilAhead
 split at h<;>try cases h
 ·rename_i el hu
  cases pr<;>simp at h;subst h;simp[Pv hi,mV,iV,followBlind,iW]
 ·rename_i td Fo hu
  cases pr<;>simp at h;subst h;simp only[Sem.run_bind,Pv hi,Result.andThen_ok,mV,iV,followBlind,Sem.run_pure,iW,run_underlying hu];cases td<;>first|exact absurd rfl (Fo _)|rfl
theorem zcJ {td:TypeDesc}{v:Value}(ht:P.underlying t=some td)(hn:∀ms,td≠ .interface ms)(hx:look e x=some v):Y P e ⟨d,.makeInterface t x,ty,pos,aft,g⟩ (.iface t v) w w:=fun ρ hρ=>by
 simp only[execOp,hρ _ _ hx,Instr.makeInterface,Sem.run_bind,run_underlying ht,Result.andThen_ok]
 cases td<;>first|rfl|exact(hn _ rfl).elim
theorem ymm {nm:String}{v:Value}(hx:look e x=some v):Y P e ⟨d,.makeFunc (.method nm) #[x] #[],ty,pos,aft,g⟩ (.func (.method nm) #[v] #[]) w w:=fun ρ hρ=>by
 simp[execOp,hρ _ _ hx,Instr.makeFunc]
theorem zfv {f:FuncId}{nm:String}{tx:TypeId}{v:Value}(hm:methT P tx nm=some f)(hx:look e x=some (.func (.method nm) #[.iface tx v] #[])):Y P e ⟨d,.nilCheck x,ty,pos,aft,g⟩ (.func (.method nm) #[.iface tx v] #[]) w w:=fun ρ hρ=>by
 have hn:=z26 (w:=w) (u:=v) hm
 have rN:(program).run P w= .ok P w:=rfl
 simp[execOp,hρ _ _ hx,rN,hn]
end
def Vx (t:TypeId)(u:Value)(a n:Nat):Value:= .agg #[.iface t u,I (a:Int),I (n:Int)]
theorem Zf (t:TypeId)(u:Value)(a n:Nat)(w:World):LP Tryz.prog 281 [Vx t u a n] w λv w'=>v=I (n:Int)/\Ext w w':=by
 unfold Vx
 refine Lb (e:=[(0,_)]) Tryz.func281 O Tryz.ntmps281 O O$ qN O$ Lm O O (Nc O (cs:=[.iface t u,I (a:Int),I (n:Int)]) O) ?_
 rintro _ w1 ⟨b1,rfl,bR,ad,ai⟩
 refine Lw O$ qM O$ Lt YK O$ qV (Lj U3 O O ai O)$ Lk O$ Lh Tryz.func281 O ?_
 exact⟨_,rfl,rfl,ad⟩
theorem z1p {t:TypeId}{u:Value}{T:Bytes}(R:Src t u T){X:Nat->Prop}{w:World}(a n:Nat)(ou:a+n<=T.length)(hT:T.length<=100000000000)(off m:Nat)(hI:R.inv X w)(hX:∀k,X k->k<w.heap.size)(h:off+m<=n):
  LP Tryz.prog 282 [Vx t u a n,I (off:Int),I (m:Int)] w λv w'=>v= .tuple #[S ((((T.drop a).take n).drop off).take m),I 0]/\R.inv X w'/\Kp (λk=>¬X k) w w':=by
 have e:(((T.drop a).take n).drop off).take m=(T.drop (a+off)).take m:=by
  rw[List.drop_take,List.take_take,List.drop_drop,show min m (n-off)=m by omega]
 rw[e]
 unfold Vx
 refine Lb (e:=[(0,_),(1,_),(2,_)]) Tryz.func282 O Tryz.ntmps282 O O$ qN O$ Lm O O (Nc O (cs:=[.iface t u,I (a:Int),I (n:Int)]) O) ?_
 rintro _ w1 ⟨b1,rfl,bR,ad,ai⟩
 refine Lw O$ Lk O$ run_seq$ qN O$ Le O$ Mw O O$ Lu O O$ Mw O O$ M5$ M8 O O$ Lu O O$ Lt YK O$ qV (Lj U3 O O ai O)$ MH O O ?_
 refine M5$ M8 O O$ Lu O O$ Lt YK O$ qV (Lj U3 O O ai O)$ Le O$ Np O O$ MH O O$ M5$ M8 O O$ Lf$ LS.qb (e:=[(1,_),(2,_),(3,_),(6,_),(7,_),(27,_)]) ?_
 refine An O$ py$ qN O$ Lt z8A O$ qV (Lj z0t O O ai O)$ Lt z8D O$ qV (Lj U3 O O ai O)$ Le O$ Mb O O$ Le O ?_
 rw[show(a:Int)+(off:Int)=((a+off:Nat):Int) by omega]
 refine MK O O (yci R.cr R.mr O O) (R.rd (a+off) m (R.ext hI ad (λk hk=> .inl hk)) (λk hk=>by have:=hX k hk;have:=ad.size;omega) (by omega)) ?_
 rintro _ w2 ⟨rfl,cP,ao⟩
 refine Mp O O$ Mp O O$ Lw O$ Lk O$ Lh Tryz.func282 O ?_
 exact⟨_,rfl,rfl,cP,ad.kp.trans ao⟩
def z9F {t:TypeId}{u:Value}{T:Bytes}(R:Src t u T)(a n:Nat)(B:Bytes)(ou:a+n<=T.length)(hT:T.length<=100000000000)(hB:(T.drop a).take n=B):Src 251 (Vx t u a n) B where
 inv:=R.inv
 fl:=281
 fr:=282
 cl:=ze7
 cr:=zdy
 ml:=by kernel_rfl
 mr:=by kernel_rfl
 ext:=R.ext
 step:=R.step
 len:=fun {X w} h=>by
  have e:B.length=n:=by rw[<-hB,List.length_take,List.length_drop];omega
  rw[e];exact Zf t u a n w
 rd:=fun {X w} off m h hX ho=>by
  have e:B.length=n:=by rw[<-hB,List.length_take,List.length_drop];omega
  rw[<-hB];exact z1p R a n ou hT off m h hX (by omega)
def RB (p:Mq)(g:List (List Nat))(E:List (Nat×Nat)):PHd:=⟨g.length,Mv g,p,(MB p g E g.length).length⟩
def Xv (p:Mq)(g:List (List Nat))(E:List (Nat×Nat)):Fm:=PE (g.length+1) ((MB p g E g.length).length+1)
structure OH (p:Mq)(g:List (List Nat))(E:List (Nat×Nat)):Prop where
 My:p.My
 gr:Nu g
 n1:1<=g.length
 pk:z5W p g E
section
variable {p:Mq}{g:List (List Nat)}{E:List (Nat×Nat)}
theorem OH.head (h:OH p g E):(RB p g E).My:=by
 have hn:=h.gr.n
 have hb:=h.pk.bits
 have sA:=PB h.gr g.length
 rw[List.take_length] at sA
 exact⟨h.n1,(by show g.length<=_;omega),(by show Mv g<=_;omega),(by show(MB p g E g.length).length<=_;omega),h.My⟩
theorem OH.ef (h:OH p g E):QZ (RP p g E g.length) (Xv p g E) (MB p g E g.length).length:=by
 have hn:=h.gr.n
 have hb:=h.pk.bits
 have aD:=YS p g E g.length
 refine⟨by omega,by omega,z2T p g E g.length,?_,by omega,?_⟩
 ·rw[aD,Nat.add_sub_cancel];exact VN p g E (Nat.le_refl g.length)
 ·rw[aD];rfl
def RM (p:Mq)(g:List (List Nat))(E:List (Nat×Nat)):Nat:=28+((MB p g E g.length).length+7) / 8
theorem OH.len (h:OH p g E):(T3 p g E).length=RM p g E+(Xv p g E).size:=by
 unfold T3 RM
 rw[List.length_append,List.length_append,Sy,LY]
 have:=h.ef.len
 show _+(Uc (RP p g E g.length) (Xv p g E)).length=_
 rw[this]
theorem OH.small (h:OH p g E):(T3 p g E).length<=50000000/\40<=(T3 p g E).length:=by
 have h1:=h.ef.size_le
 have h2:=h.len
 have h3:=h.pk.bits
 unfold RM at h2
 omega
theorem z7F:((T3 p g E).drop 0).take 28=hdT (RB p g E):=by
 unfold T3
 rw[List.drop_zero,List.append_assoc,<-Sy (RB p g E)]
 exact List.take_left
theorem OH.index (h:OH p g E):((T3 p g E).drop (RM p g E)).take (Xv p g E).size=Uc (RP p g E g.length) (Xv p g E):=by
 have h1:(hdT (RB p g E)++LK (MB p g E g.length)).length=RM p g E:=by
  rw[List.length_append,Sy,LY];rfl
 have h2:=h.ef.len
 unfold T3
 show((hdT (RB p g E)++LK (MB p g E g.length)++Uc (RP p g E g.length) (Xv p g E)).drop _).take _=_
 rw[<-h1,List.drop_left,<-h2,List.take_length]
theorem z8F (h:OH p g E)(a n:Nat)(hn:8*(a+n)<=(MB p g E g.length).length+7):((T3 p g E).drop (28+a)).take n=((LK (MB p g E g.length)).drop a).take n:=by
 unfold T3
 exact piece (by rw[Sy]) (by rw[LY];omega)
end
def gwC (h:PHd)(t:TypeId)(u:Value)(x:Nat):List Value:=[I (h.n:Int),I (h.m:Int),I (h.p.LJ:Int),I (h.p.chain:Int),I (h.p.interval:Int),I (h.p.zeta:Int),I (h.p.most:Int),I (h.bits:Int),.iface t u,ptr x 0]
theorem z1W {t:TypeId}{u:Value}{p:Mq}{g:List (List Nat)}{E:List (Nat×Nat)}(hp:OH p g E)(R:Src t u (T3 p g E)){X:Nat->Prop}{w:World}(hI:R.inv X w)(hX:∀k,X k->k<w.heap.size):
  LP Tryz.prog 100 [.iface t u] w λv w'=>∃k x,v= .tuple #[ptr k 0,I 0]/\Lq w' k (gwC (RB p g E) t u x) 154/\Lq w' x (elC (Xv p g E) 251 (Vx t u (RM p g E) (Xv p g E).size)) 294/\w.heap.size<=x/\w.heap.size<=k/\x≠k/\R.inv (λj=>X j\/j=x\/j=k) w'/\Kp (λj=>¬X j) w w':=by
 have aD:=hp.len
 obtain⟨dU,cW⟩:=hp.small
 have hn:=hp.gr.n
 have cT:=hp.n1
 have qi:=hp.pk.bits
 have hg:=Ext.LC w
 have qA:=hp.head
 have xo:(RB p g E).bits=(MB p g E g.length).length:=rfl
 have KJ:RM p g E=28+((RB p g E).bits+7) / 8:=rfl
 have KK:(RB p g E).n=g.length:=rfl
 refine Lb (e:=[(0,_)]) Tryz.func100 O Tryz.ntmps100 O O$ qN O$ Lw O$ Lk O$ run_seq$ qN O$ Le O$ qV (z9E z0t O O)$ Lf$ An O$ py$ run_seq$ N7 (λw'=>R.inv X w'/\Kp (λk=>¬X k) w w') O$ LA 0 O O (⟨R.ext hI hg (λk hk=> .inl hk),hg.kp⟩) ?_
 refine LA 1 O O (⟨R.ext hI hg (λk hk=> .inl hk),hg.kp⟩)$ Ll 4 O (ymm O) (⟨R.ext hI hg (λk hk=> .inl hk),hg.kp⟩)$ Ll 5 O (zfv R.mr O) (⟨R.ext hI hg (λk hk=> .inl hk),hg.kp⟩)$ LA 6 O O (⟨R.ext hI hg (λk hk=> .inl hk),hg.kp⟩)$ qO 2$ RT (i:=2) O O O (yci R.cl R.ml O O) (R.len (R.ext hI hg (λk hk=> .inl hk))) ?_
 rintro _ w1 ⟨rfl,ad⟩
 refine⟨⟨R.ext hI (hg.trans ad) (λk hk=> .inl hk),(hg.trans ad).kp⟩,?_⟩
 have bX:=hg.trans ad
 rw[aD]
 refine Ll 3 O (ymi O O) (⟨R.ext hI (hg.trans ad) (λk hk=> .inl hk),(hg.trans ad).kp⟩) ?_
 rw[show min (28:Int) ((RM p g E+(Xv p g E).size:Nat):Int)=((28:Nat):Int) by omega]
 have lP:=R.ext hI bX (λk hk=> .inl hk)
 have kO:∀k,X k->k<w1.heap.size:=λk hk=>by have:=hX k hk;have:=bX.size;omega
 refine qO 7$ RT (i:=7) O O O (yci R.cr R.mr O O) (R.rd 0 28 lP kO (by omega)) ?_
 rintro _ w2 ⟨rfl,cP,ao⟩
 refine⟨⟨cP,bX.kp.trans ao⟩,?_⟩
 rw[z7F]
 have dC:Kp (λk=>¬X k) w w2:=bX.kp.trans ao
 have gq:∀k,X k->k<w2.heap.size:=λk hk=>by have:=kO k hk;have:=ao.size;omega
 refine LA 8 O O (⟨cP,bX.kp.trans ao⟩)$ Ll 9 O (Nq O O) (⟨cP,bX.kp.trans ao⟩)$ Ll 10 O (Nq O O) (⟨cP,bX.kp.trans ao⟩)$ Ll 11 O (Ni O) (⟨cP,bX.kp.trans ao⟩)$ Ll 12 O (Ni O) (⟨cP,bX.kp.trans ao⟩)$ qE$ run_seq$ qN O$ Le O$ Mu O O$ Lf$ An O$ py$ qN O ?_
 refine Le O$ LD zbP O (z5r (RB p g E) qA w2) ?_
 rintro _ w3 ⟨rfl,ah⟩
 refine Le O$ qV (Nq (v:=hdV (RB p g E)) O O)$ qV (Nq (v:=I 0) O O)$ Lm O O (NJ (cs:=[_,_,_,_,_,_,_,_]) Pz O) ?_
 rintro _ w4 ⟨b6,rfl,m7,ay,aR⟩
 refine Ls O (M7 (news:=hdC (RB p g E)) Pz O O O O aR (by simp)) ?_
 rintro w5 ⟨ep,ak⟩
 replace ep:Lq w5 b6 (hdC (RB p g E)) 149:=ep
 have cm:Ext w3 w5:=ay.It ak (λi e=>by omega)
 have ia:=ah.trans cm
 refine Lk O$ LS.qb (e:=[(0,_),(2,_),(3,_),(5,_),(6,_)]) ?_
 refine run_seq$ qN O$ Le O$ Mu O O$ Lf$ An O$ py$ run_seq$ qN O$ qV (LM (news:=hdC (RB p g E)) z2q O Pz O (ep.cells (n:=8) O) O)$ LD zbD O (z3T (RB p g E) qA (by show g.length<=_;omega) _) ?_
 rintro _ w6 ⟨rfl,aK⟩
 have ib:=ia.trans aK
 have oM:=R.ext cP ib (λk hk=> .inl hk)
 have sG:=aK.Lg ep
 refine Le O$ qV (Nq (v:=I ((RM p g E+(Xv p g E).size:Nat):Int)) O O)$ qV (Nq (v:=I 0) O O)$ Lw O$ Lw O$ qM O$ Le O$ Mu O O$ M5$ Lu O O$ Le O$ MK O O (yci R.cl R.ml O O) (R.len oM) ?_
 rintro _ w7 ⟨rfl,cg⟩
 rw[aD]
 have Cu:=ib.trans cg
 have pD:=cg.Lg sG
 refine Mu O O$ M5$ M8 O O ?_
 replace pD:Lq w7 b6 [I ((RB p g E).n:Int),I ((RB p g E).m:Int),I ((RB p g E).p.LJ:Int),I ((RB p g E).p.chain:Int),I ((RB p g E).p.interval:Int),I ((RB p g E).p.zeta:Int),I ((RB p g E).p.most:Int),I ((RB p g E).bits:Int)] 149:=pD
 refine Lf$ An O$ py$ qN O$ Lt QC O$ qV (Lj U3 O O pD O)$ Mb O O$ qV (SC O O (by omega))$ Mb O O ?_
 rw[show 28+((((RB p g E).bits:Nat):Int)+7) / 8=(RM p g E:Int) by omega]
 refine Lk O$ LS.qb (e:=[(0,_),(2,_),(3,_),(5,_),(6,_),(9,_)]) ?_
 refine qN O$ Lu O O$ Le O ?_
 have jh:=R.ext oM cg (λk hk=> .inl hk)
 refine MK O O (yci R.cl R.ml O O) (R.len jh) ?_
 rintro _ w8 ⟨rfl,dy⟩
 rw[aD]
 have iT:=Cu.trans dy
 have BZ:=R.ext jh dy (λk hk=> .inl hk)
 have il:=dy.Lg pD
 have z28:=iT.size
 refine Le O$ Np O O ?_
 rw[show((RM p g E+(Xv p g E).size:Nat):Int)-(RM p g E:Int)=((Xv p g E).size:Int) by omega]
 refine qV (O6 (cs:=[_,_,_]) zbZ O zcN O O)$ qV (zcJ zeA (λ_ h=>by cases h) rfl) ?_
 have lb6:=il.lt
 have I9:=R.ext (Y:=λk=>X k\/k=b6) cP iT (λk hk=>hk.imp id λe=>by have:=ah.size;omega)
 have lQ:∀k,(X k\/k=b6)->k<w8.heap.size:=λk hk=>by
  rcases hk with hk| e
  ·have:=gq k hk;have:=iT.size;omega
  ·omega
 refine LD zdU O (z1n hp.ef (z9F R (RM p g E) (Xv p g E).size (Uc (RP p g E g.length) (Xv p g E)) (by omega) (by omega) hp.index) (X:=λk=>X k\/k=b6) I9 lQ) ?_
 rintro _ w9 ⟨x,rfl,gt,hx,ji,aP⟩
 have im:=aP.Lg il (λhh=>hh (.inr O))
 have Cv:Kp (λk=>¬X k) w2 w9:=iT.kp.trans (aP.Lv λk hk e=>hk (.inl e))
 have z9:=aP.size
 refine Le O$ qV (Nq (v:=ptr x 0) O O)$ qV (Nq (v:=I 0) O O)$ Lw O$ Lk O$ run_seq$ Lc$ qN O$ Le O$ Mu O O$ Lk O$ An O$ run_seq ?_
 have io:=Ext.LC w9
 refine N7 (λw'=>Ext w9 w') O$ LA 0 O O (io)$ Ll 2 O (LV PR O) io$ qT 3 O (λ_ h=>Lj U3 O O (h.Lg im) O) io$ Ll 4 O (Qu O O (by omega)) io$ OA 1 O zcw O (z5e (io.Lg gt)) ?_
 rintro _ w10 ⟨rfl,rfl⟩
 refine⟨io,?_⟩
 rw[show(Xv p g E).n=(RB p g E).n+1 from rfl]
 refine Ll 5 O (yne O O) io$ Ll 6 O (Ni O) io$ qE$ LS.qb (e:=[(0,_),(2,_),(3,_),(6,_),(10,_),(69,_)]) ?_
 have gV:=io.Lg im
 have xq:=io.Lg gt
 refine Lp O (λh9=>?_)$ λh9=>?_
 ·exact absurd (by omega) h9
 ·refine py$ Ld$ qN O$ qV (LM (news:=hdC (RB p g E)) z2q O Pz O (Lq.cells (n:=8) gV O) O)$ Lu O O$ qV (O6 (cs:=[_,_,_,_,_,_,_,_,_,_]) zbf O zdp O O)$ Lm O O (Nc O (cs:=gwC (RB p g E) t u x) O) ?_;rintro _ w11 ⟨k,rfl,hk,aQ,aH⟩;refine Lw O$ Lk O$ Lh Tryz.func100 O ?_;have Cw:=io.trans aQ;have z02:=dC.size;have z28:=iT.size;have zdd:=io.size;have lbx:=xq.lt;refine⟨_,rfl,k,x,rfl,aH,Cw.Lg gt,by omega,by omega,by omega,R.ext ji Cw (λj hj=>?_),(dC.trans Cv).trans Cw.kp⟩;rcases hj with hj|hj|hj
  ·exact .inl (.inl (.inl hj))
  ·exact .inl (.inr hj)
  ·exact .inr (by omega)
structure Qs {t:TypeId}{u:Value}{p:Mq}{g:List (List Nat)}{E:List (Nat×Nat)}(R:Src t u (T3 p g E))(k x:Nat)(X:Nat->Prop)(w:World):Prop where
 ok:OH p g E
 Lg:Lq w k (gwC (RB p g E) t u x) 154
 ix:Lq w x (elC (Xv p g E) 251 (Vx t u (RM p g E) (Xv p g E).size)) 294
 xk:X k
 xx:X x
 inv:R.inv X w
 lt:∀j,X j->j<w.heap.size
 x1:X 0
 x2:X 1
 gam:Lq w 0 (Og .gamma) 260
 una:Lq w 1 (Og .unary) 260
section
variable {t:TypeId}{u:Value}{p:Mq}{g:List (List Nat)}{E:List (Nat×Nat)}{R:Src t u (T3 p g E)}{k x:Nat}{X Y S:Nat->Prop}{w w':World}
theorem Qs.grow (h:Qs R k x X w)(hx:Ext w w')(hY:∀j,Y j->X j\/(w.heap.size<=j/\j<w'.heap.size))(bY:∀j,X j->Y j):Qs R k x Y w':=
 ⟨h.ok,hx.Lg h.Lg,hx.Lg h.ix,bY _ h.xk,bY _ h.xx,R.ext h.inv hx (λj hj=>(hY j hj).imp id And.left),λj hj=>by
  rcases hY j hj with e| e
  ·have:=h.lt j e;have:=hx.size;omega
  ·exact e.2,bY _ h.x1,bY _ h.x2,hx.Lg h.gam,hx.Lg h.una⟩
theorem Qs.ext (h:Qs R k x X w)(hx:Ext w w'):Qs R k x X w':=h.grow hx (λj hj=> .inl hj) λj hj=>hj
theorem Qs.less (h:Qs R k x Y w)(bY:∀j,X j->Y j)(hk:X k)(hx:X x)(h1:X 0)(h2:X 1):Qs R k x X w:=
 ⟨h.ok,h.Lg,h.ix,hk,hx,R.ext h.inv (Ext.refl w) (λj hj=> .inl (bY j hj)),λj hj=>h.lt j (bY j hj),h1,h2,h.gam,h.una⟩
theorem Qs.step (h:Qs R k x X w)(hk:Kp S w w')(hS:∀j,S j->X j/\j≠k/\j≠x/\j≠0/\j≠1)(hY:∀j,Y j->X j\/(w.heap.size<=j/\j<w'.heap.size))(bY:∀j,X j->Y j):Qs R k x Y w':=
 ⟨h.ok,hk.Lg h.Lg (λe=>(hS _ e).2.1 O),hk.Lg h.ix (λe=>(hS _ e).2.2.1 O),bY _ h.xk,bY _ h.xx,R.step h.inv hk (λj hj=>(hS j hj).1) (λj hj=>(hY j hj).imp id And.left),λj hj=>by
  rcases hY j hj with e| e
  ·have:=h.lt j e;have:=hk.size;omega
  ·exact e.2,bY _ h.x1,bY _ h.x2,hk.Lg h.gam (λe=>(hS _ e).2.2.2.1 O),hk.Lg h.una (λe=>(hS _ e).2.2.2.2 O)⟩
theorem Qs.own (h:Qs R k x X w)(hk:Kp S w w')(hS:∀j,S j->X j/\j≠k/\j≠x/\j≠0/\j≠1):Qs R k x X w':=
 ⟨h.ok,hk.Lg h.Lg (λe=>(hS _ e).2.1 O),hk.Lg h.ix (λe=>(hS _ e).2.2.1 O),h.xk,h.xx,R.own h.inv hk (λj hj=>(hS j hj).1),λj hj=>by have:=h.lt j hj;have:=hk.size;omega,h.x1,h.x2,hk.Lg h.gam (λe=>(hS _ e).2.2.2.1 O),hk.Lg h.una (λe=>(hS _ e).2.2.2.2 O)⟩
theorem Qs.src (h:Qs R k x X w)(hk:Kp (λj=>¬X j) w w')(hI:R.inv X w'):Qs R k x X w':=
 ⟨h.ok,hk.Lg h.Lg (λe=>e h.xk),hk.Lg h.ix (λe=>e h.xx),h.xk,h.xx,hI,λj hj=>by have:=h.lt j hj;have:=hk.size;omega,h.x1,h.x2,hk.Lg h.gam (λe=>e h.x1),hk.Lg h.una (λe=>e h.x2)⟩
def Qs.R2 (R:Src t u (T3 p g E))(h:OH p g E):Src 251 (Vx t u (RM p g E) (Xv p g E).size) (Uc (RP p g E g.length) (Xv p g E)):=
 z9F R (RM p g E) (Xv p g E).size _ (by have:=h.len;omega) (by have:=h.small;omega) h.index
theorem Qs.cells (h:Qs R k x X w):Lq w k [I ((RB p g E).n:Int),I ((RB p g E).m:Int),I ((RB p g E).p.LJ:Int),I ((RB p g E).p.chain:Int),I ((RB p g E).p.interval:Int),I ((RB p g E).p.zeta:Int),I ((RB p g E).p.most:Int),I ((RB p g E).bits:Int),.iface t u,ptr x 0] 154:=h.Lg
theorem z8l (h:Qs R k x X w):LP Tryz.prog 34 [ptr k 0] w λv w'=>v=I (g.length:Int)/\w'=w:=by
 have hB:=h.cells
 refine Lb (e:=[(0,_)]) Tryz.func34 O Tryz.ntmps34 O O$ qN O$ Lk O$ run_seq$ qN O$ Le O$ qV (Ml Zl O O)$ Lf$ An O$ py$ qN O$ Le O$ LU O$ Lt Sh O ?_
 refine Lt PR O$ qV (Lj U3 O O hB O)$ Lk O$ Lh Tryz.func34 O ?_
 exact⟨_,rfl,rfl,rfl⟩
theorem Xh (h:Qs R k x X w){b v c:Nat}(hv:v<g.length)(hr:Rd w (.slice (some ⟨b,0,none⟩) 1 c) 1 1 [I (v:Int)]):LP Tryz.prog 66 [ptr k 0,.slice (some ⟨b,0,none⟩) 1 c] w λv w'=>v=I 0/\w'=w:=by
 have hB:=h.cells
 have hn:(RB p g E).n=g.length:=rfl
 refine Lb (e:=[(0,_),(1,_)]) Tryz.func66 O Tryz.ntmps66 O O$ qN O$ Lk O$ run_seq$ qN O$ Le O$ qV (Ml Zl O O)$ Lf$ An O$ py$ run_seq$ qN O$ Le O$ Nd N3 O ?_
 refine Le O$ Lf$ Lc$ Nj (α:=Nat) (0) (λi=>[(0,ptr k 0),(9,.slice (some ⟨b,0,none⟩) 1 c),(10,I 1),(11,I (i:Int))]) (λi w'=>w'=w/\i<=1) (λi=>1-i) ?hI ?hround
 case hI=>exact⟨rfl,Nat.zero_le _⟩
 case hround=>
  rintro i w2 ⟨rfl,hi⟩ ih
  try dsimp only
  refine qN O$ Mw O O$ Lf$ run_seq$ Lp O (λh0=>?_)$ λh0=>?_
  ·have jI:i=0:=by omega
   subst jI;refine py$ run_seq$ Lc$ qN O$ qV (M9 N3 Md O O (by omega))$ qV (LN U3 O O (Mn hr O))$ Lw O$ qM O$ Le O$ Mw O O$ M5$ Lu O O$ Le O$ LU O ?_;refine Lt Sh O$ Lt PR O$ qV (Lj U3 O O hB O)$ Pa O O$ M5$ M8 O O$ Lf$ An O$ py$ Ld$ Li O$ Mb O O$ Le O$ Lf ?_;exact(ih 1 _ ⟨rfl,by omega⟩ (by omega)).qb
  ·refine Ln O$ qN O$ Lk O$ Lh Tryz.func66 O ?_;exact⟨_,rfl,rfl,rfl⟩
theorem z5j {p:Mq}{g:List (List Nat)}{E:List (Nat×Nat)}{v a n:Nat}{s:Bytes}(hs:((LK (MB p g E g.length)).drop (a / 8)).take n=s)(ha:(MB p g E v).length=a)(hv:v<g.length)(hn:a+(T8 p g E v).length<=8*(a / 8+n)):∃rest,(LF s).drop (a%8)=T8 p g E v++rest:=by
 have iU:∃r,MB p g E g.length=MB p g E (v+1)++r:=by
  have key:∀d i,∃r,MB p g E (i+d)=MB p g E i++r:=λd i=>by
   induction d with
   |zero=>exact⟨[],by simp⟩
   | succ d ih =>
     obtain⟨r,hr⟩:=ih;exact⟨r++T8 p g E (i+d),by rw[<-Nat.add_assoc,OL,hr,List.append_assoc]⟩
  obtain⟨r,hr⟩:=key (g.length-(v+1)) (v+1);rw[show v+1+(g.length-(v+1))=g.length by omega] at hr;exact⟨r,hr⟩
 obtain⟨r,hr⟩:=iU
 obtain⟨z,hz,-,-⟩:=O5 (MB p g E g.length)
 rw[<-hs,Q7,Po,hz,hr,OL,List.drop_take,List.drop_drop,show 8*(a / 8)+a%8=a by omega,List.append_assoc,List.append_assoc,List.drop_left' ha,List.take_append,List.take_of_length_le (by omega)]
 exact⟨_,rfl⟩
theorem z2u (h:Qs R k x X w){v:Nat}(hv:v<g.length):LP Tryz.prog 105 [ptr k 0,I (v:Int)] w λr w'=>∃(b a e:Nat) (s:Bytes) (rest:List Bool),r= .tuple #[ptr b 0,I (e:Int),I 0]/\Py w' b s a/\(LF s).drop a=T8 p g E v++rest/\a+(T8 p g E v).length=e/\w.heap.size<=b/\Qs R k x (λj=>X j\/j=b) w'/\Kp (λj=>¬X j) w w':=by
 have hn:=h.ok.gr.n
 have qi:=h.ok.pk.bits
 have hB:=h.cells
 have Cy:=VN p g E (n:=g.length) (i:=v) (by omega)
 have xt:=VN p g E (n:=g.length) (i:=v+1) (by omega)
 have oq:=Su p g E (g.length-(v+1)) (v+1)
 rw[show v+1+(g.length-(v+1))=g.length by omega] at oq
 have en:=OL p g E v
 have kM:=congrArg List.length en
 rw[List.length_append] at kM
 refine Lb (e:=[(0,_),(1,_)]) Tryz.func105 O Tryz.ntmps105 O O$ qN O$ Lw O$ Lw O$ Lw O$ qM O$ Le O$ LU O$ Lt z33 O$ qV (Lj Ui O O hB O)$ Le O$ LD z9a O (XD h.ok.ef (Qs.R2 R h.ok) h.inv h.lt h.xx h.ix Cy) ?_
 rintro _ w1 ⟨rfl,lP,aN⟩
 have h1:=h.src aN lP
 have ai:=h1.cells
 refine Le O$ Mp O O$ Mp O O$ Lw O$ Lk O$ run_seq$ qN O$ Le O$ Mu O O$ Lf$ An O$ py$ qN O$ Le O ?_
 refine LU O$ Lt z33 O$ qV (Lj Ui O O ai O)$ Le O$ Mb O O ?_
 rw[show(v:Int)+1=((v+1:Nat):Int) by omega]
 refine LD z9a O (XD h1.ok.ef (Qs.R2 R h1.ok) h1.inv h1.lt h1.xx h1.ix xt) ?_
 rintro _ w2 ⟨rfl,cP,ao⟩
 have h2:=h1.src ao cP
 have am:=h2.cells
 have dC:=aN.trans ao
 obtain⟨al,zv⟩:∃n,(MB p g E v).length=n:=⟨_,rfl⟩
 obtain⟨bl,eT⟩:∃n,(MB p g E (v+1)).length=n:=⟨_,rfl⟩
 rw[zv,eT]
 have xo:(RB p g E).bits=(MB p g E g.length).length:=rfl
 refine Le O$ Mp O O$ Mp O O$ Lw O$ Lk O$ LS.qb (e:=[(0,_),(4,_),(5,_),(6,_),(7,_),(8,_),(9,_)]) ?_
 refine run_seq$ Lc$ qN O$ Le O$ Mu O O$ Lk O$ An O$ qN O$ Lu O O$ MH O O$ M5$ Lu O O$ Le O$ LU O ?_
 refine Lt Sh O$ Lt QC O$ qV (Lj U3 O O am O)$ qV ((by first|exact Mc O U3 MP (by omega)|exact Ny O U3 MP)) ?_
 refine MH O O$ M5$ M8 O O$ Lk O$ An O$ py$ Ld$ qN O$ Le O$ qV (zcM O O O (by simp only[IntKind.bits];omega) (by omega)) ?_
 refine qV (M3 O MP U3 (by omega))$ Lk O$ LS.qb (e:=[(0,_),(4,_),(5,_),(6,_),(7,_),(8,_),(9,_),(10,_)]) ?_
 refine qN O$ Le O$ LU O$ Lt z7Q O$ qV (Lj z0t O O am O)$ Le O$ Mb O O$ Le O$ qV (QD O O)$ qV (M3 O MP U3 (by omega))$ qV (SC O O (by omega))$ Le O$ Np O O ?_
 have zu:28+al / 8+((bl+7) / 8-al / 8)<=(T3 p g E).length:=by have:=h.ok.len;unfold RM at this;omega
 rw[show 28+((al / 8:Nat):Int)=((28+al / 8:Nat):Int) by omega]
 rw[show((((bl+7)%18446744073709551616:Nat):Int)) / 8-((al / 8:Nat):Int)=(((bl+7) / 8-al / 8:Nat):Int) by omega]
 refine MK O O (yci R.cr R.mr O O) (R.rd (28+al / 8) ((bl+7) / 8-al / 8) h2.inv h2.lt zu) ?_
 rintro _ w3 ⟨rfl,Ce,ax⟩
 have h3:=h2.src ax Ce
 rw[z8F h.ok (al / 8) ((bl+7) / 8-al / 8) (by omega)]
 obtain⟨s,hs⟩:∃s,((LK (MB p g E g.length)).drop (al / 8)).take ((bl+7) / 8-al / 8)=s:=⟨_,rfl⟩
 rw[hs]
 refine Le O$ Mp O O$ Mp O O$ Lw O$ Lk O$ LS.qb (e:=[(4,_),(5,_),(6,_),(7,_),(8,_),(9,_),(10,_),(11,_)]) ?_
 refine run_seq$ qN O$ Le O$ Mu O O ?_
 have fm:s.length=(bl+7) / 8-al / 8:=by
  rw[<-hs,List.length_take,List.length_drop,LY];omega
 obtain⟨rest,nn⟩:∃rest,(LF s).drop (al%8)=T8 p g E v++rest:=z5j hs zv hv (by omega)
 refine Lf$ An O$ py$ qN O$ Le O$ LD z2H O (Sz s (by omega) w3) ?_
 rintro _ w4 ⟨b,rfl,fE,ay,hb⟩
 have lb:=fE.1.lt
 have h4:Qs R k x (λj=>X j\/j=b) w4:=h3.grow ay (λj hj=>hj.imp id λe=>by omega) (λj hj=> .inl hj)
 have ft:¬X b:=λe=>by have:=h3.lt b e;omega
 refine Lw O$ qM O$ Lu O O$ qV (M3 O MP U3 (by omega))$ Le O$ qV (T6 O O (by omega))$ Np O O ?_
 rw[show(al:Int)-8*((al / 8:Nat):Int)=((al%8:Nat):Int) by omega]
 refine LD z5y O (Ux fE (al%8) (by omega)) ?_
 rintro _ w5 ⟨rfl,rk,ak⟩
 have h5:=h4.own ak (λj e=>by
  subst e
  exact⟨.inr O,λe=>ft (e▸h.xk),λe=>ft (e▸h.xx),λe=>ft (e▸h.x1),λe=>ft (e▸h.x2)⟩)
 refine qM O$ Lu O O$ qV (M3 O MP U3 (by omega))$ Le O$ qV (T6 O O (by omega))$ Np O O ?_
 rw[show(bl:Int)-8*((al / 8:Nat):Int)=((bl-8*(al / 8):Nat):Int) by omega]
 refine Lw O$ Lw O$ Lk O$ LS.qb (e:=[(4,_),(5,_),(6,_)]) ?_
 refine Lh Tryz.func105 O ?_
 have z03:=(dC.trans ax).size
 exact⟨_,rfl,b,al%8,bl-8*(al / 8),s,rest,rfl,rk,nn,by omega,by omega,h5,((dC.trans ax).trans ay.kp).It ak (λj e=> .inl (by omega))⟩
end
def Lo (g:List (List Nat))(v:Nat):List Nat:=(g[v]?).getD []
def LR (g:List (List Nat))(E:List (Nat×Nat))(v:Nat):Nat:=if Lo g v=[] then 0 else((E[v]?).getD (0,0)).1
def OX (p:Mq)(g:List (List Nat))(E:List (Nat×Nat))(v:Nat):List (Cd×Nat):=if Lo g v=[] then [] else Qh p.list v (Lo g v) (MG g v (LR g E v)) (LR g E v)
theorem z3O (p:Mq)(g:List (List Nat))(E:List (Nat×Nat))(v:Nat):T8 p g E v=LG (MC p.list (Lo g v).length (LR g E v))++LG (OX p g E v):=by
 unfold T8 OX LR
 rw[<-Oa]
 by_cases h:Lo g v=[]
 ·have h':(g[v]?).getD []=[]:=h;rw[if_pos h,if_pos h,h',h]
  rfl
 ·rw[if_neg h,if_neg h];have:=Wa p.list v (ref:=MG g v ((E[v]?).getD (0,0)).1) ((E[v]?).getD (0,0)).1 h;rw[<-this];rfl
section
variable {t:TypeId}{u:Value}{p:Mq}{g:List (List Nat)}{E:List (Nat×Nat)}{R:Src t u (T3 p g E)}{k x:Nat}{X Y S:Nat->Prop}{w w':World}
theorem OH.ent (h:OH p g E){v:Nat}(hv:v<g.length):Vw p g E v (Lo g v).length ((E[v]?).getD (0,0)):=by
 have hl:=h.pk.el
 obtain⟨e,he⟩:∃e,E[v]? =some e:=⟨_,List.getElem?_eq_getElem (by omega)⟩
 have:=h.pk.ok.ent v e he
 rw[he];exact this
theorem OH.Yq (h:OH p g E){v:Nat}(hv:v<g.length):LR g E v<=p.LJ/\LR g E v<=v:=by
 unfold LR
 split
 ·omega
 ·rcases h.ent hv with e| e
  ·rw[e];exact⟨Nat.zero_le _,Nat.zero_le _⟩
  ·exact⟨e.2.1,e.2.2.1⟩
theorem OH.suc (h:OH p g E){v:Nat}(hv:v<g.length):LZ (Lo g v)/\(Lo g v).length<=g.length/\∀y∈Lo g v,y<g.length:=by
 have hm:Lo g v∈g:=by
  unfold Lo;rw[List.getElem?_eq_getElem hv];exact List.getElem_mem hv
 exact⟨h.gr.ok _ hm,h.gr.len hm,h.gr.lt _ hm⟩
theorem Wl (h:Qs R k x X w){v:Nat}(hv:v<g.length):LP Tryz.prog 67 [ptr k 0,I (v:Int)] w λr w'=>∃(b a:Nat) (s:Bytes) (rest:List Bool),r= .tuple #[.agg #[I ((Lo g v).length:Int),I (LR g E v:Int)],ptr b 0,I ((a+(LG (OX p g E v)).length:Nat):Int),I 0]/\Py w' b s a/\(LF s).drop a=LG (OX p g E v)++rest/\w.heap.size<=b/\Qs R k x (λj=>X j\/j=b) w'/\Kp (λj=>¬X j) w w':=by
 have hn:=h.ok.gr.n
 obtain⟨dU,cW,ob⟩:=h.ok.suc hv
 have gp:=h.ok.Yq hv
 have pp:=z3O p g E v
 have xu:(Lo g v).length=0->LR g E v=0:=λe=>by unfold LR;rw[if_pos (List.eq_nil_of_length_eq_zero e)]
 refine Lb (e:=[(0,_),(1,_)]) Tryz.func67 O Tryz.ntmps67 O O$ qN O$ Lm O O (NJ (cs:=[_,_]) NS O) ?_
 rintro _ w1 ⟨b4,rfl,gn,ad,aF⟩
 have l4:=aF.lt
 have h1:Qs R k x (λj=>X j\/j=b4) w1:=h.grow ad (λj hj=>hj.imp id λe=>by omega) (λj hj=> .inl hj)
 have ay:∀j,X j->j≠b4:=λj hj e=>by have:=h.lt j hj;omega
 refine Lw O$ Lw O$ Lw O$ qM O$ Lu O O$ LD zdE O (z2u h1 hv) ?_
 rintro _ w2 ⟨b,a,e,s,rest,rfl,cH,hd,he,hb,h2,ao⟩
 have bD:=ao.Lg aF (λe=>e (.inr O))
 have Ia:=h2.cells
 have lb:=cH.1.lt
 have ft:∀j,X j->j≠b:=λj hj e=>by have:=h.lt j hj;have:=ad.size;omega
 have me:∀j,j=b->(X j\/j=b4)\/j=b:=λj e=> .inr e
 refine Le O$ qV (Nq (v:=ptr b 0) O O)$ qV (Nq (v:=I (e:Int)) O O)$ qV (Nq (v:=I 0) O O)$ Lw O$ Lw O$ Lk O$ run_seq$ qN O$ Le O$ Mu O O$ Lf$ An O$ py ?_
 refine qN O$ Lu O O$ LU O$ Lt Sh O$ Lt Uj O$ qV (LM (news:=QV p) Wq O Nw O (Lq.cells (i:=2) (n:=5) Ia O) O)$ LD WM O (OI p w2) ?_
 rintro _ w3 ⟨rfl,ah⟩
 have h3:=h2.ext ah
 have kP:Py w3 b s a:=⟨ah.Lg cH.1,cH.2⟩
 rw[pp,List.append_assoc] at hd
 refine LD z9U O (XI kP p.list h.ok.My.1 h3.gam h3.una (λe=>ft 0 h.x1 e) (λe=>ft 1 h.x2 e) (Lo g v).length (LR g E v) (by omega) gp.1 xu _ hd) ?_
 rintro _ w4 ⟨rfl,fE,av⟩
 have Fa:=O3 hd
 have h4:=h3.own av (λj e=>⟨.inr e,λe'=>ft k h.xk (e'▸e),λe'=>ft x h.xx (e'▸e),λe'=>ft 0 h.x1 (e'▸e),λe'=>ft 1 h.x2 (e'▸e)⟩)
 have cw:=av.Lg (ah.Lg bD) (λe=>by omega)
 have fm:=congrArg List.length pp
 rw[List.length_append] at fm
 refine Le O$ qV (Nq (v:= .agg #[I ((Lo g v).length:Int),I (LR g E v:Int)]) O O)$ qV (Nq (v:=I 0) O O)$ Lm O O (NJ (cs:=[_,_]) NS O) ?_
 rintro _ w5 ⟨b11,rfl,iL,aX,aH⟩
 refine Ls O (M7 (news:=[I ((Lo g v).length:Int),I (LR g E v:Int)]) NS O O O O aH (by simp)) ?_
 rintro w6 ⟨nq,aU⟩
 replace nq:Lq w6 b11 [I ((Lo g v).length:Int),I (LR g E v:Int)] 157:=nq
 have cO:Ext w4 w6:=aX.It aU (λj e=>by omega)
 have h6:=h4.ext cO
 have kJ:Py w6 b s (a+(LG (MC p.list (Lo g v).length (LR g E v))).length):=⟨cO.Lg fE.1,fE.2⟩
 refine Lk O$ LS.qb (e:=[(4,_),(5,_),(6,_),(7,_),(8,_),(9,_),(10,_),(11,_)]) ?_
 refine run_seq$ qN O$ Le O$ Mu O O$ M5$ Lu O O$ LD Tu O (PO kJ) ?_
 rintro _ w6 ⟨rfl,rfl⟩
 refine Le O$ MH O O$ M5$ M8 O O$ Lf$ An O$ py$ qN O$ qV (LM (news:=[I ((Lo g v).length:Int),I (LR g E v:Int)]) ZS O NS O (Lq.cells (n:=2) nq O) O)$ Lu O O ?_
 have bQ:=cO.Lg cw
 refine Ls O (M7 (news:=[I ((Lo g v).length:Int),I (LR g E v:Int)]) NS O O O O bQ (by simp)) ?_
 rintro w7 ⟨bj,aC⟩
 replace bj:Lq w7 b4 [I ((Lo g v).length:Int),I (LR g E v:Int)] 157:=bj
 have h7:=(h6.own aC (λj e=>⟨.inl (.inr e),λe'=>ay k h.xk (e'▸e),λe'=>ay x h.xx (e'▸e),λe'=>ay 0 h.x1 (e'▸e),λe'=>ay 1 h.x2 (e'▸e)⟩)).less (X:=λj=>X j\/j=b) (λj hj=>hj.imp .inl id) (.inl h.xk) (.inl h.xx) (.inl h.x1) (.inl h.x2)
 have Ib:Py w7 b s (a+(LG (MC p.list (Lo g v).length (LR g E v))).length):=⟨aC.Lg kJ.1 (by omega),kJ.2⟩
 refine Lw O$ Lw O$ Lk O$ LL Tryz.func67 (.cell ZS O NS O (Lq.cells (n:=2) bj (news:=[_,_]) O) O (.tmp O (.tmp O (.tmp O .nil)))) (⟨_,rfl,b,a+(LG (MC p.list (Lo g v).length (LR g E v))).length,s,rest,?_,Ib,Fa,by have:=ad.size;omega,h7,?_⟩)
 ·rw[show a+(LG (MC p.list (Lo g v).length (LR g E v))).length+(LG (OX p g E v)).length=e by omega]
  rfl
 ·have o8:Kp (λj=>¬X j) w w4:=((ad.kp.trans (ao.Lv λj e e'=>e (.inl e'))).trans ah.kp).It av (λj e=> .inl (by have:=ad.size;omega));exact(o8.trans cO.kp).It aC (λj e=> .inl (by omega))
end
section
variable {t:TypeId}{u:Value}{p:Mq}{g:List (List Nat)}{E:List (Nat×Nat)}{R:Src t u (T3 p g E)}{k x gb pb fb:Nat}{X Y S:Nat->Prop}{w w':World}
abbrev Zu (w:World)(vv:Value)(l:List Nat):Prop:=Sl w vv 46 1 l.length (l.map LO)
def Pt (E:List (Nat×Nat))(v:Nat):Nat:=((E[v]?).getD (0,0)).2
structure TdM (R:Src t u (T3 p g E))(k x gb pb fb:Nat)(X:Nat->Prop)(w:World):Prop where
 gw:Qs R k x X w
 bg:Lq w gb [ptr k 0] 29
 bp:Lq w pb [I (p.LJ:Int),I (p.chain:Int),I (p.interval:Int),I (p.zeta:Int),I (p.most:Int)] 88
 bf:Lq w fb [.func (.func 153) #[] #[ptr gb 0,ptr pb 0,ptr fb 0]] 269
 xg:X gb
 xp:X pb
 xf:X fb
theorem TdM.step (h:TdM R k x gb pb fb X w)(hk:Kp S w w')(hS:∀j,S j->X j->False)(h2:Qs R k x Y w')(bY:∀j,X j->Y j):TdM R k x gb pb fb Y w':=
 ⟨h2,hk.Lg h.bg (λe=>hS _ e h.xg),hk.Lg h.bp (λe=>hS _ e h.xp),hk.Lg h.bf (λe=>hS _ e h.xf),bY _ h.xg,bY _ h.xp,bY _ h.xf⟩
def Sg (R:Src t u (T3 p g E))(k x gb pb fb v behind:Nat)(X:Nat->Prop)(w:World):Prop:=
 LP Tryz.prog 153 [I (v:Int),I (behind:Int),ptr gb 0,ptr pb 0,ptr fb 0] w λr w'=>∃vv,r= .tuple #[vv,I 0]/\Zu w' vv (Lo g v)/\(∀b,vv.ownBlock=some b->w.heap.size<=b)/\Qs R k x (λj=>X j\/vv.ownBlock=some j) w'/\Kp (λj=>¬X j) w w'
theorem OH.back (h:OH p g E){v:Nat}(hv:v<g.length)(hq:0<LR g E v):LR g E v<=v/\Pt E v=Pt E (v-LR g E v)+1/\MG g v (LR g E v)=Lo g (v-LR g E v)/\0<(Lo g (v-LR g E v)).length/\(Lo g (v-LR g E v)).length<=p.most/\(Lo g v).length<=p.most/\Lo g v≠[]/\Pt E v<=p.chain:=by
 have bN:Lo g v≠[]:=λe=>by unfold LR at hq;rw[if_pos e] at hq;omega
 have hb:LR g E v=((E[v]?).getD (0,0)).1:=by unfold LR;rw[if_neg bN]
 rcases h.ent hv with e|⟨h1,h2,h3,l,e',h4,h5,h6,h7⟩
 ·rw[hb,e] at hq;cases hq
 ·rw[<-hb] at h1 h2 h3 h4 h5;have Ic:=of_decide_eq_true h7;have hs:Lo g (v-LR g E v)=l:=by unfold Lo;rw[h4];rfl
  refine⟨h3,?_,?_,by rw[hs];omega,by rw[hs];omega,by omega,bN,?_⟩
  ·unfold Pt;rw[h5];exact h6
  ·unfold MG;rw[if_neg (by omega)];rfl
  ·show((E[v]?).getD (0,0)).2<=_;omega
theorem z41 (aw:OH p g E)(iS:g.length<50){v:Nat}(hv:v<g.length){b a:Nat}{s:Bytes}{rest:List Bool}(hR:Py w b s a)(hd:(LF s).drop a=LG (OX p g E v)++rest)(hG:Lq w 0 (Og .gamma) 260)(hU:Lq w 1 (Og .unary) 260)(h1:¬0=b)(h2:¬1=b)
  {vb:Value} (ew:LR g E v=0->vb= .slice none 0 0) (hS:0<LR g E v->Zu w vb (Lo g (v-LR g E v))) (yZ:∀j,vb.ownBlock=some j->j≠b):
  LP Tryz.prog 154 [ptr b 0,I (v:Int),I (g.length:Int),.agg #[I ((Lo g v).length:Int),I (LR g E v:Int)],vb,lpV p.list] w λr w'=>∃vv,r= .tuple #[vv,I 0]/\Zu w' vv (Lo g v)/\(∀j,vv.ownBlock=some j->w.heap.size<=j)/\Py w' b s (a+(LG (OX p g E v)).length)/\Kp (λj=>j=b) w w':=by
 obtain⟨dU,cW,ob⟩:=aw.suc hv
 have gp:=aw.Yq hv
 by_cases bN:Lo g v=[]
 ·have xu:LR g E v=0:=by unfold LR;rw[if_pos bN]
  have Cz:OX p g E v=[]:=by unfold OX;rw[if_pos bN]
  rw[xu,ew xu,Cz,bN];refine(YZ p.list aw.My.1 v (by omega) g.length (by omega)).mono λr w' hr=>?_;obtain⟨rfl,hx⟩:=hr;exact⟨_,rfl,Sl.nil _ _ _,λj e=>(by cases e),⟨hx.Lg hR.1,hR.2⟩,hx.kp⟩
 ·have Cz:OX p g E v=Qh p.list v (Lo g v) (MG g v (LR g E v)) (LR g E v):=by unfold OX;rw[if_neg bN]
  have jj:LZ (MG g v (LR g E v))/\(MG g v (LR g E v)).length<=60:=by
   have hn:=aw.gr.n;rcases Sb g v (LR g E v) with e| e
   ·rw[e];exact⟨⟨List.Pairwise.nil,λy hy=>(by cases hy)⟩,by simp⟩
   ·exact⟨aw.gr.ok _ e,by have:=aw.gr.len e;omega⟩
  have Gn:=UP aw.My.1 (x:=v) (by omega) dU jj.1 gp.1 (by omega) jj.2;rw[Cz] at hd⊢;rcases Nat.eq_zero_or_pos (LR g E v) with h0|h0
  ·have ld:MG g v (LR g E v)=[]:=by unfold MG;rw[if_pos h0]
   rw[ew h0];have:=Vh hR p.list aw.My.1 v (by omega) g.length (by omega) (ra:=none) (rc:=0) (Lo g v) (MG g v (LR g E v)) dU bN (by omega) ob jj.1 (LR g E v) gp.1 (λ_=>ld) hG hU h1 h2 (λw2 ao=>by rw[ld];exact(Sl.nil _ 46 1).rd) (by rw[ld];exact Nat.le_refl _) (by omega) rest hd;rw[ld] at this⊢;exact this
  ·obtain⟨q1,q2,q3,q4,q5,q6,q7,q8⟩:=aw.back hv h0;have CA:=hS h0;rw[<-q3] at CA
   obtain⟨ga,gc,rfl,jt⟩:∃a c,vb= .slice a (MG g v (LR g E v)).length c/\(MG g v (LR g E v)).length<=c:=by
    rcases CA.shape with⟨-,e⟩|⟨b,c,e,hc⟩
    ·rw[q3] at e;omega
    ·exact⟨_,c,e,hc⟩
   exact Vh hR p.list aw.My.1 v (by omega) g.length (by omega) (ra:=ga) (rc:=gc) (Lo g v) (MG g v (LR g E v)) dU bN (by omega) ob jj.1 (LR g E v) gp.1 (λe=>by omega) hG hU h1 h2 (λw2 ao=>(CA.kp ao λj e=>yZ j e).rd) jt (by omega) rest hd
end
section
variable {t:TypeId}{u:Value}{p:Mq}{g:List (List Nat)}{E:List (Nat×Nat)}{R:Src t u (T3 p g E)}{k x gb pb fb:Nat}{X Y S:Nat->Prop}{w w':World}
theorem Vf (iS:g.length<50){v behind:Nat}(hv:v<g.length)(zC:behind+Pt E v<=p.chain)(ht:TdM R k x gb pb fb X w)
  (ih:0<LR g E v->∀(X':Nat->Prop) (w':World),TdM R k x gb pb fb X' w'->Sg R k x gb pb fb (v-LR g E v) (behind+1) X' w'):Sg R k x gb pb fb v behind X w:=by
 have aw:=ht.gw.ok
 have hn:=aw.gr.n
 have KL:p.chain<=1000000:=by have:=aw.My.2.1;omega
 obtain⟨dU,cW,ob⟩:=aw.suc hv
 have gp:=aw.Yq hv
 have wg:=ht.bg
 unfold Sg
 refine Lb (e:=[(0,_),(1,_),(2,_),(3,_),(4,_)]) Tryz.func153 O Tryz.ntmps153 O O$ qN O$ Lw O$ Lw O$ qM O$ qV (Lj Zl O O wg O)$ Le O$ LD zdP O (Wl ht.gw hv) ?_
 rintro _ w1 ⟨b,a,s,rest,rfl,kr,og,bR,h1,aN⟩
 have lb1:=kr.1.lt
 have lQ:∀j,X j->j≠b:=λj hj e=>by have:=ht.gw.lt j hj;omega
 refine Le O$ qV (Nq (v:= .agg #[I ((Lo g v).length:Int),I (LR g E v:Int)]) O O)$ qV (Nq (v:=ptr b 0) O O)$ qV (Nq (v:=I ((a+(LG (OX p g E v)).length:Nat):Int)) O O)$ qV (Nq (v:=I 0) O O)$ Lm O O (NJ (cs:=[_,_]) NS O) ?_
 rintro _ w2 ⟨b9,rfl,mz,ag,cM⟩
 refine Ls O (M7 (news:=[I ((Lo g v).length:Int),I (LR g E v:Int)]) NS O O O O cM (by simp)) ?_
 rintro w3 ⟨ck,ax⟩
 replace ck:Lq w3 b9 [I ((Lo g v).length:Int),I (LR g E v:Int)] 157:=ck
 have aL:Ext w1 w3:=ag.It ax (λj e=>by omega)
 have l93:=ck.lt
 have z13:=aL.size
 have h3:Qs R k x (λj=>(X j\/j=b)\/j=b9) w3:=h1.grow aL (λj hj=>hj.imp id λe=>by omega) (λj hj=> .inl hj)
 have cA:Kp (λj=>¬X j) w w3:=aN.trans aL.kp
 have pe:TdM R k x gb pb fb (λj=>(X j\/j=b)\/j=b9) w3:=ht.step cA (λj e e'=>e e') h3 (λj hj=> .inl (.inl hj))
 have kP:Py w3 b s a:=⟨aL.Lg kr.1,kr.2⟩
 refine Lw O$ Lw O$ Lk O$ run_seq$ qN O$ Le O$ Mu O O$ Lf$ An O$ py$ qN O$ Lk O$ run_seq$ qN O ?_
 refine Lt Od O$ qV (Lj U3 O O ck O)$ MH O O$ Lf$ LS.qb (e:=[(0,_),(1,_),(2,_),(3,_),(4,_),(7,_),(8,_),(9,_),(10,_),(11,_),(12,_),(13,_),(28,_)]) ?_
 refine M6 (λe' w'=>∃vb,e'=[(0,I (v:Int)),(2,ptr gb 0),(3,ptr pb 0),(9,ptr b9 0),(10,ptr b 0),(11,I ((a+(LG (OX p g E v)).length:Nat):Int)),(13,vb)]/\Qs R k x (λj=>(X j\/j=b)\/j=b9) w'/\Kp (λj=>¬((X j\/j=b)\/j=b9)) w3 w'/\(LR g E v=0->vb= .slice none 0 0)/\(0<LR g E v->Zu w' vb (Lo g (v-LR g E v)))/\(∀j,vb.ownBlock=some j->j≠b)) ?cD$ λcD=>?cQ
 case cD=>
  rintro e' w4 ⟨vb,rfl,h4,av,oC,fj,CB⟩;have vx:TdM R k x gb pb fb (λj=>(X j\/j=b)\/j=b9) w4:=pe.step av (λj e e'=>e e') h4 (λj hj=>hj);have jY:=av.Lg ck (λe=>e (.inr O));have fE:Py w4 b s a:=⟨av.Lg kP.1 (λe=>e (.inl (.inr O))),kP.2⟩;have xv:=vx.bg;have iY:=vx.bp;have xw:=vx.gw.cells;have af:=Ext.LC w4;refine run_seq ?_;have ngb:gb≠b:=lQ gb ht.xg;have nk:k≠b:=lQ k ht.gw.xk;have npb:pb≠b:=lQ pb ht.xp;have n9:b9≠b:=by omega
  refine N7 (λw'=>Kp (λj=>j=b) w4 w') O$ LA 0 O O (af.kp)$ LA 1 O O (af.kp)$ qT 2 O (λ_ h=>(by first|exact Lj Zl O O (h.Lg xv ngb) O|exact Lj Zl O O (h.Lg xw nk) O)) (af.kp) ?_;refine Ll 3 O (Mo O) (af.kp)$ Ll 4 O (LV Sh O) (af.kp)$ Ll 5 O (LV PR O) (af.kp)$ qT 6 O (λ_ h=>(by first|exact Lj U3 O O (h.Lg xv ngb) O|exact Lj U3 O O (h.Lg xw nk) O)) (af.kp) ?_;refine LA 8 O O (af.kp)$ qT 7 O (λ_ hS=>LM (news:=[I ((Lo g v).length:Int),I (LR g E v:Int)]) ZS O NS O (Lq.cells (n:=2) (hS.Lg jY n9) O) O) (af.kp)$ qT 9 O (λ_ h=>LM (news:=QV p) Wq O Nw O (Lq.cells (n:=5) (h.Lg iY npb) O) O) (af.kp)$ OA 10 O WM O (OI p w4.drew) ?_;rintro _ w5 ⟨rfl,aX⟩;refine⟨(af.trans aX).kp,?_⟩;have dr:=af.trans aX;have h5:=h4.ext dr;have rk:Py w5 b s a:=⟨dr.Lg fE.1,fE.2⟩;have CC:¬0=b:=λe=>lQ 0 ht.gw.x1 e;have CD:¬1=b:=λe=>lQ 1 ht.gw.x2 e;refine OA 11 O zel O (z41 aw iS hv rk og h5.gam h5.una CC CD oC (λe=>(fj e).ext dr) CB) ?_;rintro _ w6 ⟨vv,rfl,eK,mt,kJ,aU⟩;refine⟨dr.kp.trans aU,?_⟩;refine LA 12 O O (dr.kp.trans aU)$ Ll 13 O (Nq (v:=vv) O O) (dr.kp.trans aU)$ Ll 15 O (Ni O) (dr.kp.trans aU)$ Ll 14 O (Nq (v:=I 0) O O) (dr.kp.trans aU)$ Ll 16 O (Ni O) (dr.kp.trans aU)$ qE$ run_seq$ qN O$ Le O$ Mu O O$ Lu O O$ LD Tu O (PO kJ) ?_;rintro _ w6 ⟨rfl,rfl⟩;refine Le O$ Mu O O$ M5$ M8 O O$ Lf$ LS.qb (e:=[(14,_),(92,_)]) ?_;refine An O$ py$ qN O$ Le O$ Lw O$ Lk O$ Lh Tryz.func153 O ?_;have z34:=av.size;have z45:=dr.size;have z03:=cA.size;have h6:=(h5.step (Y:=λj=>((X j\/j=b)\/j=b9)\/vv.ownBlock=some j) aU (λj e=>⟨.inl (.inr e),λe'=>lQ k ht.gw.xk (e'▸e),λe'=>lQ x ht.gw.xx (e'▸e),λe'=>lQ 0 ht.gw.x1 (e'▸e),λe'=>lQ 1 ht.gw.x2 (e'▸e)⟩) (λj hj=>hj.imp id λe=>⟨mt j e,eK.lt e⟩) (λj hj=> .inl hj)).less (X:=λj=>X j\/vv.ownBlock=some j) (λj hj=>hj.imp (λe=> .inl (.inl e)) id) (.inl ht.gw.xk) (.inl ht.gw.xx) (.inl ht.gw.x1) (.inl ht.gw.x2);exact⟨_,rfl,vv,rfl,eK,λj e=>by have:=mt j e;omega,h6,((cA.trans (av.Lv λj e e'=>e (.inl (.inl e')))).trans dr.kp).trans (aU.Lv λj e e'=>lQ j e' e)⟩
 case cQ=>
  refine Lp O (λh0=>?_)$ λh0=>?_
  ·have pE:0<LR g E v:=by omega
   obtain⟨q1,q2,q3,q4,q5,q6,q7,q8⟩:=aw.back hv pE;have lS:=pe.bp;have lT:=pe.bf;refine run_seq$ qN O$ Lt Od O$ qV ((by first|exact Lj U3 O O ck O|exact Lj U3 O O lS O|exact Lj U3 O O lT O)) ?_;refine Le O$ MH O O$ M5$ Lu O O$ Lt UH O$ qV ((by first|exact Lj U3 O O ck O|exact Lj U3 O O lS O|exact Lj U3 O O lT O)) ?_;refine Pa O O$ M5$ M8 O O$ Le O$ Lt Oz O$ qV ((by first|exact Lj U3 O O ck O|exact Lj U3 O O lS O|exact Lj U3 O O lT O)) ?_;refine Lt Ph O$ qV ((by first|exact Lj U3 O O ck O|exact Lj U3 O O lS O|exact Lj U3 O O lT O)) ?_;refine MH O O$ M5$ M8 O O$ Lf$ LS.qb (e:=[(0,_),(1,_),(2,_),(3,_),(4,_),(7,_),(8,_),(9,_),(10,_),(11,_),(12,_),(13,_),(45,_)]) ?_;refine An O$ py$ run_seq$ qN O$ qV ((by first|exact Lj z7Y O O ck O|exact Lj z7Y O O lS O|exact Lj z7Y O O lT O)) ?_;refine Le O$ Lt Od O$ qV ((by first|exact Lj U3 O O ck O|exact Lj U3 O O lS O|exact Lj U3 O O lT O)) ?_;refine Np O O ?_;rw[show(v:Int)-(LR g E v:Int)=((v-LR g E v:Nat):Int) by omega];refine Le O$ Mb O O ?_;rw[show(behind:Int)+1=((behind+1:Nat):Int) by omega];have Fx:=ih pE _ w3 pe;unfold Sg at Fx;refine MK O O (NW z9m O O) (Fx) ?_;rintro _ w4 ⟨vb,rfl,dT,kD,h4,av⟩
   obtain⟨vo,vc,rfl,zd⟩:∃o c,vb= .slice (some ⟨o,0,none⟩) (Lo g (v-LR g E v)).length c/\w3.heap.size<=o:=by
    rcases dT.shape with⟨-,e⟩|⟨o,c,e,hc⟩
    ·omega
    ·exact⟨o,c,e,kD o (by rw[e];rfl)⟩
   refine Le O$ qV (Nq (v:= .slice (some ⟨vo,0,none⟩) (Lo g (v-LR g E v)).length vc) O O)$ qV (Nq (v:=I 0) O O)$ Lw O$ Lw O$ qM O$ Le O$ Mu O O ?_;have iY:=(pe.step av (λj e e'=>e e') h4 (λj hj=> .inl hj)).bp;refine Lf$ LS.qb (e:=[(0,_),(2,_),(3,_),(7,_),(8,_),(9,_),(10,_),(11,_),(12,_),(13,_),(58,_)]) ?_;refine An O$ py$ qN O$ Le O$ Nd LI O$ Nb O O$ M5$ Lu O O$ Nd LI O$ Lt Ph O$ qV (Lj U3 O O iY O)$ MH O O$ M5$ M8 O O ?_;refine Lf$ An O$ py ?_;exact(cD _ _ ⟨_,rfl,h4.less (λj hj=> .inl hj) h3.xk h3.xx h3.x1 h3.x2,av,λe=>by omega,λ_=>dT,λj e=>by have e':vo=j:=ML e;omega⟩).qb
  ·refine py ?_;exact(cD _ _ ⟨_,rfl,h3,Kp.refl _ _,λ_=>rfl,λe=>by omega,λj e=>by cases e⟩).qb
theorem Xd (iS:g.length<50):∀(d:Nat) {v behind:Nat} {X:Nat->Prop} {w:World},Pt E v<=d->v<g.length->behind+Pt E v<=p.chain->TdM R k x gb pb fb X w->Sg R k x gb pb fb v behind X w
 | 0, v, behind, X, w, hd, hv, zC, ht => Vf iS hv zC ht λh0 => by
   obtain⟨q1,q2,-⟩:=ht.gw.ok.back hv h0
   omega
 | d + 1, v, behind, X, w, hd, hv, zC, ht => Vf iS hv zC ht λh0 X' w' Id => by
   obtain⟨q1,q2,-⟩:=ht.gw.ok.back hv h0;exact Xd iS d (by omega) (by omega) (by omega) Id
theorem OH.z7d (h:OH p g E){v:Nat}(hv:v<g.length):Pt E v<=p.chain:=by
 rcases h.ent hv with e|⟨h1,h2,h3,l,e',h4,h5,h6,h7⟩
 ·unfold Pt;rw[e];exact Nat.zero_le _
 ·have Ic:=of_decide_eq_true h7;unfold Pt;omega
theorem z1t (iS:g.length<50){v:Nat}(hv:v<g.length)(h:Qs R k x X w):LP Tryz.prog 114 [ptr k 0,I (v:Int)] w λr w'=>∃vv,r= .tuple #[vv,I 0]/\Zu w' vv (Lo g v)/\(∀b,vv.ownBlock=some b->w.heap.size<=b)/\Qs R k x (λj=>X j\/vv.ownBlock=some j) w'/\Kp (λj=>¬X j) w w':=by
 refine Lb (e:=[(0,_),(1,_)]) Tryz.func114 O Tryz.ntmps114 O O$ qN O$ Lm O O (Nc O (cs:=[ptr k 0]) O) ?_
 rintro _ w1 ⟨gb,rfl,Ie,ad,wg⟩
 refine Lw O$ Lk O$ run_seq$ qN O$ qV (Lj Zl O O wg O)$ Le O$ Lm O O (RN (cs:=[_]) (zs:=[Value.int .i64 0]) N3 Md O (by kernel_rfl) O O O (by decide)) ?_
 rintro _ w2 ⟨vb,rfl,⟨ew,ag,KM⟩,If⟩
 have h2:=(h.ext ad).ext ag
 have sJ:=ag.Lg wg
 have CE:=h2.cells
 have z1:=ad.size
 have z2:=ag.size
 refine LD zdW O (Xh h2 hv If.rd) ?_
 rintro _ w2 ⟨rfl,rfl⟩
 refine Lw O$ qM O$ Le O$ Mu O O$ Lf$ An O$ py$ qN O$ qV (Lj Zl O O sJ O)$ LU O$ Lt Sh O$ Lt Uj O$ qV (LM (news:=QV p) Wq O Nw O (Lq.cells (i:=2) (n:=5) CE O) O)$ Lm O O (NJ (cs:=[_,_,_,_,_]) Nw O) ?_
 rintro _ w3 ⟨pb,rfl,qi,ah,oV⟩
 refine Ls O (M7 (news:=QV p) Nw O O O O oV (by simp)) ?_
 rintro w4 ⟨iY,av⟩
 replace iY:Lq w4 pb [I (p.LJ:Int),I (p.chain:Int),I (p.interval:Int),I (p.zeta:Int),I (p.most:Int)] 88:=iY
 have cX:Ext w2 w4:=ah.It av (λj e=>by omega)
 refine qM O$ Lm O O (NJ (cs:=[_]) z9k O) ?_
 rintro _ w5 ⟨fb,rfl,KN,aX,da⟩
 refine qM O$ qV (Z9 (first:=[]) (caps:=[.tmp 2,.tmp 7,.tmp 8]) O O)$ Ls O (MY z9k O O O da (by simp)) ?_
 rintro w6 ⟨xy,aU⟩
 have cO:Ext w4 w6:=aX.It aU (λj e=>by omega)
 have ib:=cX.trans cO
 have z6:=ib.size
 have lg:=sJ.lt
 have lp:=iY.lt
 have lf:=xy.lt
 have z24:=cX.size
 have z3:=ah.size
 have z46:=cO.size
 have ie:=(ad.trans ag).trans ib
 have h6:Qs R k x (λj=>X j\/j=gb\/j=pb\/j=fb) w6:=h.grow ie (λj hj=>hj.imp id λe=>by omega) (λj hj=> .inl hj)
 have uM:TdM R k x gb pb fb (λj=>X j\/j=gb\/j=pb\/j=fb) w6:=⟨h6,ib.Lg sJ,cO.Lg iY,xy,.inr (.inl O),.inr (.inr (.inl O)),.inr (.inr (.inr O))⟩
 have xz:=uM.bf
 have eM:=Xd iS _ (behind:=0) (Nat.le_refl _) hv (by have:=h.ok.z7d hv;omega) uM
 unfold Sg at eM
 refine qM O$ qV (Lj z7Y O O xz O)$ Le O$ MK O O (NW z9m O O) (eM) ?_
 rintro _ w7 ⟨vv,rfl,gY,o4,h7,aC⟩
 refine qV (Nq (v:=vv) O O)$ qV (Nq (v:=I 0) O O)$ Lw O$ Lk O$ LS.qb (e:=[(4,_),(5,_)]) ?_
 refine Lh Tryz.func114 O ?_
 exact⟨_,rfl,vv,rfl,gY,λj e=>by have:=o4 j e;omega,h7.less (λj hj=>hj.imp .inl id) (.inl h.xk) (.inl h.xx) (.inl h.x1) (.inl h.x2),ie.kp.trans (aC.Lv λj e e'=>e (.inl e'))⟩
end
def stV (b:Bool):Value:= .int .u8 (if b then 1 else 0)
structure SY (w:World)(m gi:Nat)(L:List Bool):Prop where
 Lg:Lq w m [I 2,.slice (some ⟨gi,0,none⟩) L.length L.length,.slice none 0 0,.bool false] 126
 sl:Sl w (.slice (some ⟨gi,0,none⟩) L.length L.length) 174 1 L.length (L.map stV)
 ne:gi≠m
 n:L.length<=4096
 n2:2<=L.length
section
variable {w w':World}{m gi:Nat}{L:List Bool}{S:Nat->Prop}
theorem SY.kp (h:SY w m gi L)(hk:Kp S w w')(h1:¬S m)(h2:¬S gi):SY w' m gi L:=
 ⟨hk.Lg h.Lg h1,h.sl.kp hk λg e=>by cases e;exact h2,h.ne,h.n,h.n2⟩
theorem SY.ext (h:SY w m gi L)(hx:Ext w w'):SY w' m gi L:=h.kp (S:=λ_=>False) hx id id
theorem SY.ltm (h:SY w m gi L):m<w.heap.size:=h.Lg.lt
theorem SY.ltg (h:SY w m gi L):gi<w.heap.size:=h.sl.lt O
theorem SY.get (h:SY w m gi L){i:Nat}{b:Bool}(hi:L[i]? =some b):w.cell? ⟨gi,0+i*1,none⟩=some (stV b):=
 Mn h.sl.rd (by rw[List.getElem?_map,hi];rfl)
theorem z4D (B:Nat)(hB:2<=B/\B<=4096)(w:World):LP Tryz.prog 28 [I 2,I (B:Int)] w λv w'=>∃m gi,v= .tuple #[ptr m 0,I 0]/\SY w' m gi (List.replicate B false)/\w.heap.size<=m/\w.heap.size<=gi/\Ext w w':=by
 refine Lb (e:=[(0,_),(1,_)]) Tryz.func28 O Tryz.ntmps28 O O$ qN O$ Lw O$ Lk O$ run_seq$ qN O$ Le O$ Mw O O$ M5$ Lu O O$ Le O$ MH O O$ M5$ M8 O O ?_
 refine Lu O O$ MH O O$ M5$ M8 O O$ Lf$ An O$ py$ qN O$ Lu O O$ Lm O O (pmk (c:=B) (n:=B) Pm XO O O O (Nat.le_refl _) (by omega) (by simp only[maxLen];omega)) ?_
 rintro _ w1 ⟨gi,rfl,⟨su,ad,ai⟩,iE⟩
 refine qV (O6 (cs:=[_,_,_,_]) zbV O zdx O O)$ Lm O O (Nc O (cs:=[I 2,.slice (some ⟨gi,0,none⟩) B B,.slice none 0 0,.bool false]) O) ?_
 rintro _ w2 ⟨m,rfl,hm,ag,am⟩
 refine Lw O$ Lk O$ Lh Tryz.func28 O ?_
 have:=ad.size
 have lg:=iE.lt (g:=gi) O
 refine⟨_,rfl,m,gi,rfl,⟨by rw[List.length_replicate];exact am,?_,by omega,by rw[List.length_replicate];omega,by rw[List.length_replicate];omega⟩,by omega,by omega,ad.trans ag⟩
 rw[List.length_replicate,List.map_replicate]
 exact iE.ext ag
def MZ (L:List Bool)(s n:Nat)(b:Bool):List Bool:=L.take s++(List.replicate n b++L.drop (s+n))
theorem N6 {L:List Bool}{s n:Nat}{b:Bool}(h:s+n<=L.length):(MZ L s n b).length=L.length:=by
 unfold MZ
 rw[List.length_append,List.length_append,List.length_take,List.length_replicate,List.length_drop];omega
theorem z3Q (L:List Bool)(s:Nat)(b:Bool):MZ L s 0 b=L:=by simp[MZ]
theorem z5i {L:List Bool}{s n:Nat}{b:Bool}(h:s+n<L.length):(MZ L s n b).set (s+n) b=MZ L s (n+1) b:=by
 have h1:(L.take s++List.replicate n b).length=s+n:=by rw[List.length_append,List.length_take,List.length_replicate];omega
 unfold MZ
 rw[<-List.append_assoc,List.set_append_right _ _ (by omega),h1,Nat.sub_self,List.drop_eq_getElem_cons h,List.set_cons_zero,List.replicate_succ',List.append_assoc,List.append_assoc]
 rfl
theorem Y7 (h:SY w m gi L)(s n:Nat)(b:Bool)(hs:s+n<=L.length):LP Tryz.prog 128 [ptr m 0,.agg #[I (s:Int),I (n:Int)],stV b] w λv w'=>v= .tuple #[]/\SY w' m gi (MZ L s n b)/\Kp (λk=>k=gi) w w':=by
 have hn:=h.n
 refine Lb (e:=[(0,_),(1,_),(2,_)]) Tryz.func128 O Tryz.ntmps128 O O$ qN O$ Lm O O (Nc O (cs:=[I (s:Int),I (n:Int)]) O) ?_
 rintro _ w1 ⟨b4,rfl,gn,ad,aF⟩
 have lg:=h.ltg
 have l4:=aF.lt
 have h1:=h.ext ad
 refine qM O$ Lt N2 O$ qV (Lj U3 O O aF O)$ Le O$ Lf$ Lc$ Nj (α:=Nat) (0) (λi=>[(0,ptr m 0),(2,stV b),(4,ptr b4 0),(8,I (n:Int)),(9,I (i:Int))]) (λi w'=>SY w' m gi (MZ L s i b)/\Kp (λk=>k=gi) w1 w'/\i<=n) (λi=>n-i) ?hI ?hround
 case hI=>exact⟨by rw[z3Q];exact h1,Kp.refl _ _,Nat.zero_le _⟩
 case hround=>
  rintro i w2 ⟨h2,ao,hi⟩ ih
  try dsimp only
  refine qN O$ Mw O O$ Lf$ run_seq$ Lp O (λh0=>?_)$ λh0=>?_
  ·have aT:i<n:=by omega
   have hl:=N6 (L:=L) (s:=s) (n:=i) (b:=b) (by omega);have am:=h2.Lg;have bD:=ao.Lg aF (by omega);have hg:=Ext.LC w2;refine py$ run_seq$ Lc$ qN O$ Le O$ Lk O$ LH [10] (λw'=>Ext w2 w') (by kernel_rfl) O$ qL [1,2,3,9,10] 0 O (λ_ h=>M0 O) hg$ qL [2,3,9,10] 1 O (λ_ h=>Mo O) hg$ qL [3,9,10] 2 O (λ_ h=>LV QF O) hg$ qL [9,10] 3 O (λ_ h=>(by first|exact Lj Pm O O (h.Lg am) O|exact Lj Pm O O (h.Lg bD) O)) hg ?_;refine qL [5,7,9,10] 4 O (λ_ h=>LV MV O) hg$ qL [7,9,10] 5 O (λ_ h=>(by first|exact Lj U3 O O (h.Lg am) O|exact Lj U3 O O (h.Lg bD) O)) hg ?_;refine qL [7,9,10] 6 O (λ_ h=>M0 O) hg$ qL [9,10] 7 O (λ_ h=>Qu O O (by omega)) hg$ qL [9,10] 8 O (λ_ h=>M0 O) hg$ qL [10] 9 O (λ_ h=>M9 Pm XO O O (by omega)) hg$ OY [10]$ qO 10$ M1 (i:=10) O O (NH XO O O O (h2.ext hg).sl (by rw[List.length_map,hl];omega)) ?_;rintro w3 ⟨cC,ax⟩;refine⟨trivial,?_⟩
   have h3:SY w3 m gi (MZ L s (i+1) b):=by
    refine⟨?_,?_,h2.ne,by rw[N6 (by omega)];exact h.n,by rw[N6 (by omega)];exact h.n2⟩
    ·rw[N6 (by omega),<-hl];exact ax.Lg (hg.Lg am) (λe=>h2.ne e.symm)
    ·rw[show 0+(s+i)*1=s+i by omega,<-List.map_set,z5i (by omega)] at cC;rw[N6 (by omega),<-hl];exact cC
   refine qE$ Ld$ Li O$ Mb O O$ Le O$ Lf ?_;exact(ih (i+1) _ ⟨h3,ao.trans (hg.kp.trans ax),by omega⟩ (by omega)).qb
  ·have aT:i=n:=by omega
   subst aT;refine Ln O$ ME Tryz.func128 O ?_;exact⟨_,rfl,rfl,h2,ad.kp.trans ao⟩
end
structure Pre (L:List Bool)(a:Nat):Prop where
 a2:2<=a
 le:a<=L.length
 tk:∀i,2<=i->i<a->L[i]? =some true
 fr:∀i,a<=i->i<L.length->L[i]? =some false
section
variable {w w':World}{m gi a:Nat}{L:List Bool}{S:Nat->Prop}
theorem U6 {l bm : Nat}(hm : SY w m gi L)(hp : Pre L a)(ha : a < L.length)(kl : Lq w bm [ptr m 0] 48)(J : World -> Prop)(hJ : ∀ w w', J w -> Ext w w' -> J w')
  (hround:∀w',Ext w w'->Z6 Tryz.prog l [.agg #[I (a:Int),I ((L.length-a:Nat):Int)]] w' λv w''=>(v= .bool true/\J w''/\Lq w'' bm [ptr m 0] 48/\SY w'' m gi L)\/(v= .bool false/\J w'')):
  LP Tryz.prog 77 [.func (.yield l) #[] #[],ptr bm 0] w λv w'=>v= .tuple #[]/\J w':=by
 have hn:=hm.n
 have oc:=hp.a2
 have hB:=hm.Lg
 refine Lb (e:=[(0,_),(1,_)]) Tryz.func77 O Tryz.ntmps77 O O$ qN O$ qV ((by first|exact Lj Xj O O kl O|exact Lj Xj O O hB O)) ?_
 refine LU O$ Lt z2Y O$ qV ((by first|exact Lj U3 O O kl O|exact Lj U3 O O hB O)) ?_
 refine Lk O$ Lc$ Nj (α:=Nat) (2) (λi=>[(0,.func (.yield l) #[] #[]),(1,ptr bm 0),(3,I (i:Int))]) (λi w'=>Lq w' bm [ptr m 0] 48/\SY w' m gi L/\((2<=i/\i<=a/\Ext w w')\/(i=L.length+1/\J w'))) (λi=>L.length+1-i) ?hI ?hround
 case hI=>exact⟨kl,hm,.inl ⟨Nat.le_refl _,oc,Ext.refl _⟩⟩
 case hround=>
  rintro i w1 ⟨pF,oq,fZ⟩ ih;have ai:=oq.Lg
  try dsimp only
  refine run_seq$ qN O$ Le O$ qV ((by first|exact Lj Xj O O pF O|exact Lj Xj O O ai O)) ?_;refine LU O$ Lt QF O$ qV ((by first|exact Lj Pm O O pF O|exact Lj Pm O O ai O)) ?_;refine Nd Pm O$ Mw O O$ Lf$ Lp O (λh0=>?_)$ λh0=>?_
  ·have sK : 2 <= i /\ i <= a /\ Ext w w1 := by
    rcases fZ with h| h
    ·exact h
    ·omega
   obtain⟨dB,KO,ad⟩:=sK;refine py$ run_seq$ Lc$ qN O$ Le O$ qV (O6 (cs:=[_,_]) MX O zc1 O O)$ Lm O O (NJ (cs:=[_,_]) MX O) ?_;rintro _ w2 ⟨b4,rfl,gn,ag,aF⟩;refine Ls O (M7 (news:=[I (i:Int),I 0]) MX O O O O aF (by simp)) ?_;rintro w3 ⟨dQ,ax⟩;replace dQ:Lq w3 b4 [I (i:Int),I 0] 108:=dQ;have aL:Ext w1 w3:=ag.It ax (λj e=>by omega);have lU:=aL.Lg pF;have kM:=oq.ext aL;have aq:=kM.Lg;refine Lf$ run_seq$ Lc$ Nj (α:=Nat) (i) (λj=>[(0,.func (.yield l) #[] #[]),(1,ptr bm 0),(3,I (j:Int)),(4,ptr b4 0)]) (λj w'=>w'=w3/\i<=j/\j<=L.length/\(i<j->i=a)) (λj=>L.length-j) ?hI ?hround
   case hI=>exact⟨rfl,Nat.le_refl _,by omega,λh=>absurd h (by omega)⟩
   case hround =>
    rintro j w4 ⟨rfl,gW,KP,CG⟩ ih2
    try dsimp only
    rcases Nat.lt_or_ge j L.length with hj|hj
    ·obtain⟨b,hb⟩:∃b,L[j]? =some b:=⟨_,List.getElem?_eq_getElem hj⟩;have aZ:=kM.get hb;refine run_seq$ qN O$ Le O$ qV ((by first|exact Lj Xj O O lU O|exact Lj Xj O O aq O)) ?_;refine LU O$ Lt QF O$ qV ((by first|exact Lj Pm O O lU O|exact Lj Pm O O aq O)) ?_;refine Nd Pm O$ Mw O O$ Ns$ Le O$ qV ((by first|exact Lj Xj O O lU O|exact Lj Xj O O aq O)) ?_;refine LU O$ Lt QF O$ qV ((by first|exact Lj Pm O O lU O|exact Lj Pm O O aq O)) ?_;refine Le O$ qV (M9 Pm XO O O (by omega)) ?_
     cases b with
     | true =>
       refine qV (LN (v:= .int .u8 1) z5H O O aZ) ?_
       have Ig:i<a:=by
        rcases Nat.lt_or_ge i a with h| h
        ·exact h
        ·have:=hp.fr j (by omega) hj;rw[this] at hb;cases hb
       have qw:j=i:=by
        rcases Nat.lt_or_ge i j with h| h
        ·have:=CG h;omega
        ·omega
       subst qw;refine Nb O O$ M5$ MU O O$ Lf$ An O$ Ln O$ qN O$ Le O$ Lt MV O$ qV (Lj U3 O O dQ O)$ Np O O$ Lt N2 O$ Ls O (MY Md O O O dQ (by simp)) ?_;rintro w5 ⟨aM,ak⟩;rw[show(j:Int)-(j:Int)=0 by omega] at aM;replace aM:Lq w5 b4 [I (j:Int),I 0] 108:=aM;have cm:Ext w1 w5:=aL.It ak (λq e=>by have:=ag.size;omega);refine qM O$ Lt N2 O$ qV (Lj U3 O O aM O)$ MH O O$ Le O$ qS$ qS$ qS$ qS$ M8 O O$ Lf$ An O$ py$ Ld ?_;refine Li O$ Le O$ Mb O O$ Lk O ?_
       exact(ih (j+1) w5 ⟨cm.Lg pF,oq.ext cm,.inl ⟨by omega,by omega,ad.trans cm⟩⟩ (by omega)).qb
     | false =>
       refine qV (LN (v:= .int .u8 0) z5H O O aZ)$ Nb O O$ Ns$ MU O O ?_
       have sL:i=a:=by
        rcases Nat.lt_or_ge i a with h| h
        ·rcases Nat.lt_or_ge i j with h2|h2
         ·exact CG h2
         ·have e:j=i:=by omega
          subst e;have:=hp.tk j dB h;rw[this] at hb;cases hb
        ·omega
       refine Lf$ Lr O$ py$ Lc$ Li O$ Le O$ Mb O O$ Lk O$ Ld ?_;exact(ih2 (j+1) _ ⟨rfl,by omega,by omega,λ_=>sL⟩ (by omega)).qb
    ·have Ih:j=L.length:=by omega
     subst Ih;have sL:=CG (by omega);subst sL;refine run_seq$ qN O$ Le O$ qV ((by first|exact Lj Xj O O lU O|exact Lj Xj O O aq O)) ?_;refine LU O$ Lt QF O$ qV ((by first|exact Lj Pm O O lU O|exact Lj Pm O O aq O)) ?_;refine Nd Pm O$ Mw O O$ M5$ Le O$ qS$ qS$ qS$ qS$ qS$ qS$ qS$ qS$ M8 O O$ Lf ?_;refine An O$ Ln O$ qN O$ Le O$ Lt MV O$ qV (Lj U3 O O dQ O)$ Np O O$ Lt N2 O$ Ls O (MY Md O O O dQ (by simp)) ?_;rintro w5 ⟨aM,ak⟩;rw[show(L.length:Int)-(i:Int)=((L.length-i:Nat):Int) by omega] at aM;replace aM:Lq w5 b4 [I (i:Int),I ((L.length-i:Nat):Int)] 108:=aM;have cm:Ext w1 w5:=aL.It ak (λq e=>by have:=ag.size;omega);refine qM O$ Lt N2 O$ qV (Lj U3 O O aM O)$ MH O O$ Ns$ Lu O O$ qV (LM (news:=[I (i:Int),I ((L.length-i:Nat):Int)]) S2 O MX O (Lq.cells (n:=2) aM O) O)$ z1j O O (yy O O) (hround w5 (ad.trans cm)) ?_;rintro v w6 hv;rcases hv with⟨rfl,xA,CH,Ii⟩|⟨rfl,xA⟩
     ·refine qV ((by first|exact Mh O|exact NL O)) ?_;refine MU O O$ Lf$ An O$ py$ Ld$ Li O$ Le O$ Mb O O$ Lk O ?_;exact(ih (L.length+1) w6 ⟨CH,Ii,.inr ⟨rfl,xA⟩⟩ (by omega)).qb
     ·refine qV ((by first|exact Mh O|exact NL O)) ?_;refine MU O O$ Lf$ Lr O$ Lh Tryz.func77 O ?_;exact⟨_,rfl,rfl,xA⟩
  ·rcases fZ with⟨-,h,-⟩|⟨-,xA⟩
   ·omega
   ·refine Ln O$ ME Tryz.func77 O ?_;exact⟨_,rfl,rfl,xA⟩
theorem Ug (w:World)(m:Nat):LP Tryz.prog 41 [ptr m 0] w λv w'=>∃bm,v= .func (.func 77) #[] #[ptr bm 0]/\Lq w' bm [ptr m 0] 48/\w.heap.size<=bm/\Ext w w':=by
 refine Lb (e:=[(0,_)]) Tryz.func41 O Tryz.ntmps41 O O$ qN O$ Lm O O (Nc O (cs:=[ptr m 0]) O) ?_
 rintro _ w1 ⟨bm,rfl,kl,ad,ai⟩
 refine Lw O$ qM O$ qV (Z9 (first:=[]) (caps:=[.tmp 1]) O O)$ Lk O$ Lh Tryz.func41 O ?_
 exact⟨_,rfl,bm,rfl,ai,by omega,ad⟩
theorem z1Z (h:SY w m gi L)(hp:Pre L a)(ha:a<L.length):LP Tryz.prog 14 [ptr m 0] w λv w'=>v=I ((L.length-a:Nat):Int)/\Ext w w':=by
 have hn:=h.n
 refine Lb (e:=[(0,_)]) Tryz.func14 O Tryz.ntmps14 O O$ qN O$ Lw O$ qM O$ Lm O O (NJ (cs:=[_]) Md O) ?_
 rintro _ w1 ⟨b3,rfl,eB,ad,aq⟩
 refine Ls O (MY Md O O O aq (by simp)) ?_
 rintro w2 ⟨cU,ao⟩
 replace cU:Lq w2 b3 [I 0] 3:=cU
 have ag:Ext w w2:=ad.It ao (λj e=>by omega)
 refine Lf$ run_seq$ qN O$ Le O$ qV (ZV Xj O O)$ Lf$ Lr O$ qN O$ Le O$ LD zdt O (Ug w2 m) ?_
 rintro _ w3 ⟨bm,rfl,kl,me,ah⟩
 have db:=ag.trans ah
 have dl:=ah.Lg cU
 have kM:=h.ext db
 have l3:=dl.lt
 have l32:=cU.lt
 have lm:=kl.lt
 have lmm:=h.ltm
 have lmg:=h.ltg
 have z1:=ad.size
 refine Lf$ Lc$ Px (ps:=[9]) (p:=[]) (q:=[_]) O zb0 ?_
 rintro l wl f9 dN cF hD Rc dL eV
 have CI:=z5Y dL eV
 have zl:=f9.size
 refine LP.mono (U6 (kM.ext f9) hp ha (f9.Lg kl)
  (λw'=>Rc .ready none w'/\Lq w' b3 [I ((L.length-a:Nat):Int)] 3/\Kp (λk=>k=l\/k=b3) wl w')
  (λw w' h hx=>⟨hx.kp.rc (S:=λ_=>False) dL h.1 id,hx.Lg h.2.1,h.2.2.trans hx.kp⟩) ?_) ?_
 ·intro w4 ay;have iB:=Kp.rc (S:=λ_=>False) ay dL eV id;have dg:=ay.Lg (f9.Lg dl);have z4:=ay.size;refine QO dL iB O O$ Li O$ Lm O O (NJ (cs:=[_,_]) MX O) ?_;rintro _ w5 ⟨b4,rfl,gn,aX,aF⟩;refine Ls O (M7 (news:=[I (a:Int),I ((L.length-a:Nat):Int)]) MX O O O O aF (by simp)) ?_;rintro w6 ⟨bQ,aU⟩;replace bQ:Lq w6 b4 [I (a:Int),I ((L.length-a:Nat):Int)] 108:=bQ;have cO:Ext w4 w6:=aX.It aU (λj e=>by omega);have Ij:=Kp.rc (S:=λ_=>False) cO dL iB id;have z46:=cO.size;have l4:=bQ.lt;refine Lf$ run_beginRound O dL Ij ?_;rintro w7 h7 aC;have kY:=aC.Lg (cO.Lg dg) (by omega);have bj:=aC.Lg bQ (by omega);refine Lc$ Li O$ qV ((by first|exact Lj U3 O O kY O|exact Lj U3 O O bj O)) ?_;refine Lt N2 O$ qV ((by first|exact Lj U3 O O kY O|exact Lj U3 O O bj O)) ?_;refine Mb O O ?_;rw[show(0:Int)+((L.length-a:Nat):Int)=((L.length-a:Nat):Int) by omega];refine Ls O (MY Md O O O kY (by simp)) ?_;rintro w8 ⟨mv,bB⟩;have h8:=Kp.rc bB dL h7 (by omega);refine Lf$ Ld$ Rk dL h8 ?_;intro w9 h9 aP;have gJ:Kp (λk=>k=l\/k=b3) w4 w9:=((cO.kp.trans (aC.Lv λk e=> .inl e)).trans (bB.Lv λk e=> .inr e)).trans (aP.Lv λk e=> .inl e);exact .inl ⟨rfl,⟨h9,aP.Lg mv (by omega),ay.kp.trans gJ⟩,gJ.Lg (ay.Lg (f9.Lg kl)) (by omega),((kM.ext f9).ext ay).kp gJ (by omega) (by omega)⟩
 ·rintro v wz ⟨rfl,iB,Ik,et⟩;refine⟨_,_,iB,by simp,λwy ip=>?_⟩;have zz:=et.size;have zy:=ip.size;have Il:=ip.Lg Ik (by omega);have xB:=ip.heap (et.heap hD (by omega)) (by omega);refine Ld$ qN O$ qV (Lj U3 O O Il O)$ Lk O$ z6y (by simp) (Ud xB) Tryz.func14 O ?_;have z3:=ah.size;have dm:Kp (λk=>k=w3.heap.size) wy (Pb [.mk w3.heap.size] wy):=MM wy w3.heap.size (.deferred none);have CJ:Kp (λk=>k=l\/k=b3\/k=w3.heap.size) w3 (Pb [.mk w3.heap.size] wy):=((f9.kp.trans (et.Lv λk e=>by omega)).trans (ip.Lv λk e=>by omega)).trans (dm.Lv λk e=>by omega);exact⟨_,rfl,rfl,db.It CJ (λk e=>by omega)⟩
end
section
variable {w w':World}{m gi a:Nat}{L:List Bool}{S:Nat->Prop}
theorem ZM (h:SY w m gi L)(hp:Pre L a){n:Nat}(cT:1<=n)(ou:a+n<=L.length):LP Tryz.prog 90 [ptr m 0,I (n:Int)] w λv w'=>v= .tuple #[.agg #[I (a:Int),I (n:Int)],I 0]/\SY w' m gi (MZ L a n true)/\Kp (λk=>k=gi) w w':=by
 have hn:=h.n
 refine Lb (e:=[(0,_),(1,_)]) Tryz.func90 O Tryz.ntmps90 O O$ qN O$ Lm O O (Nc O (cs:=[ptr m 0]) O) ?_
 rintro _ w1 ⟨b2,rfl,c6,ad,am⟩
 refine Lm O O (Nc O (cs:=[I (n:Int)]) O) ?_
 rintro _ w2 ⟨b3,rfl,eB,ag,aq⟩
 refine Lm O O (NJ (cs:=[_,_]) MX O) ?_
 rintro _ w3 ⟨b4,rfl,gn,ah,aF⟩
 refine Lm O O (NJ (cs:=[_]) z54 O) ?_
 rintro _ w4 ⟨b5,rfl,gQ,ay,aI⟩
 have l2:=am.lt
 have l3:=aq.lt
 have l4:=aF.lt
 have l5:=aI.lt
 have z1:=ad.size
 have z2:=ag.size
 have z3:=ah.size
 have z4:=ay.size
 have gz:=ay.Lg (ah.Lg (ag.Lg am))
 have dg:=ay.Lg (ah.Lg aq)
 have cw:=ay.Lg aF
 refine Lf$ run_seq$ Lc$ qN O$ qV ((by first|exact Lj Xj O O gz O|exact Lj Xj O O dg O)) ?_
 refine qV (Ml Xj O O)$ Lk O$ An O$ qN O$ qV ((by first|exact Lj U3 O O gz O|exact Lj U3 O O dg O)) ?_
 refine Mw O O$ M5$ Lk O$ An O$ py$ Ld$ run_seq$ qN O$ qV ((by first|exact Lj Xj O O gz O|exact Lj Xj O O dg O)) ?_
 refine LD zdt O (Ug w4 m) ?_
 rintro _ w5 ⟨bm,rfl,kl,me,aX⟩
 have bK:=(((ad.trans ag).trans ah).trans ay).trans aX
 have qB:=h.ext bK
 have lm:=kl.lt
 have lmm:=h.ltm
 have lmg:=h.ltg
 have z5:=aX.size
 refine Lf$ Lc$ Px (ps:=[17]) (p:=[]) (q:=[_]) O zb0 ?_
 rintro l wl f9 dN cF hD Rc dL eV
 have CI:=z5Y dL eV
 have zl:=f9.size
 have vY:=aX.trans f9
 refine LP.mono (U6 (qB.ext f9) hp (by omega) (f9.Lg kl)
  (λw'=>Rc .done (some .ret) w'/\Lq w' b4 [I (a:Int),I (n:Int)] 108/\Lq w' b5 [I 0] 35/\SY w' m gi (MZ L a n true)/\Kp (λk=>k=l\/k=b4\/k=b5\/k=gi) wl w')
  (λw w' h hx=>⟨hx.kp.rc (S:=λ_=>False) dL h.1 id,hx.Lg h.2.1,hx.Lg h.2.2.1,h.2.2.2.1.ext hx,h.2.2.2.2.trans hx.kp⟩) ?_) ?_
 ·intro w6 aK;have iB:=Kp.rc (S:=λ_=>False) aK dL eV id;have z6:=aK.size;refine QO dL iB O O$ Li O$ Lm O O (NJ (cs:=[_,_]) MX O) ?_;rintro _ w7 ⟨b6,rfl,m7,cg,aR⟩;refine Ls O (M7 (news:=[I (a:Int),I ((L.length-a:Nat):Int)]) MX O O O O aR (by simp)) ?_;rintro w8 ⟨il,bB⟩;replace il:Lq w8 b6 [I (a:Int),I ((L.length-a:Nat):Int)] 108:=il;have ic:Ext w6 w8:=cg.It bB (λj e=>by omega);have CK:=Kp.rc (S:=λ_=>False) ic dL iB id;have z8:=ic.size;have l6:=il.lt;refine Lf$ run_beginRound O dL CK ?_;rintro w9 h9 aP;have pG:=(vY.trans aK).trans ic;have nr:=aP.Lg (pG.Lg dg) (by omega);have pH:=aP.Lg (pG.Lg gz) (by omega);have im:=aP.Lg il (by omega);have Im:=((((qB.ext f9).ext aK).ext ic).kp aP (by omega) (by omega));refine Lc$ qN O$ Lt N2 O$ qV ((by first|exact Lj U3 O O nr O|exact Lj U3 O O pH O|exact Lj U3 O O im O)) ?_;refine qV ((by first|exact Lj U3 O O nr O|exact Lj U3 O O pH O|exact Lj U3 O O im O)) ?_;refine Pa O O$ Ns$ Lf$ Lr O$ qN O$ qV ((by first|exact Lj U3 O O nr O|exact Lj U3 O O pH O|exact Lj U3 O O im O)) ?_;refine Lt N2 O$ Ls O (MY Md O O O im (by simp)) ?_;rintro w10 ⟨gV,ar⟩;replace gV:Lq w10 b6 [I (a:Int),I (n:Int)] 108:=gV;have xC:=ar.Lg pH (by omega);have CL:=Im.kp ar (by omega) (by omega);have dj:=Kp.rc ar dL h9 (by omega);refine qM O$ qV (Lj Xj O O xC O)$ qV (LM (news:=[I (a:Int),I (n:Int)]) S2 O MX O (Lq.cells (n:=2) gV O) O)$ LD z9N O (Y7 CL a n true ou) ?_;rintro _ w11 ⟨rfl,CM,bA⟩;have xD:=bA.Lg gV (by omega);have xE:=bA.Lg (ar.Lg (aP.Lg (pG.Lg cw) (by omega)) (by omega)) (by omega);have xF:=bA.Lg (ar.Lg (aP.Lg (pG.Lg aI) (by omega)) (by omega)) (by omega);have ko:=Kp.rc bA dL dj (by omega);refine Lf$ LS.qb (e:=[(4,_),(5,_),(6,_)]) ?_;refine qN O$ qV (LM (news:=[I (a:Int),I (n:Int)]) S2 O MX O (Lq.cells (n:=2) xD O) O)$ Ls O (M7 (news:=[I (a:Int),I (n:Int)]) MX O O O O xE (by simp)) ?_;rintro w12 ⟨xG,aS⟩;refine Ls O (MY z54 O O O (aS.Lg xF (by omega)) (by simp)) ?_;rintro w13 ⟨xH,df⟩;have sM:=Kp.rc df dL (Kp.rc aS dL ko (by omega)) (by omega);refine Lf ?_
  -- AT: Code.ret
  refine TA dL sM ?_;intro w14 CN ce
  exact .inr ⟨rfl,CN,ce.Lg (df.Lg xG (by omega)) (by omega),ce.Lg xH (by omega),((CM.kp aS (by omega) (by omega)).kp df (by omega) (by omega)).kp ce (by omega) (by omega),
   (((((((aK.kp.trans ic.kp).trans (aP.Lv λk e=>by omega)).It ar (λk e=>by omega)).trans (bA.Lv λk e=>by omega)).trans (aS.Lv λk e=>by omega)).trans (df.Lv λk e=>by omega)).trans (ce.Lv λk e=>by omega))⟩
 ·rintro v wz ⟨rfl,iB,CO,CP,In,et⟩;refine⟨_,_,iB,by simp,λwy ip=>?_⟩;have zz:=et.size;have zy:=ip.size;have CQ:=ip.Lg CO (by omega);have CR:=ip.Lg CP (by omega);have xB:=ip.heap (et.heap hD (by omega)) (by omega);have dm:=MM wy w5.heap.size (.deferred none);have Io:=dm.Lg CQ (by omega);have Ip:=dm.Lg CR (by omega);refine Sk (by simp) (Ud xB) Tryz.func90 (.cell S2 O MX O (Lq.cells (n:=2) Io (news:=[_,_]) O) O (.cell1 U35 O O ((Ip).cell _) .nil)) ?_;have CS:Kp (λk=>k=gi) w (Pb [.mk w5.heap.size] wy):=((((bK.kp.trans f9.kp).It et (λk e=>by omega)).It ip (λk e=>by omega)).It dm (λk e=>by omega));exact⟨_,rfl,rfl,(In.kp ip (by omega) (by omega)).kp dm (by omega) (by omega),CS⟩
end
end Go.Proofs.YtfgjaafcgghnoaaGreatDoor
