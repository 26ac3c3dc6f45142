/- Merged by program. -/
import Derived.Test.YtfgjaafcgghnoaaGreatDoorCTp4
import Derived.WideLaws
set_option linter.all false
set_option maxRecDepth 1000000
set_option maxHeartbeats 16000000
namespace Go.Proofs.YtfgjaafcgghnoaaGreatDoor
open Go Go.RowKit
structure Fm where
 n:Nat
 u:Nat
 width:Nat
 bits:Nat
def fmC (f:Fm):List Value:=[I (f.n:Int),Mh f.u,I (f.width:Int),I (f.bits:Int)]
abbrev fmV (f:Fm):Value:= .agg (fmC f).toArray
def Uo (n u:Nat):Nat:=if u / n=0 then 0 else MR (u / n)-1
def Qq (n u:Nat):Fm:=⟨n,u,Uo n u,(u-1) / 2^Uo n u+n⟩
def Fm.high (f:Fm):Nat:=12+(f.n*f.width+7) / 8
def Fm.Ru (f:Fm):Nat:=f.high+(f.bits+7) / 8
def Fm.size (f:Fm):Nat:=f.Ru+4*((f.n+63) / 64)
theorem VE {n u:Nat}(hu:u<=1000000000):Uo n u<=30:=by
 unfold Uo
 split
 ·omega
 ·have h1:u / n<=u:=Nat.div_le_self _ _;have h2:MR (u / n)<=30:=NR (by omega);omega
theorem XK {n u:Nat}(hn:1<=n)(hu:1<=u):(u-1) / 2^Uo n u<2*n:=by
 have h2:0<2^Uo n u:=Nat.two_pow_pos _
 rw[Nat.div_lt_iff_lt_mul h2]
 unfold Uo
 split
 ·rename_i h
  have:u<n:=by
   rcases Nat.lt_or_ge u n with h1|h1
   ·exact h1
   ·have:=Nat.div_pos h1 (by omega);omega
  simp;omega
 ·rename_i h
  have h3:u / n<2^MR (u / n):=Tl;have h4:MR (u / n)≠0:=λe=>by rw[e,Nat.pow_zero] at h3;exact h (Nat.lt_one_iff.1 h3)
  obtain⟨k,hk⟩:∃k,MR (u / n)=k+1:=⟨MR (u / n)-1,by omega⟩;rw[hk] at h3⊢;rw[Nat.add_sub_cancel]
  have h5:u<n*2^(k+1):=by
   have:=(Nat.div_lt_iff_lt_mul (show 0<n by omega)).1 h3
   rwa [Nat.mul_comm] at this
  rw[Nat.pow_succ] at h5;have e:n*(2^k*2)=2*n*2^k:=by rw[Nat.mul_comm (2^k) 2,<-Nat.mul_assoc,Nat.mul_comm n 2]
  omega
theorem z6f {n u:Nat}(hn:1<=n)(hu:1<=u):(Qq n u).bits<=3*n:=by
 have:=XK hn hu
 show(u-1) / 2^Uo n u+n<=_
 omega
theorem Uj (n u:Nat)(hn:1<=n)(ia:n<=1000)(hu:1<=u)(mg:u<=1000000000)(w:World):Mw Tryz.prog 126 [I (n:Int),Mh u] w λv w'=>v=fmV (Qq n u)/\Ext w w':=by
 have uw:=VE (n:=n) mg
 have fj:=XK hn hu
 have hq:u / n<=u:=Nat.div_le_self _ _
 obtain⟨q,sS⟩:∃q,u / n=q:=⟨_,rfl⟩
 have FK:Uo n u=if q=0 then 0 else MR q-1:=by rw[Uo,sS]
 rw[sS] at hq
 have Ci:MR q<=30:=NR (by omega)
 refine It (e:=[(0,_),(1,_)]) Tryz.func126 O Tryz.ntmps126 O O$ qN O$ M5 O O (Oo (cs:=[_,_,_,_]) Q0 O) ?_
 rintro _ w1 ⟨b4,rfl,f9,ad,aH⟩
 refine qM O$ Md O O$ qV (OO (cs:=[_,_,_,_]) Q0 O zcX O O)$ M5 O O (Oo (cs:=[_,_,_,_]) Q0 O) ?_
 rintro _ w2 ⟨b5,rfl,fE,af,aI⟩
 have z1:=ad.size
 have z2:=af.size
 have l4:=aH.lt
 have l5:=aI.lt
 refine Mb O (MO (news:=[I (n:Int),Mh u,I 0,I 0]) Q0 O O O O aI (by simp)) ?_
 rintro w3 ⟨iu,au⟩
 replace iu:M7 w3 b5 [I (n:Int),Mh u,I 0,I 0] 238:=iu
 have dC:Ext w w3:=(ad.trans af).LS au (λi e=>by omega)
 have dR:=au.LY (af.LY aH) (by omega)
 have z3:=au.size
 refine LX$ run_seq$ qN O$ LW O$ O3 O O$ ML$ LX$ An O$ py$ run_seq$ qN O$ Md O O$ qV ((by first|exact MQ O U3 Nv (by omega)|exact Ob O U3 Nv)) ?_
 refine qV (zey (m:=u) (n:=n) O O O (by show u<2^64;omega) (by omega)) ?_
 rw[sS]
 refine Me O$ qM O$ LW O$ Ng O O$ LX$ MM (λe' w'=>e'=[(0,I (n:Int)),(1,Mh u),(4,ptr b4 0),(5,ptr b5 0)]/\Ext w w'/\M7 w' b5 [I (n:Int),Mh u,I (Uo n u:Int),I 0] 238/\M7 w' b4 [I 0,Mh 0,I 0,I 0] 238) ?cA$ λcA=>?cS
 case cA=>
  rintro e' w4 ⟨rfl,ay,gJ,cw⟩;refine qN O$ LW O$ qV (SC (m:=u) (n:=1) O O O (by show u<2^64;omega) (by omega)) ?_;refine Ma PV O$ qV (M1 U3 O O gJ O)$ qV (Qy (Uo n u) (2^Uo n u) O O (by show Uo n u<=64;omega) O) ?_
  generalize I9:(u-1) / 2^Uo n u=qb at fj
  refine qV (MK O Nv U3 (by omega))$ LW O$ MT O O$ Ma UG O$ Mb O (NT MV O O O gJ (by simp)) ?_;rintro w5 ⟨sT,ak⟩;replace sT:M7 w5 b5 [I (n:Int),Mh u,I (Uo n u:Int),I ((qb+n:Nat):Int)] 238:=sT;refine qM O$ qV (Mv z1R O Q0 O (M7.cells (n:=4) sT (news:=[_,_,_,_]) O) O)$ Mb O (MO (news:=[I (n:Int),Mh u,I (Uo n u:Int),I ((qb+n:Nat):Int)]) Q0 O O O O (ak.LY cw (by omega)) (by simp)) ?_;rintro w6 ⟨bV,aR⟩;replace bV:M7 w6 b4 [I (n:Int),Mh u,I (Uo n u:Int),I ((qb+n:Nat):Int)] 238:=bV;refine LX$ Mt Tryz.func126 (.cell z1R O Q0 O (M7.cells (n:=4) bV (news:=[_,_,_,_]) O) O .nil) (⟨_,rfl,?_,(ay.LS ak (λi e=>by omega)).LS aR (λi e=>by omega)⟩);unfold fmV fmC Qq;rw[I9]
  rfl
 case cS=>
  refine M8 O (λh0=>?_)$ λh0=>?_
  ·refine M0 O$ LW O$ Mn YN O (QP q (by omega) _) ?_;rintro _ w3 ⟨rfl,rfl⟩;have sj:MR q≠0:=λe=>by have:=Tl (v:=q);rw[e] at this;omega
   refine Oa O O ?_;rw[show(MR q:Int)-1=(Uo n u:Int) by rw[FK,if_neg (by omega)];omega];refine Ma PV O$ Mb O (NT MV O O O iu (by simp)) ?_;rintro w4 ⟨gJ,av⟩;replace gJ:M7 w4 b5 [I (n:Int),Mh u,I (Uo n u:Int),I 0] 238:=gJ;refine LX ?_;exact(cA _ _ ⟨rfl,dC.LS av (λi e=>by omega),gJ,av.LY dR (by omega)⟩).qb
  ·have mM:Uo n u=0:=by rw[FK,if_pos (by omega)]
   refine py ?_;exact(cA _ _ ⟨rfl,dC,by rw[mM];exact iu,dR⟩).qb
def Fm.small (f:Fm):Prop:=f.n<=100000/\f.width<=64/\f.bits<=1000000
theorem z0q (f:Fm)(hf:f.small)(w:World):Mw Tryz.prog 211 [fmV f] w λv w'=>v=I (f.high:Int)/\Ext w w':=by
 obtain⟨h1,h2,h3⟩:=hf
 have hm:f.n*f.width<=100000*64:=Nat.mul_le_mul h1 h2
 refine It (e:=[(0,_)]) Tryz.func211 O Tryz.ntmps211 O O$ qN O$ M5 O O (O2 O (cs:=fmC f) O) ?_
 rintro _ w1 ⟨b1,rfl,bR,ad,aj⟩
 replace aj:M7 w1 b1 [I (f.n:Int),Mh f.u,I (f.width:Int),I (f.bits:Int)] 238:=aj
 refine Me O$ qM O$ Ma UC O$ qV (M1 U3 O O aj O)$ Ma PV O$ qV (M1 U3 O O aj O) ?_
 have qv:((f.n*f.width:Nat):Int)=(f.n:Int)*(f.width:Int):=Int.natCast_mul _ _
 refine qV (SB O O (by rw[<-qv];omega)) ?_
 rw[<-qv]
 refine MT O O$ qV (Te O O (by omega))$ MT O O$ M4 O$ LZ Tryz.func211 O (⟨_,rfl,?_,ad⟩)
 show I (12+(((f.n*f.width:Nat):Int)+7) / 8)=I ((12+(f.n*f.width+7) / 8:Nat):Int)
 congr 1
theorem Fm.Tm {f:Fm}(hf:f.small):f.high<=10000000:=by
 obtain⟨h1,h2,h3⟩:=hf
 have hm:f.n*f.width<=100000*64:=Nat.mul_le_mul h1 h2
 unfold Fm.high
 omega
theorem z1x (f:Fm)(hf:f.small)(w:World):Mw Tryz.prog 180 [fmV f] w λv w'=>v=I (f.Ru:Int)/\Ext w w':=by
 have oE:=Fm.Tm hf
 obtain⟨h1,h2,h3⟩:=id hf
 refine It (e:=[(0,_)]) Tryz.func180 O Tryz.ntmps180 O O$ qN O$ M5 O O (O2 O (cs:=fmC f) O) ?_
 rintro _ w1 ⟨b1,rfl,bR,ad,aj⟩
 replace aj:M7 w1 b1 [I (f.n:Int),Mh f.u,I (f.width:Int),I (f.bits:Int)] 238:=aj
 have hg:=Ext.Mm w1
 refine M4 O$ run_seq$ NV (λw'=>Ext w1 w') O$ qT 0 O (λ_ h=>Mv z1R O Q0 O (M7.cells (n:=4) (h.LY aj) (news:=[_,_,_,_]) O) O) hg$ M3 2 O (My UG O) hg$ qT 3 O (λ_ h=>M1 U3 O O (h.LY aj) O) hg$ M3 4 O (R4 O O (by omega)) hg$ M3 5 O (Te O O (by omega)) hg$ Pm 1 O zaf O (z0q f hf _) ?_
 rintro _ w2 ⟨rfl,af⟩
 refine⟨hg.trans af,?_⟩
 refine M3 6 O (R4 O O (by omega)) (hg.trans af)$ M3 7 O (NX O) (hg.trans af)$ qE$ LZ Tryz.func180 O (⟨_,rfl,?_,(ad.trans hg).trans af⟩)
 show I ((f.high:Int)+((f.bits:Int)+7) / 8)=I ((f.high+(f.bits+7) / 8:Nat):Int)
 congr 1
theorem Z5 (f:Fm)(hf:f.small)(w:World):Mw Tryz.prog 170 [fmV f] w λv w'=>v=I (f.size:Int)/\Ext w w':=by
 have oE:=Fm.Tm hf
 obtain⟨h1,h2,h3⟩:=id hf
 have fT:f.Ru<=20000000:=by unfold Fm.Ru;omega
 refine It (e:=[(0,_)]) Tryz.func170 O Tryz.ntmps170 O O$ qN O$ M5 O O (O2 O (cs:=fmC f) O) ?_
 rintro _ w1 ⟨b1,rfl,bR,ad,aj⟩
 replace aj:M7 w1 b1 [I (f.n:Int),Mh f.u,I (f.width:Int),I (f.bits:Int)] 238:=aj
 have hg:=Ext.Mm w1
 refine M4 O$ run_seq$ NV (λw'=>Ext w1 w') O$ qT 0 O (λ_ h=>Mv z1R O Q0 O (M7.cells (n:=4) (h.LY aj) (news:=[_,_,_,_]) O) O) hg$ M3 2 O (My UC O) hg$ qT 3 O (λ_ h=>M1 U3 O O (h.LY aj) O) hg$ M3 4 O (R4 O O (by omega)) hg$ M3 5 O (TO O O (by omega)) hg ?_
 rw[show(f.n:Int)+64-1=((f.n+63:Nat):Int) by omega]
 refine M3 6 O (Te O O (by omega)) hg$ M3 7 O (SB O O (by omega)) hg$ Pm 1 O za1 O (z1x f hf _) ?_
 rintro _ w2 ⟨rfl,af⟩
 refine⟨hg.trans af,?_⟩
 refine M3 8 O (R4 O O (by omega)) (hg.trans af)$ M3 9 O (NX O) (hg.trans af)$ qE$ LZ Tryz.func170 O (⟨_,rfl,?_,(ad.trans hg).trans af⟩)
 show I ((f.Ru:Int)+4*(((f.n+63:Nat):Int) / 64))=I ((f.Ru+4*((f.n+63) / 64):Nat):Int)
 congr 1
theorem Zk {n u:Nat}(hn:1<=n)(ia:n<=1000)(hu:1<=u)(mg:u<=1000000000):(Qq n u).small:=by
 have h1:=z6f hn hu
 have h2:=VE (n:=n) mg
 refine⟨?_,?_,by omega⟩
 ·show n<=_;omega
 ·show Uo n u<=_;omega
theorem z2g (n last:Nat)(hn:1<=n)(ia:n<=1000)(mg:last+1<=1000000000)(w:World):Mw Tryz.prog 168 [I (n:Int),Mh last] w λv w'=>v= .tuple #[I ((Qq n (last+1)).size:Int),I 0]/\Ext w w':=by
 refine It (e:=[(0,_),(1,_)]) Tryz.func168 O Tryz.ntmps168 O O$ qN O$ Me O$ M4 O$ run_seq$ LU$ qN O$ LW O$ Ni O O$ Md O O$ Ng O O$ ML$ MN O O$ Md O O ?_
 refine Ng O O$ ML$ MN O O$ Md O O$ O3 O O$ ML$ LW O$ qS$ qS$ MN O O$ MN O O$ M4 O$ An O$ qN O ?_
 refine LW O$ O3 O O$ ML$ M4 O$ Mz.qb (e:=[(0,_),(1,_),(4,_),(5,_),(25,_)]) ?_
 refine An O$ py$ LV$ qN O$ Md O O$ qV (RD O O) ?_
 rw[Nat.mod_eq_of_lt (show last+1<18446744073709551616 by omega)]
 refine Mn z6y O (Uj n (last+1) hn ia (by omega) mg _) ?_
 rintro _ w1 ⟨rfl,ad⟩
 refine Mn zak O (Z5 _ (Zk hn ia (by omega) mg) _) ?_
 rintro _ w2 ⟨rfl,af⟩
 refine Me O$ M4 O$ LZ Tryz.func168 O ?_
 exact⟨_,rfl,rfl,ad.trans af⟩
theorem z6k {w:World}{a:Option Addr}{c:Nat}{l:List Nat}(hl:l.length<=1000)(hn:Nof l)(hm:∀v∈l,v<=1000000000)(hR:Rd w (.slice a l.length c) 1 l.length (l.map Mh)):Mw Tryz.prog 125 [.slice a l.length c] w λv w'=>v= .bool true/\w'=w:=by
 refine It (e:=[(0,_)]) Tryz.func125 O Tryz.ntmps125 O O$ qN O$ M4 O$ run_seq$ qN O$ LW O$ O9 VI O$ Ng O O$ ML$ LX$ An O$ py$ qN O$ M4 O ?_
 refine run_seq$ qN O$ LW O$ O9 VI O$ LW O$ LX$ LU$ Oh (α:=Nat×Nat) ((0,0)) (λy=>[(3,Mh y.2),(9,.slice a l.length c),(10,I (l.length:Int)),(11,I (y.1:Int))]) (λy w'=>w'=w/\y.1<=l.length/\y.2<=1000000000/\∀v,l[y.1]? =some v->y.2<=v) (λy=>l.length-y.1) ?hI ?hround
 case hI=>exact⟨rfl,Nat.zero_le _,Nat.zero_le _,λv _=>Nat.zero_le _⟩
 case hround=>
  rintro⟨i,z⟩ w4 ⟨rfl,hi,hz,zO⟩ ih;dsimp only at hi hz zO
  try dsimp only
  refine qN O$ Ni O O$ LX$ run_seq$ M8 O (λh0=>?_)$ λh0=>?_
  ·have dA:i<l.length:=by omega
   obtain⟨v,hv⟩:∃v,l[i]? =some v:=⟨_,List.getElem?_eq_getElem dA⟩;have Ia:=zO v hv;have Cj:=hm v (List.mem_of_getElem? hv)
   obtain⟨gb,go,gc',e4⟩:∃b o c',Value.slice a l.length c= .slice (some ⟨b,o,none⟩) l.length c':=by
    rcases hR.2 with⟨c,hc,h0⟩|⟨b,off,c',hc,-⟩
    ·omega
    ·exact⟨b,off,c',hc⟩
   cases e4;refine py$ run_seq$ LU$ qN O$ qV (MS VI Rq O O (by omega))$ qV (MA Nv O O (Na hR (show(l.map Mh)[i]? =some (Mh v) by rw[List.getElem?_map,hv];rfl))) ?_;refine M4 O$ run_seq$ qN O$ Md O O$ Ni O O$ ML$ Md O O$ Ng O O$ ML$ MN O O$ LX$ An O$ py$ M0 O ?_;refine LW O$ M4 O$ LV$ M0 O$ MT O O$ LW O$ LX ((ih (i+1,v) _ ⟨rfl,dA,Cj,λu hu=>?_⟩ (by dsimp only;omega)).qb);obtain⟨a1,a2⟩:=List.getElem?_eq_some_iff.1 hv;obtain⟨b1,b2⟩:=List.getElem?_eq_some_iff.1 hu;have:=List.pairwise_iff_getElem.1 hn i (i+1) a1 b1 (by omega)
   rwa [a2,b2] at this
  ·refine M6 O$ qN O$ M4 O$ LZ Tryz.func125 O ?_;exact⟨_,rfl,rfl,rfl⟩
def P6 (k:Nat)(l:List Nat):List Bool:=l.flatMap λv=>bitsN k (v%2^k)
def restB (k:Nat):List Nat->List Bool
 |[]=>[]
 |v::_=>bitsN 32 (v / 2^k)
theorem z5w (k:Nat)(l:List Nat)(v:Nat):P6 k (l++[v])=P6 k l++bitsN k (v%2^k):=by simp[P6]
theorem Ra (k:Nat):∀l:List Nat,(P6 k l).length=l.length*k
 |[]=>by simp[P6]
 | v :: l => by
   show(bitsN k (v%2^k)++P6 k l).length=_;rw[List.length_append,Ra k l,bitsN_length,List.length_cons,Nat.add_mul];omega
theorem z0w (k:Nat):∀(l:List Nat) (len i v:Nat),Nof (l++[v])->(∀x,(l++[v]).head? =some x->len<=x / 2^k+i)->
  len+(hiB k len i l).length<=v / 2^k+(i+l.length)/\hiB k len i (l++[v])=hiB k len i l++(List.replicate (v / 2^k+(i+l.length)-(len+(hiB k len i l).length)) false++[true])
 | [], len, i, v, _, hl => by
   have:=hl v O;refine⟨by simp[hiB];omega,?_⟩
   simp[hiB]
 | x :: r, len, i, v, hn, hl => by
   have hx:=hl x O;rw[List.cons_append] at hn;obtain⟨n1,n2⟩:=List.pairwise_cons.1 hn
   obtain⟨h1,h2⟩:=z0w k r (x / 2^k+i+1) (i+1) v n2 (λy hy=>by
    have nu:y∈r++[v]:=List.mem_of_mem_head? hy;have:=Nat.div_le_div_right (c:=2^k) (n1 y nu)
    omega)
   rw[List.cons_append,hiB,hiB,h2,List.length_append,List.length_replicate,List.length_cons,List.length_cons];refine⟨by omega,?_⟩;rw[List.append_assoc,List.cons_append,show v / 2^k+(i+1+r.length)-(x / 2^k+i+1+(hiB k (x / 2^k+i+1) (i+1) r).length)=v / 2^k+(i+(r.length+1))-(len+(x / 2^k+i-len+((hiB k (x / 2^k+i+1) (i+1) r).length+1))) by omega]
theorem z2U (k:Nat)(l:List Nat)(v:Nat):restB k (l++[v])=restB k l++if l.length=0 then bitsN 32 (v / 2^k) else []:=by
 cases l with
 |nil=>simp[restB]
 |cons x l=>simp[restB]
def Up (l:List Nat)(f:Fm):Bytes:=Ms (bitsN 32 f.n++bitsN 64 f.u)++Ms (P6 f.width l)++Ms (hiB f.width 0 0 l)++Ms (restB f.width l)
theorem z6K {b:Nat}:∀{l:List Nat},(∀x∈l,x<=b)->l.sum<=l.length*b
 |[],_=>by simp
 | x :: l, h => by
   have h1:=h x List.mem_cons_self;have h2:=z6K (λy hy=>h y (List.mem_cons_of_mem x hy));rw[List.sum_cons,List.length_cons,Nat.add_mul];omega
theorem z5B (k:Nat)(l:List Nat):(restB k l).length<=32:=by
 cases l with
 |nil=>simp[restB]
 |cons v l=>simp[restB]
theorem XE (k:Nat){l:List Nat}(hn:Nof l){z:Nat}(hz:l[l.length-1]? =some z):(hiB k 0 0 l).length=z / 2^k+l.length:=by
 have:=z3J k l 0 0 hn (λx hx=>Nat.zero_le _) z (by rw[List.getLast?_eq_getElem?];exact hz)
 omega
/-! ### Three writers side by side -/
def z6m (A B:Nat->Prop):Prop:=∀k,A k->¬B k
structure EfW (w0 w:World)(b5:Nat)(f:Fm)(p1 p2 p3:Nat)(l1 l2 l3:List Bool):Prop where
 ex:∃F1 F2 F3:Nat->Prop,UT w p1 l1 F1/\UT w p2 l2 F2/\UT w p3 l3 F3/\z6m F1 F2/\z6m F2 F3/\z6m F3 F1/\∀k,F1 k\/F2 k\/F3 k->w0.heap.size<=k/\k≠b5
 ext:Ext w0 w
 LY:M7 w b5 (fmC f) 238
section
variable {w0 w:World}{b5:Nat}{f:Fm}{p1 p2 p3:Nat}{l1 l2 l3:List Bool}
theorem EfW.rot (h:EfW w0 w b5 f p1 p2 p3 l1 l2 l3):EfW w0 w b5 f p2 p3 p1 l2 l3 l1:=by
 obtain⟨⟨F1,F2,F3,h1,h2,h3,h4,h5,h6,h7⟩,hx,hb⟩:=h
 exact⟨⟨F2,F3,F1,h2,h3,h1,h5,h6,h4,λk hk=>h7 k (by rcases hk with e|e|e;exact .inr (.inl e);exact .inr (.inr e);exact .inl e)⟩,hx,hb⟩
theorem EfW.on (h:EfW w0 w b5 f p1 p2 p3 l1 l2 l3){w2:World}(hx:Ext w w2):EfW w0 w2 b5 f p1 p2 p3 l1 l2 l3:=by
 obtain⟨⟨F1,F2,F3,h1,h2,h3,h4,h5,h6,h7⟩,gP,hb⟩:=h
 exact⟨⟨F1,F2,F3,h1.ext hx,h2.ext hx,h3.ext hx,h4,h5,h6,h7⟩,gP.trans hx,hx.LY hb⟩
theorem EfW.z92 (h:EfW w0 w b5 f p1 p2 p3 l1 l2 l3):∃F1,UT w p1 l1 F1/\¬F1 b5/\(∀w2 l,WrR p1 F1 w w2 l->EfW w0 w2 b5 f p1 p2 p3 l l2 l3):=by
 obtain⟨⟨F1,F2,F3,h1,h2,h3,h4,h5,h6,h7⟩,gP,hb⟩:=h
 refine⟨F1,h1,λe=>(h7 b5 (.inl e)).2 O,λw2 l hr=>?_⟩
 obtain⟨F1',g1,g2,g3⟩:=hr
 have z:=gP.size
 have lb:=hb.lt
 refine⟨⟨F1',F2,F3,g1,h2.kp g2 (λi hi e=>h4 i e hi),h3.kp g2 (λi hi e=>h6 i hi e),λk hk e=>?_,h5,λk hk e=>?_,λk hk=>?_⟩,gP.LS g2 (λk hk=>(h7 k (.inl hk)).1),g2.LY hb (λe=>(h7 b5 (.inl e)).2 O)⟩
 ·rcases g3 k hk with e1|e1
  ·exact h4 k e1 e
  ·have:=h2.lt e;omega
 ·rcases g3 k e with e1|e1
  ·exact h6 k hk e1
  ·have:=h3.lt hk;omega
 ·rcases hk with hk|hk
  ·rcases g3 k hk with e1|e1
   ·exact h7 k (.inl e1)
   ·exact⟨by omega,by omega⟩
  ·exact h7 k (.inr hk)
theorem EfW.z8v (h:EfW w0 w b5 f p1 p2 p3 l1 l2 l3):∃F2,UT w p2 l2 F2/\(∀w2 l,WrR p2 F2 w w2 l->EfW w0 w2 b5 f p1 p2 p3 l1 l l3):=by
 obtain⟨F2,h1,-,h2⟩:=h.rot.z92
 exact⟨F2,h1,λw2 l hr=>(h2 w2 l hr).rot.rot⟩
theorem EfW.zeF (h:EfW w0 w b5 f p1 p2 p3 l1 l2 l3):∃F3,UT w p3 l3 F3/\(∀w2 l,WrR p3 F3 w w2 l->EfW w0 w2 b5 f p1 p2 p3 l1 l2 l):=by
 obtain⟨F3,h1,-,h2⟩:=h.rot.rot.z92
 exact⟨F3,h1,λw2 l hr=>(h2 w2 l hr).rot⟩
end
theorem z0H {w:World}{a:Option Addr}{c:Nat}{l:List Nat}(cU:1<=l.length)(hn:l.length<=64)(lZ:Nof l)(hm:∀v∈l,v<=999999999)(hR:Rd w (.slice a l.length c) 1 l.length (l.map Mh)){z:Nat}(hz:l[l.length-1]? =some z):
  Mw Tryz.prog 88 [.slice a l.length c] w λv w'=>v= .tuple #[S (Up l (Qq l.length (z+1))),I 0]/\Ext w w':=by
 have Lg:=hm z (List.mem_of_getElem? hz)
 have FM:∀v∈l,v<=z:=λv hv=>by
  obtain⟨j,hj⟩:=List.mem_iff_getElem?.1 hv;obtain⟨a1,a2⟩:=List.getElem?_eq_some_iff.1 hj;obtain⟨b1,b2⟩:=List.getElem?_eq_some_iff.1 hz;rcases Nat.lt_or_ge j (l.length-1) with h| h
  ·have:=List.pairwise_iff_getElem.1 lZ j (l.length-1) a1 b1 h
   rwa [a2,b2] at this
  ·have e:j=l.length-1:=by omega
   subst e;rw[hz] at hj;cases hj;exact Nat.le_refl _
 have uw:=VE (n:=l.length) (u:=z+1) (by omega)
 have nv:=XK (n:=l.length) (u:=z+1) cU (by omega)
 rw[Nat.add_sub_cancel] at nv
 obtain⟨gb,go,gc',e4⟩:∃b o c',Value.slice a l.length c= .slice (some ⟨b,o,none⟩) l.length c':=by
  rcases hR.2 with⟨c,hc,h0⟩|⟨b,off,c',hc,-⟩
  ·omega
  ·exact⟨b,off,c',hc⟩
 cases e4
 refine It (e:=[(0,_)]) Tryz.func88 O Tryz.ntmps88 O O$ qN O$ Me O$ M4 O$ run_seq$ qN O$ LW O$ Mn zcW O (z6k (by omega) lZ (λv hv=>by have:=hm v hv;omega) hR) ?_
 rintro _ w ⟨rfl,rfl⟩
 refine qV ((by first|exact MX O|exact Oy O)) ?_
 refine LX$ An O$ py$ qN O$ M4 O$ run_seq$ qN O$ LW O$ O9 VI O$ Ng O O$ LX$ M8 O (λh0=>?_)$ λh0=>?_
 ·refine M0 O$ Md O O$ O9 VI O$ Oa O O ?_;rw[show(l.length:Int)-1=((l.length-1:Nat):Int) by omega];refine qV (MS VI Rq O O (by omega))$ qV (MA Nv O O (Na hR (show(l.map Mh)[l.length-1]? =some (Mh z) by rw[List.getElem?_map,hz];rfl))) ?_;refine qV (RD O O) ?_;rw[Nat.mod_eq_of_lt (show z+1<18446744073709551616 by omega)];refine Me O$ qM O$ LW O$ O9 VI O$ LW O$ Mn z6y O (Uj l.length (z+1) cU (by omega) (by omega) (by omega) _) ?_;rintro _ w1 ⟨rfl,ad⟩
  generalize hf:Qq l.length (z+1)=f
  have Ib:f.width=Uo l.length (z+1):=by rw[<-hf];rfl
  have ph:f.n=l.length:=by rw[<-hf];rfl
  have zP:f.u=z+1:=by rw[<-hf];rfl
  rw[<-Ib] at uw nv;refine M5 O O (Oo (cs:=[_,_,_,_]) Q0 O) ?_;rintro _ w2 ⟨b5,rfl,fE,af,aI⟩;refine Mb O (MO (news:=fmC f) Q0 O O O O aI (by simp)) ?_;rintro w3 ⟨iu,au⟩;replace iu:M7 w3 b5 (fmC f) 238:=iu;have z1:=ad.size;have z2:=af.size;have lb5:=iu.lt;have aN:Ext w1 w3:=af.LS au (λi e=>by omega);have z3:=aN.size;refine qM O$ Mn Xf O (Rj w3) ?_;rintro _ w4 ⟨p1,F1,rfl,Ck,ay,oq⟩;refine Mn Xf O (Rj w4) ?_;rintro _ w5 ⟨p2,F2,rfl,FN,aW,FO⟩;refine Mn Xf O (Rj w5) ?_;rintro _ w6 ⟨p3,F3,rfl,lQ,aJ,pD⟩;have z4:=ay.size;have z5:=aW.size
  have Ic:EfW w w6 b5 f p1 p2 p3 [] [] []:=⟨⟨F1,F2,F3,(Ck.ext aW).ext aJ,FN.ext aJ,lQ,λk h1 h2=>by have:=Ck.lt h1;have:=FO k h2;omega,λk h1 h2=>by have:=FN.lt h1;have:=pD k h2;omega,λk h1 h2=>by have:=Ck.lt h2;have:=pD k h1;omega,λk hk=>by
   rcases hk with h|h| h
   ·have:=oq k h;omega
   ·have:=FO k h;omega
   ·have:=pD k h;omega⟩,(((ad.trans aN).trans ay).trans aW).trans aJ,aJ.LY (aW.LY (ay.LY iu))⟩
  refine Me O$ Me O$ M4 O$ Mz.qb (e:=[(0,_),(2,_),(3,_),(4,_),(5,_),(6,_),(7,_),(8,_)]) ?_;refine run_seq$ qN O$ LW O$ O9 VI O$ LW O$ LX$ LU$ Oh (α:=Nat) (0) (λi=>[(4,Mh (z+1)),(5,ptr b5 0),(6,ptr p1 0),(7,ptr p2 0),(8,ptr p3 0),(39,.slice (some ⟨gb,go,none⟩) l.length c),(40,I (l.length:Int)),(41,I (i:Int))]) (λi w'=>EfW w w' b5 f p1 p2 p3 (P6 f.width (l.take i)) (hiB f.width 0 0 (l.take i)) (restB f.width (l.take i))/\i<=l.length) (λi=>l.length-i) ?hI ?hround
  case hI=>exact⟨Ic,Nat.zero_le _⟩
  case hround =>
   rintro i w7 ⟨hE,hi⟩ ih
   try dsimp only
   refine qN O$ Ni O O$ LX$ run_seq$ M8 O (λh1=>?_)$ λh1=>?_
   ·have dA:i<l.length:=by omega
    obtain⟨v,hv⟩:∃v,l[i]? =some v:=⟨_,List.getElem?_eq_getElem dA⟩;have Cj:=FM v (List.mem_of_getElem? hv);have FP:v / 2^f.width<=z / 2^f.width:=Nat.div_le_div_right Cj;have pw:(l.take i).length=i:=by rw[List.length_take];omega
    obtain⟨dW,cY⟩:=z0w f.width (l.take i) 0 0 v (by rw[<-MP hv];exact lZ.sublist (List.take_sublist _ _)) (λx hx=>Nat.zero_le _);rw[<-MP hv,Nat.zero_add,Nat.zero_add,pw] at cY;rw[Nat.zero_add,Nat.zero_add,pw] at dW;have Id:(l.take i).length*f.width<=64*30:=Nat.mul_le_mul (by omega) (by omega);have hg:=Ext.Mm w7;obtain⟨F1',Cl,ww,dP⟩:=(hE.on hg).z92;have wG:M7 w7 b5 [I (f.n:Int),Mh f.u,I (f.width:Int),I (f.bits:Int)] 238:=hE.LY;have oz:=Nat.two_pow_pos f.width;have Lh:2^f.width<=2^30:=Nat.pow_le_pow_right (by decide) uw;refine py$ run_seq$ LU$ qN O$ LW O$ qV (MS VI Rq O O (by omega))$ qV (MA Nv O O (Na (hR.ext hE.ext) (show(l.map Mh)[i]? =some (Mh v) by rw[List.getElem?_map,hv];rfl))) ?_;refine Me O$ M4 O$ run_seq$ NV (λw'=>Kp F1' w7 w') O$ Mj 0 O O (hg.kp)$ Mj 1 O O (hg.kp)$ M3 2 O (My PV O) (hg.kp)$ qT 3 O (λ_ h=>M1 U3 O O (h.LY wG ww) O) (hg.kp)$ M3 7 O (My PV O) (hg.kp)$ qT 8 O (λ_ h=>M1 U3 O O (h.LY wG ww) O) (hg.kp)$ M3 4 O (NW f.width (2^f.width) O O (by omega) O) (hg.kp) ?_;rw[show 1*2^f.width%18446744073709551616=2^f.width by rw[Nat.one_mul];exact Nat.mod_eq_of_lt (by omega)];refine M3 5 O (SC (m:=2^f.width) (n:=1) O O O (by show 2^f.width<2^64;omega) (by omega)) (hg.kp) ?_;refine M3 6 O (Rk O O (by omega) (by omega)) (hg.kp) ?_;rw[Nat.and_two_pow_sub_one_eq_mod];refine Pm 9 O T4 O (OP Cl (v%2^f.width) f.width (by omega) (Nat.mod_lt _ oz) (by rw[Ra];omega)) ?_;rintro _ w8 ⟨rfl,fu⟩;refine⟨hg.kp.trans fu.choose_spec.2.1,?_⟩;have zQ:=dP _ _ fu;rw[<-z5w,<-MP hv] at zQ;have sU:M7 w8 b5 [I (f.n:Int),Mh f.u,I (f.width:Int),I (f.bits:Int)] 238:=zQ.LY;obtain⟨F2',pL,dU⟩:=zQ.z8v;refine qE$ qN O$ LW O$ Ma PV O$ qV (M1 U3 O O sU O)$ qV (Qy f.width (2^f.width) O O (by show f.width<=64;omega) O) ?_;have dQ:=z2U f.width (l.take i) v;rw[<-MP hv,pw] at dQ
    generalize v / 2^f.width=vq at dW cY FP dQ
    generalize z / 2^f.width=zq at FP nv
    refine qV (MK O Nv U3 (by omega))$ LW O$ MT O O ?_;rw[show(vq:Int)+(i:Int)=((vq+i:Nat):Int) by omega];refine M4 O$ run_seq$ qN O$ Md O O$ Mn Z3 O (RX pL) ?_;rintro _ w8 ⟨rfl,rfl⟩;refine Oa O O ?_
    generalize Cm:(hiB f.width 0 0 (l.take i)).length=HL at dW cY
    rw[show((vq+i:Nat):Int)-(HL:Int)=((vq+i-(HL+0):Nat):Int) by omega];refine M4 O$ LU$ Oh (α:=Nat) (0) (λy=>[(4,Mh (z+1)),(5,ptr b5 0),(6,ptr p1 0),(7,ptr p2 0),(8,ptr p3 0),(9,I (i:Int)),(11,I ((vq+i:Nat):Int)),(12,I ((vq+i-(HL+y):Nat):Int)),(39,.slice (some ⟨gb,go,none⟩) l.length c),(40,I (l.length:Int)),(41,I (i:Int))]) (λy w'=>EfW w w' b5 f p1 p2 p3 (P6 f.width (l.take (i+1))) (hiB f.width 0 0 (l.take i)++List.replicate y false) (restB f.width (l.take i))/\HL+y<=vq+i) (λy=>vq+i-(HL+y)) ?hI ?hround
    case hI=>exact⟨by simpa using zQ,dW⟩
    case hround=>
     rintro y w9 ⟨Ie,hy⟩ ih2
     try dsimp only
     obtain⟨F2',pL,dU⟩:=Ie.z8v;refine run_seq$ qN O$ LW O$ Ng O O$ LX$ M8 O (λh2=>?_)$ λh2=>?_
     ·obtain⟨m,oF,dD,kX,FQ⟩:∃m,min (vq+i-(HL+y)) 64=m/\1<=m/\m<=64/\HL+y+m<=vq+i:=⟨_,rfl,by omega,by omega,by omega⟩;refine py$ run_seq$ LU$ M0 O$ Md O O$ qV (ymi O O) ?_;rw[show min ((vq+i-(HL+y):Nat):Int) 64=(m:Int) by omega];refine Mn T4 O (OP pL 0 m kX (Nat.two_pow_pos _) (by rw[List.length_append,List.length_replicate,Cm];omega)) ?_;rintro _ w10 ⟨rfl,nw⟩;have kg:=dU _ _ nw;rw[S9,List.append_assoc,List.replicate_append_replicate] at kg;obtain⟨F2'',wH,-⟩:=kg.z8v;refine LX$ LV$ M0 O$ Md O O$ Mn Z3 O (RX wH) ?_;rintro _ w10 ⟨rfl,rfl⟩;rw[show(hiB f.width 0 0 (l.take i)++List.replicate (y+m) false).length=HL+(y+m) by rw[List.length_append,List.length_replicate,Cm]];refine Oa O O ?_;rw[show((vq+i:Nat):Int)-((HL+(y+m):Nat):Int)=((vq+i-(HL+(y+m)):Nat):Int) by omega];refine M4 O ?_;exact(ih2 (y+m) _ ⟨kg,by omega⟩ (by omega)).qb
     ·have If:y=vq+i-HL:=by omega
      subst If;refine M6 O$ qN O$ LW O$ Mn T4 O (OP pL 1 1 (by decide) (by decide) (by rw[List.length_append,List.length_replicate,Cm];omega)) ?_;rintro _ w10 ⟨rfl,nw⟩;have kg:=dU _ _ nw;rw[show bitsN 1 1=[true] from rfl,List.append_assoc,<-cY] at kg;refine qM O$ LW O$ qV (yre O O (by omega))$ O3 O O$ LX$ M8 O (λh3=>?_)$ λh3=>?_
      ·have jS:i=0:=by omega
       obtain⟨F3',Cn,lS⟩:=kg.zeF;refine M0 O$ Md O O$ qV ((by first|exact MQ O U3 Nv (by omega)|exact Ob O U3 Nv)) ?_;refine Mn T4 O (OP Cn (vq+i) 32 (by decide) (by show _<2^32;omega) (by rw[jS];show 0+32<=_;omega)) ?_;rintro _ w11 ⟨rfl,Co⟩;have m4:=lS _ _ Co;refine LX$ LV$ M0 O$ MT O O$ LW O$ LX ((ih (i+1) _ ⟨?_,dA⟩ (by omega)).qb);rw[dQ,if_pos jS];rw[show vq+i=vq by omega] at m4;exact m4
      ·refine py$ LV$ M0 O$ MT O O$ LW O$ LX ((ih (i+1) _ ⟨?_,dA⟩ (by omega)).qb);rw[dQ,if_neg (by omega),List.append_nil];exact kg
   ·have cy:i=l.length:=by omega
    subst cy;rw[List.take_length] at hE;refine M6 O$ qN O$ Mn Xf O (Rj w7) ?_;rintro _ w8 ⟨p4,F4,rfl,lP,dw,FS⟩;have sU:M7 w8 b5 [I (f.n:Int),Mh f.u,I (f.width:Int),I (f.bits:Int)] 238:=(hE.on dw).LY;refine Me O$ qM O$ LW O$ Ma UC O$ qV (M1 U3 O O sU O)$ qV ((by first|exact MQ O U3 Nv (by omega)|exact Ob O U3 Nv)) ?_;refine Mn T4 O (OP lP f.n 32 (by decide) (by show _<2^32;omega) (by simp)) ?_;rintro _ w9 ⟨rfl,F5,zR,aO,uv⟩;have iv:Ext w7 w9:=dw.LS aO FS;have z79:=iv.size;refine qM O$ Md O O$ Mn T4 O (OP zR (z+1) 64 (by decide) (by show _<2^64;omega) (by simp)) ?_;rintro _ w10 ⟨rfl,F6,lw,aq,Li⟩
    have qZ:Ext w7 w10:=iv.LS aq (λk hk=>by
     rcases uv k hk with e| e
     ·exact FS k e
     ·have:=dw.size;omega)
    rw[List.nil_append,<-zP] at lw;refine qM O$ M4 O$ run_seq$ qN O$ Md O O$ Md O O$ M5 O O (SA (cs:=[_,_,_,_]) (zs:=[Value.pointer none,Value.pointer none,Value.pointer none,Value.pointer none]) zbM z4b O (by kernel_rfl) O O O (by decide)) ?_;rintro _ w11 ⟨b100,rfl,⟨FT,aQ,FU⟩,wI⟩;have m4:=hE.on (qZ.trans aQ);obtain⟨tx,iL⟩:∃tx:List Bytes,tx=[Ms (bitsN 32 f.n++bitsN 64 f.u),Ms (P6 f.width l),Ms (hiB f.width 0 0 l),Ms (restB f.width l)]:=⟨_,rfl⟩
    have mu:∀j,(List.take j (List.map List.length tx)).sum<=4000:=λj=>by
     have h1:∀x∈List.take j (List.map List.length tx),x<=1000:=λx hx=>by
      have af:=List.mem_of_mem_take hx;rw[iL] at af;have fd:(P6 f.width l).length<=64*30:=by rw[Ra];exact Nat.mul_le_mul hn (by omega)
      have oE:=XE f.width lZ hz;have gW:=z5B f.width l;simp only[List.map_cons,List.map_nil,MF,List.length_append,bitsN_length] at af;simp only[List.mem_cons,List.not_mem_nil,or_false] at af
      generalize z / 2^f.width=zq at nv oE
      omega
     have h2:=z6K h1;have h3:(List.take j (List.map List.length tx)).length<=4:=by rw[List.length_take,List.length_map,iL];simp;omega
     omega
    have eQ:∀(j:Nat) (x:Bytes),tx[j]? =some x->x.length<=4000:=λj x hx=>by
     have h1:=mu (j+1);rw[MP (q:=x.length) (by rw[List.getElem?_map,hx];rfl),List.sum_append] at h1;simp at h1;omega
    have hq:∀j,j<4->∃q bs F,([ptr p4 0,ptr p1 0,ptr p2 0,ptr p3 0]:List Value)[j]? =some (ptr q 0)/\tx[j]? =some (Ms bs)/\UT w11 q bs F:=λj hj=>by
     obtain⟨F1,h1,-,-⟩:=m4.z92;obtain⟨F2,h2,-⟩:=m4.z8v;obtain⟨F3,h3,-⟩:=m4.zeF;rw[iL];have Cp:j=0\/j=1\/j=2\/j=3:=by omega
     rcases Cp with e|e|e|e<;>subst e
     ·exact⟨p4,_,_,rfl,rfl,lw.ext aQ⟩
     ·exact⟨p1,_,_,rfl,rfl,h1⟩
     ·exact⟨p2,_,_,rfl,rfl,h2⟩
     ·exact⟨p3,_,_,rfl,rfl,h3⟩
    refine O9 zbM O$ LW O$ LX$ Mz.qb (e:=[(14,_),(100,_),(101,_),(102,_)]) ?_;refine LU$ Oh (α:=Nat) (0) (λj=>[(14,S ((tx.take j).flatten)),(100,.slice (some ⟨b100,0,none⟩) 4 4),(101,I 4),(102,I (j:Int))]) (λj w'=>w'=w11/\j<=4) (λj=>4-j) ?hI ?hround
    case hI=>exact⟨rfl,Nat.zero_le _⟩
    case hround=>
     rintro j w12 ⟨rfl,hj⟩ ih2
     try dsimp only
     refine qN O$ Ni O O$ LX$ run_seq$ M8 O (λh2=>?_)$ λh2=>?_
     ·obtain⟨q,bs,F,g1,g2,g3⟩:=hq j (by omega);have Lj:=mu j;have Lk:=eQ j _ g2;refine py$ run_seq$ LU$ qN O$ qV (MS zbM z4b O O (by omega))$ qV (MA Zl O O (Na wI.rd g1))$ Me O$ qM O$ LW O$ Mn z4A O (Tz g3) ?_;rintro _ w12 ⟨rfl,rfl⟩;refine LW O$ N5 O O$ qV (O6 (v:=I 0) O O)$ Me O$ M4 O$ run_seq$ qN O$ LW O$ N9 O O$ LX$ An O$ py$ M0 O$ Md O O ?_;refine qV (Sz O O (by first|omega|(simp;done)|(simp;omega))) ?_;refine M4 O$ LV$ M0 O$ MT O O$ LW O$ LX ?_;rw[show(tx.take j).flatten++Ms bs=(tx.take (j+1)).flatten by rw[MP g2,List.flatten_append];simp];exact(ih2 (j+1) _ ⟨rfl,by omega⟩ (by omega)).qb
     ·have Cp:j=4:=by omega
      subst Cp;refine M6 O$ qN O$ LW O$ Me O$ M4 O$ LZ Tryz.func88 O (⟨_,rfl,?_,(hE.ext.trans qZ).trans aQ⟩);rw[iL];simp[resVal,Up]
 ·omega
structure PHd where
 n:Nat
 m:Nat
 p:Nb
 bits:Nat
def hdC (h:PHd):List Value:=[I (h.n:Int),I (h.m:Int),I (h.p.Mq:Int),I (h.p.chain:Int),I (h.p.interval:Int),I (h.p.zeta:Int),I (h.p.most:Int),I (h.bits:Int)]
abbrev hdV (h:PHd):Value:= .agg (hdC h).toArray
structure PHd.Nj (h:PHd):Prop where
 n1:1<=h.n
 n2:h.n<=65536
 m:h.m<=1048576
 bits:h.bits<=134217728
 p:h.p.Nj
def Vo (h:PHd):List (Nat×Nat):=[(h.n,32),(h.m,32),(h.p.Mq,8),(h.p.chain,8),(h.p.interval,8),(h.p.zeta,8),(h.p.most,32),(h.bits,64)]
def O7 (l:List (Nat×Nat)):List Bool:=l.flatMap λq=>bitsN q.2 q.1
def z4f:Bytes:=[119,116,108,49]
def hdT (h:PHd):Bytes:=z4f++Ms (O7 (Vo h))
theorem Rl (h:PHd):(O7 (Vo h)).length=192:=by
 simp[O7,Vo]
theorem TC (h:PHd):(hdT h).length=28:=by
 unfold hdT
 rw[List.length_append,MF,Rl];rfl
theorem Ud (h:PHd)(hh:h.Nj)(w:World):Mw Tryz.prog 121 [hdV h] w λu w'=>u=I 0/\Ext w w':=by
 obtain⟨g1,g2,g3,g4,g5⟩:=hh
 refine It (e:=[(0,_)]) Tryz.func121 O Tryz.ntmps121 O O$ qN O$ M5 O O (O2 O (cs:=hdC h) O) ?_
 rintro _ w1 ⟨b1,rfl,bR,ad,aj⟩
 replace aj:M7 w1 b1 [I (h.n:Int),I (h.m:Int),I (h.p.Mq:Int),I (h.p.chain:Int),I (h.p.interval:Int),I (h.p.zeta:Int),I (h.p.most:Int),I (h.bits:Int)] 149:=aj
 refine M4 O$ run_seq$ LU$ run_seq$ qN O$ Ma QJ O$ qV (M1 U3 O O aj O)$ Ni O O$ ML$ LW O$ Ma QJ O$ qV (M1 U3 O O aj O)$ Ng O O$ ML ?_
 refine MN O O$ M4 O$ An O$ qN O$ Ma Zn O$ qV (M1 U3 O O aj O)$ Ni O O$ ML$ LW O$ Ma Zn O$ qV (M1 U3 O O aj O)$ Ng O O$ ML$ MN O O ?_
 refine M4 O$ An O$ qN O$ Ma RA O$ qV (M1 U3 O O aj O)$ Ni O O$ ML$ LW O$ Ma RA O$ qV (M1 U3 O O aj O)$ Ng O O$ ML$ MN O O$ M4 O ?_
 refine Mz.qb (e:=[(1,_),(2,_),(3,_)]) ?_
 refine An O$ M0 O$ Ma QJ O$ qV (M1 U3 O O aj O)$ O3 O O$ ML$ LW O$ qS$ qS$ qS$ qS$ qS$ qS$ MN O O ?_
 refine M4 O$ An O$ py$ LV$ qN O$ Ma Vh O$ qV (Mv (news:=RR h.p) Y4 O Oi O (aj.cells (i:=2) (n:=5) O) O)$ Mn zab O (Wu h.p g5 _) ?_
 rintro _ w2 ⟨rfl,af⟩
 refine M4 O$ LZ Tryz.func121 O ?_
 exact⟨_,rfl,rfl,ad.trans af⟩
theorem z50 (h:PHd)(hh:h.Nj)(w:World):Mw Tryz.prog 87 [hdV h] w λu w'=>u= .tuple #[S (hdT h),I 0]/\Ext w w':=by
 obtain⟨g1,g2,g3,g4,g5⟩:=id hh
 obtain⟨q1,q2,q3⟩:=id g5
 obtain⟨r1,r2,r3,r4⟩:=id q1
 have r1':h.p.Mq<=16:=r1
 have r2':h.p.interval<=64:=by
  have:h.p.interval=0\/2<=h.p.interval/\h.p.interval<=64:=r2;omega
 have r4':h.p.zeta<=16:=r4
 refine It (e:=[(0,_)]) Tryz.func87 O Tryz.ntmps87 O O$ qN O$ M5 O O (O2 O (cs:=hdC h) O) ?_
 rintro _ w1 ⟨b1,rfl,bR,ad,aj⟩
 replace aj:M7 w1 b1 [I (h.n:Int),I (h.m:Int),I (h.p.Mq:Int),I (h.p.chain:Int),I (h.p.interval:Int),I (h.p.zeta:Int),I (h.p.most:Int),I (h.bits:Int)] 149:=aj
 refine Me O$ M4 O$ run_seq$ qN O$ qV (Mv (news:=hdC h) z2R O Qv O (aj.cells (n:=8) O) O)$ Mn z74 O (Ud h hh _) ?_
 rintro _ w2 ⟨rfl,af⟩
 refine Me O$ qM O$ LW O$ N9 O O$ LX$ An O$ py$ qN O$ Mn Xf O (Rj w2) ?_
 rintro _ w3 ⟨wp,F,rfl,lQ,ai,pD⟩
 have aN:=af.trans ai
 have eD:=aN.LY aj
 refine Me O$ qM O$ Ma Vh O$ qV (Mv (news:=RR h.p) Y4 O Oi O (eD.cells (i:=2) (n:=5) O) O)$ M5 O O (Oo (cs:=[_,_,_,_,_]) Oi O) ?_
 rintro _ w4 ⟨b6,rfl,mn,ay,aS⟩
 refine Mb O (MO (news:=RR h.p) Oi O O O O aS (by simp)) ?_
 rintro w5 ⟨er,ak⟩
 replace er:M7 w5 b6 [I (h.p.Mq:Int),I (h.p.chain:Int),I (h.p.interval:Int),I (h.p.zeta:Int),I (h.p.most:Int)] 88:=er
 have co:Ext w3 w5:=ay.LS ak (λi e=>by omega)
 have dS:=co.LY eD
 refine LX$ run_seq$ qN O$ Ma QJ O$ qV ((by first|exact M1 U3 O O dS O|exact M1 U3 O O er O)) ?_
 refine qV (OO (cs:=[_,_]) S3 O Wq O O)$ Ma Zn O$ qV ((by first|exact M1 U3 O O dS O|exact M1 U3 O O er O)) ?_
 refine qV (OO (cs:=[_,_]) S3 O Wq O O)$ Ma XG O$ qV ((by first|exact M1 U3 O O dS O|exact M1 U3 O O er O)) ?_
 refine qV (OO (cs:=[_,_]) S3 O Wq O O)$ Ma VH O$ qV ((by first|exact M1 U3 O O dS O|exact M1 U3 O O er O)) ?_
 refine qV (OO (cs:=[_,_]) S3 O Wq O O)$ Ma z6P O$ qV ((by first|exact M1 U3 O O dS O|exact M1 U3 O O er O)) ?_
 refine qV (OO (cs:=[_,_]) S3 O Wq O O)$ Ma z7u O$ qV ((by first|exact M1 U3 O O dS O|exact M1 U3 O O er O)) ?_
 refine qV (OO (cs:=[_,_]) S3 O Wq O O)$ Ma Qb O$ qV ((by first|exact M1 U3 O O dS O|exact M1 U3 O O er O)) ?_
 refine qV (OO (cs:=[_,_]) S3 O Wq O O)$ Ma RA O$ qV ((by first|exact M1 U3 O O dS O|exact M1 U3 O O er O)) ?_
 refine qV (OO (cs:=[_,_]) S3 O Wq O O)$ M5 O O (SA (cs:=[_,_,_,_,_,_,_,_,_,_,_,_,_,_,_,_]) (zs:=[Value.int .i64 0,Value.int .i64 0,Value.int .i64 0,Value.int .i64 0,Value.int .i64 0,Value.int .i64 0,Value.int .i64 0,Value.int .i64 0,Value.int .i64 0,Value.int .i64 0,Value.int .i64 0,Value.int .i64 0,Value.int .i64 0,Value.int .i64 0,Value.int .i64 0,Value.int .i64 0]) zb1 S3 O (by kernel_rfl) O O O (by decide)) ?_
 rintro _ w6 ⟨b43,rfl,⟨Bj,aJ,dR⟩,mU⟩
 have wJ:=co.trans aJ
 have lw:=lQ.ext wJ
 have z3:=ai.size
 have hL:(Vo h).length=8:=rfl
 replace mU:Sl w6 (.slice (some ⟨b43,0,none⟩) 8 8) 233 2 8 ((Vo h).flatMap λq=>[I (q.1:Int),I (q.2:Int)]):=mU
 refine O9 zb1 O$ LW O$ LX$ Mz.qb (e:=[(2,_),(3,_),(5,_),(43,_),(44,_),(45,_)]) ?_
 refine LU$ Oh (α:=Nat) (0) (λi=>[(5,ptr wp 0),(43,.slice (some ⟨b43,0,none⟩) 8 8),(44,I 8),(45,I (i:Int))]) (λi w'=>WrR wp F w6 w' (O7 ((Vo h).take i))/\i<=8) (λi=>8-i) ?hI ?hround
 case hI=>exact⟨⟨F,lw,Kp.refl _ _,λk hk=> .inl hk⟩,Nat.zero_le _⟩
 case hround=>
  rintro i w7 ⟨⟨F7,oh,aD,ol⟩,hi⟩ ih
  try dsimp only
  refine qN O$ Ni O O$ LX$ run_seq$ M8 O (λh0=>?_)$ λh0=>?_
  ·obtain⟨⟨v,c⟩,hq⟩:∃q,(Vo h)[i]? =some q:=⟨_,List.getElem?_eq_getElem (by rw[hL];omega)⟩
   have zF:v<2^c/\c<=64/\v<=134217728:=by
    have hm:=List.mem_of_getElem? hq;simp only[Vo,List.mem_cons,List.not_mem_nil,or_false,Prod.mk.injEq] at hm;rcases hm with⟨rfl,rfl⟩|⟨rfl,rfl⟩|⟨rfl,rfl⟩|⟨rfl,rfl⟩|⟨rfl,rfl⟩|⟨rfl,rfl⟩|⟨rfl,rfl⟩|⟨rfl,rfl⟩<;>refine⟨by omega,by omega,by omega⟩
   have fj:(O7 ((Vo h).take i)).length+c<=192:=by
    have e:O7 ((Vo h).take (i+1))=O7 ((Vo h).take i)++bitsN c v:=by rw[MP hq];simp[O7]
    have e2:=congrArg List.length e;rw[List.length_append,bitsN_length] at e2
    have e3:(O7 (Vo h)).length=(O7 ((Vo h).take (i+1))).length+(O7 ((Vo h).drop (i+1))).length:=by
     conv=>lhs;rw[<-List.take_append_drop (i+1) (Vo h)]
     unfold O7;rw[List.flatMap_append,List.length_append]
    have e4:=Rl h;omega
   have i9:=mU.kp aD (λg hg e=>by have e1:b43=g:=NF hg;have:=lw.lt e;have:=lQ.lt e;have:=co.size;omega);have jT:=Xe (f:=λq:Nat×Nat=>[I (q.1:Int),I (q.2:Int)]) (λ_=>rfl) i9.rd hq;refine py$ run_seq$ LU$ qN O$ qV (MS zb1 S3 O O (by omega))$ qV (Mv (news:=[I (v:Int),I (c:Int)]) zfJ O S3 O jT O)$ M5 O O (Oo (cs:=[_,_]) S3 O) ?_;rintro _ w8 ⟨b8,rfl,jk,dw,cu⟩;refine Mb O (MO (news:=[I (v:Int),I (c:Int)]) S3 O O O O cu (by simp)) ?_;rintro w9 ⟨pM,aO⟩;replace pM:M7 w9 b8 [I (v:Int),I (c:Int)] 233:=pM;have iv:Ext w7 w9:=dw.LS aO (λi e=>by omega);refine LX$ M0 O$ LW O$ Ma z8I O$ qV (M1 U3 O O pM O)$ qV ((by first|exact MQ O U3 Nv (by omega)|exact Ob O U3 Nv)) ?_;refine Ma z9e O$ qV (M1 U3 O O pM O)$ Mn T4 O (OP (oh.ext iv) v c zF.2.1 zF.1 (by omega)) ?_;rintro _ w10 ⟨rfl,F10,Cq,aq,bh⟩;refine LX$ LV$ M0 O$ MT O O$ LW O$ LX ((ih (i+1) _ ⟨⟨F10,?_,(aD.trans iv.kp).LS aq (λk hk=>(ol k hk).symm),λk hk=>?_⟩,by omega⟩ (by omega)).qb)
   ·rw[MP hq,show O7 ((Vo h).take i++[(v,c)])=O7 ((Vo h).take i)++bitsN c v by simp[O7]];exact Cq
   ·rcases bh k hk with e| e
    ·exact ol k e
    ·have:=aD.size;have:=iv.size;exact .inr (by omega)
  ·have cy:i=8:=by omega
   subst cy;rw[show(Vo h).take 8=Vo h from rfl] at oh;refine M6 O$ qN O$ LW O$ Mn z4A O (Tz oh) ?_;rintro _ w8 ⟨rfl,rfl⟩;have eQ:(Ms (O7 (Vo h))).length=24:=by rw[MF,Rl]
   refine LW O$ N5 O O$ N5 O O$ Me O$ Me O$ qM O$ LW O$ qV (Sz O O (by first|omega|(simp;done)|(simp;omega))) ?_;refine LW O$ Me O$ M4 O$ LZ Tryz.func87 O (⟨_,rfl,?_,((ad.trans aN).trans wJ).LS aD (λk hk=>by have:=pD k hk;have:=af.size;have:=ad.size;omega)⟩);simp[resVal,hdT,z4f]
theorem z2c {w:World}{ga:Option Addr}{gc:Nat}{g:List (List Nat)}(h:GrM w (.slice ga g.length gc) g)(hg:P9 g):Mw Tryz.prog 86 [.slice ga g.length gc] w λu w'=>u=I (Nh g:Int)/\w'=w:=by
 have hn:=hg.n
 obtain⟨vs,eT,jo⟩:=h.ex
 refine It (e:=[(0,_)]) Tryz.func86 O Tryz.ntmps86 O O$ qN O$ Me O$ qM O$ M4 O$ run_seq$ qN O$ LW O$ O9 SN O$ LW O$ LX$ LU$ Oh (α:=Nat) (0) (λi=>[(3,I (Nh (g.take i):Int)),(6,.slice ga g.length gc),(7,I (g.length:Int)),(8,I (i:Int))]) (λi w'=>w'=w/\i<=g.length) (λi=>g.length-i) ?hI ?hround
 case hI=>exact⟨rfl,Nat.zero_le _⟩
 case hround=>
  rintro i w4 ⟨rfl,hi⟩ ih;have oC:=Qx hg i
  try dsimp only
  refine qN O$ Ni O O$ LX$ run_seq$ M8 O (λh0=>?_)$ λh0=>?_
  ·obtain⟨l,hl⟩:∃l,g[i]? =some l:=⟨_,List.getElem?_eq_getElem (by omega)⟩;have fd:=hg.len (List.mem_of_getElem? hl);obtain⟨a,c,e1,e2,e3⟩:=jo i l hl
   obtain⟨gb,go,gc',e4⟩:∃b o c',Value.slice ga g.length gc= .slice (some ⟨b,o,none⟩) g.length c':=by
    rcases eT.2 with⟨c,hc,h0⟩|⟨b,off,c',hc,-⟩
    ·omega
    ·exact⟨b,off,c',hc⟩
   cases e4;have zJ:=U6 (g.take i) l;rw[<-MP hl] at zJ;refine py$ run_seq$ LU$ qN O$ qV (MS SN Pq O O (by omega))$ qV (MA Mr O O (Na eT e1))$ M4 O$ M0 O$ Md O O$ O9 Mr O$ MT O O$ M4 O$ LV$ M0 O ?_;refine MT O O$ LW O$ LX ?_;rw[show(Nh (g.take i):Int)+(l.length:Int)=(Nh (g.take (i+1)):Int) by omega];exact(ih (i+1) _ ⟨rfl,by omega⟩ (by omega)).qb
  ·have cy:i=g.length:=by omega
   subst cy;rw[List.take_length];refine M6 O$ qN O$ LW O$ M4 O$ LZ Tryz.func86 O ?_;exact⟨_,rfl,rfl,rfl⟩
theorem T8 (p:Nb)(g:List (List Nat))(E:List (Nat×Nat)):∀(d i:Nat),(Nn p g E i).length<=(Nn p g E (i+d)).length
 |0,i=>Nat.le_refl _
 | d + 1, i => by
   have h:=T8 p g E d i;rw[<-Nat.add_assoc,PJ,List.length_append];omega
theorem z3X (p:Nb)(g:List (List Nat))(E:List (Nat×Nat))(n:Nat):Nof (SH p g E n):=by
 unfold SH Nof
 rw[List.pairwise_map]
 refine List.pairwise_lt_range.imp fun {i j} i7=>?_
 have:=T8 p g E (j-i) i
 rwa [show i+(j-i)=j by omega] at this
theorem WS (p:Nb)(g:List (List Nat))(E:List (Nat×Nat)){n i:Nat}(h:i<=n):(SH p g E n)[i]? =some (Nn p g E i).length:=by
 unfold SH
 rw[List.getElem?_map,List.getElem?_range (by omega)];rfl
theorem zbc (p:Nb)(g:List (List Nat))(E:List (Nat×Nat))(n:Nat):∀v∈SH p g E n,v<=(Nn p g E n).length:=λv hv=>by
 unfold SH at hv
 obtain⟨j,hj,rfl⟩:=List.mem_map.1 hv
 have h1:=List.mem_range.1 hj
 have:=T8 p g E (n-j) j
 rwa [show j+(n-j)=n by omega] at this
theorem z0t {l:List Nat}(cU:1<=l.length)(hn:l.length<=64)(lZ:Nof l){z:Nat}(hz:l[l.length-1]? =some z):(Up l (Qq l.length (z+1))).length=(Qq l.length (z+1)).size:=by
 have h1:=XE (Qq l.length (z+1)).width lZ hz
 have h2:=Ra (Qq l.length (z+1)).width l
 have h3:(restB (Qq l.length (z+1)).width l).length=32:=by
  cases l with
  |nil=>simp at cU
  |cons v l=>simp[restB]
 have h4:(Qq l.length (z+1)).bits=z / 2^(Qq l.length (z+1)).width+l.length:=by
  show(z+1-1) / _+_=_;rw[Nat.add_sub_cancel]
  rfl
 unfold Up Fm.size Fm.Ru Fm.high
 rw[List.length_append,List.length_append,List.length_append,MF,MF,MF,MF,List.length_append,bitsN_length,bitsN_length,h1,h2,h3,h4]
 show _=12+(l.length*_+7) / 8+_+4*((l.length+63) / 64)
 have h5:(l.length+63) / 64=1:=by omega
 rw[h5]
def Ug (p:Nb)(g:List (List Nat))(E:List (Nat×Nat)):Bytes:=
 hdT ⟨g.length,Nh g,p,(Nn p g E g.length).length⟩++Ms (Nn p g E g.length)++Up (SH p g E g.length) (Qq (g.length+1) ((Nn p g E g.length).length+1))
structure z7r (p:Nb)(g:List (List Nat))(E:List (Nat×Nat)):Prop where
 el:E.length=g.length
 ok:z9M p g E
 bits:(Nn p g E g.length).length<=2688000
theorem z2d {w:World}{p:Nb}(hp:p.Nj){g:List (List Nat)}(hg:P9 g)(aw:1<=g.length){ga:Option Addr}{gc:Nat}(kW:GrM w (.slice ga g.length gc) g)(hG:M7 w 0 (OZ .gamma) 260)(hU:M7 w 1 (OZ .unary) 260):
  Mw Tryz.prog 54 [.slice ga g.length gc,bpV p] w λu w'=>∃E,z7r p g E/\u= .tuple #[S (Ug p g E),I 0]/\Ext w w':=by
 have hn:=hg.n
 have sV:=Qx hg g.length
 rw[List.take_length] at sV
 refine It (e:=[(0,_),(1,_)]) Tryz.func54 O Tryz.ntmps54 O O$ qN O$ M5 O O (O2 O (cs:=RR p) O) ?_
 rintro _ w1 ⟨b3,rfl,ek,ad,ar⟩
 refine Me O$ Me O$ qM O$ LW O$ qV (Mv (news:=RR p) Y4 O Oi O (ar.cells (n:=5) O) O)$ Mn zfK O (z5H hp hg (kW.ext ad) (ad.LY hG) (ad.LY hU)) ?_
 rintro _ w2 ⟨E,v,rfl,qX,Ig,pE,cH,rH,af⟩
 have aG:=ad.trans af
 have aa:=Ext.Mm w2
 obtain⟨va,vc,rfl,-⟩:=cH.rd.shape
 have wK:=z3X p g E g.length
 have jE:=zbc p g E g.length
 have aA:=z0a p g E g.length
 have g7:=WS p g E (Nat.le_refl g.length)
 obtain⟨vb,vc2,e5⟩:∃b c,Value.slice va (g.length+1) vc= .slice (some ⟨b,0,none⟩) (g.length+1) c:=by
  rcases cH.shape with⟨-,h0⟩|⟨b,c,e,hc⟩
  ·omega
  ·exact⟨b,c,e⟩
 cases e5
 refine LW O$ qV (O6 (v:=S (Ms (Nn p g E g.length))) O O)$ qV (O6 (v:= .slice (some ⟨vb,0,none⟩) (g.length+1) vc) O O)$ qV (O6 (v:=I 0) O O)$ Me O$ Me O$ M4 O$ run_seq$ qN O$ LW O$ N9 O O$ LX$ An O$ py ?_
 refine run_seq ?_
 have Ih:PHd.Nj ⟨g.length,Nh g,p,(Nn p g E g.length).length⟩:=⟨aw,(by show g.length<=_;omega),(by show Nh g<=_;omega),(by show(Nn p g E g.length).length<=_;omega),hp⟩
 refine NV (λw'=>Ext w2 w') O$ Mj 0 O O (aa)$ M3 1 O (Pb SN O) aa$ Mj 2 O O (aa)$ Mj 5 O O (aa)$ Mj 6 O O (aa)$ M3 7 O (Pb SN O) aa$ M3 8 O (MS VI Rq O O (by omega)) aa$ qT 4 O (λ_ hS=>Mv (news:=RR p) Y4 O Oi O ((hS.LY (af.LY ar)).cells (n:=5) O) O) aa$ qT 9 O (λ_ hS=>MA Nv O O (Na (cH.ext hS).rd (show((SH p g E g.length).map Mh)[g.length]? =some (Mh (Nn p g E g.length).length) by rw[List.getElem?_map,g7];rfl))) aa ?_
 refine M3 10 O (MK O Nv U3 (by omega)) aa$ Pm 3 O zft O (z2c ((kW.ext aG).ext aa) hg) ?_
 rintro _ w3 ⟨rfl,rfl⟩
 refine⟨aa,?_⟩
 refine M3 11 O (OO (cs:=[_,_,_,_,_,_,_,_]) Qv O zaL O O) aa$ Pm 12 O zgi O (z50 ⟨g.length,Nh g,p,(Nn p g E g.length).length⟩ Ih _) ?_
 rintro _ w3 ⟨rfl,ai⟩
 refine⟨aa.trans ai,?_⟩
 have dC:=aa.trans ai
 refine Mj 13 O O (aa.trans ai)$ qT 14 O (λ_ hS=>O6 (v:=S (hdT ⟨g.length,Nh g,p,(Nn p g E g.length).length⟩)) O O) (aa.trans ai)$ M3 16 O (NX O) (aa.trans ai)$ M3 15 O (O6 (v:=I 0) O O) (aa.trans ai)$ M3 17 O (NX O) (aa.trans ai)$ qE$ Mz.qb (e:=[(4,_),(5,_),(6,_),(7,_),(8,_),(9,_)]) ?_
 refine run_seq$ qN O$ LW O$ N9 O O ?_
 have Cr:Rd w3 (.slice (some ⟨vb,0,none⟩) (SH p g E g.length).length vc) 1 (SH p g E g.length).length ((SH p g E g.length).map Mh):=by rw[aA];exact(cH.ext dC).rd
 have hz:(SH p g E g.length)[(SH p g E g.length).length-1]? =some (Nn p g E g.length).length:=by rw[aA];exact g7
 have B0:=z0H (by omega) (by omega) wK (λv hv=>by have:=jE v hv;omega) Cr hz
 have oC:=z0t (by omega) (by omega) wK hz
 have Ii:(Qq (SH p g E g.length).length ((Nn p g E g.length).length+1)).size<=40000000:=by
  have h1:=Zk (n:=(SH p g E g.length).length) (u:=(Nn p g E g.length).length+1) (by omega) (by omega) (by omega) (by omega);have h2:=Fm.Tm h1;obtain⟨h3,h4,h5⟩:=h1;unfold Fm.size Fm.Ru;omega
 rw[aA] at B0 oC Ii
 have oE:=TC ⟨g.length,Nh g,p,(Nn p g E g.length).length⟩
 have eQ:=MF (Nn p g E g.length)
 refine LX$ An O$ py$ qN O$ LW O$ Mn zgp O (B0) ?_
 rintro _ w4 ⟨rfl,ay⟩
 refine LW O$ qV (O6 (v:=S (Up (SH p g E g.length) (Qq (g.length+1) ((Nn p g E g.length).length+1)))) O O)$ qV (O6 (v:=I 0) O O)$ Me O$ Me O$ qM O$ Md O O$ qV (Sz O O (by first|omega|(simp;done)|(simp;omega))) ?_
 refine LW O$ qV (Sz O O (by first|omega|(simp;done)|(simp;omega))) ?_
 refine LW O$ Me O$ M4 O$ LZ Tryz.func54 O ?_
 exact⟨_,rfl,E,⟨qX,Ig,pE⟩,rfl,(aG.trans dC).trans ay⟩
/-! ### Bytes of a word, the least first -/
def val8:List Nat->Nat
 |[]=>0
 |b::r=>b+256*val8 r
theorem R0 {s a b c d:Nat}(hb:b<2^s)(hd:d<2^s):(b+2^s*a)&&&(d+2^s*c)=(b&&&d)+2^s*(a&&&c):=by
 apply Nat.eq_of_testBit_eq
 intro j
 have pE:b&&&d<2^s:=Nat.lt_of_le_of_lt Nat.and_le_left hb
 rw[Nat.testBit_and,Nat.add_comm b,Nat.add_comm d,Nat.add_comm (b&&&d),Nat.testBit_two_pow_mul_add _ hb,Nat.testBit_two_pow_mul_add _ hd,Nat.testBit_two_pow_mul_add _ pE]
 by_cases h:j<s
 ·simp only[if_pos h,Nat.testBit_and]
 ·simp only[if_neg h,Nat.testBit_and]
theorem z9C {s a b m:Nat}(hb:b<2^s)(hm:m<2^s):(b+2^s*a)&&&m=b&&&m:=by
 have:=R0 (a:=a) (c:=0) hb hm
 simpa using this
theorem Y2 (m:Nat)(hm:m<256):∀L:List Nat,(∀b∈L,b<256)->val8 L&&&val8 (List.replicate L.length m)=val8 (L.map (·&&&m))
 |[],_=>by simp[val8]
 | b :: r, h => by
   have ih:=Y2 m hm r (λx hx=>h x (List.mem_cons_of_mem b hx));rw[List.length_cons,List.replicate_succ,val8,val8,List.map_cons,val8,<-ih];exact R0 (s:=8) (h b List.mem_cons_self) hm
theorem Zt (s m:Nat)(hs:s<=8)(hm:m<2^(8-s)):∀L:List Nat,(∀b∈L,b<256)->val8 L / 2^s&&&val8 (List.replicate L.length m)=val8 (L.map λb=>b / 2^s&&&m)
 |[],_=>by simp[val8]
 | b :: r, h => by
   have ih:=Zt s m hs hm r (λx hx=>h x (List.mem_cons_of_mem b hx));have hb:=h b List.mem_cons_self;have e256:256=2^s*2^(8-s):=by rw[<-Nat.pow_add,show s+(8-s)=8 by omega]
   have hp:0<2^s:=Nat.two_pow_pos s;have wL:b / 2^s<2^(8-s):=by rw[Nat.div_lt_iff_lt_mul hp,Nat.mul_comm,<-e256];exact hb
   have e1:(b+256*val8 r) / 2^s=b / 2^s+2^(8-s)*val8 r:=by
    rw[e256,Nat.mul_assoc,Nat.add_mul_div_left _ _ hp]
   have e2:b / 2^s+2^(8-s)*val8 r=(b / 2^s+2^(8-s)*(val8 r%2^s))+2^8*(val8 r / 2^s):=by
    have h1:=Nat.div_add_mod (val8 r) (2^s);have e3:2^8=2^(8-s)*2^s:=by rw[Nat.mul_comm];exact e256
    rw[e3,Nat.mul_assoc,Nat.add_assoc,<-Nat.mul_add,Nat.add_comm (val8 r%2^s),h1]
   have h3:b / 2^s+2^(8-s)*(val8 r%2^s)<2^8:=by
    have h4:val8 r%2^s+1<=2^s:=Nat.mod_lt _ hp;have h5:=Nat.mul_le_mul_left (2^(8-s)) h4;rw[Nat.mul_add,Nat.mul_one] at h5;have e3:2^8=2^(8-s)*2^s:=by rw[Nat.mul_comm];exact e256
    omega
   have Ij:m<2^8:=Nat.lt_of_lt_of_le hm (Nat.pow_le_pow_right (by decide) (by omega));rw[List.length_cons,List.replicate_succ,val8,val8,List.map_cons,val8,<-ih,e1,e2];have:=R0 (s:=8) (a:=val8 r / 2^s) (c:=val8 (List.replicate r.length m)) h3 Ij;rw[show m+256*val8 (List.replicate r.length m)=m+2^8*val8 (List.replicate r.length m) from rfl,this,z9C wL hm]
theorem Xu (f g:Nat->Nat):∀L:List Nat,val8 (L.map f)+val8 (L.map g)=val8 (L.map λb=>f b+g b)
 |[]=>rfl
 | b :: r => by
   rw[List.map_cons,List.map_cons,List.map_cons,val8,val8,val8,<-Xu f g r,Nat.mul_add];omega
theorem z0n:∀L:List Nat,(∀c∈L,c / 16<=4/\c%16<=4)->(val8 L / 16+val8 L)&&&val8 (List.replicate L.length 15)=val8 (L.map λc=>c / 16+c%16)/\val8 L%16<=4
 |[],_=>⟨by simp[val8],by simp[val8]⟩
 | c :: r, h => by
   obtain⟨ih,ih2⟩:=z0n r (λx hx=>h x (List.mem_cons_of_mem c hx));obtain⟨h1,h2⟩:=h c List.mem_cons_self;have e:(c+256*val8 r) / 16+(c+256*val8 r)=(c / 16+16*(val8 r%16)+c)+2^8*(val8 r / 16+val8 r):=by omega
   have aP:c / 16+16*(val8 r%16)+c<2^8:=by omega
   have Ik:(c / 16+16*(val8 r%16)+c)&&&15=c / 16+c%16:=by
    have:=Nat.and_two_pow_sub_one_eq_mod (c / 16+16*(val8 r%16)+c) 4;rw[show(2:Nat)^4-1=15 from rfl,show(2:Nat)^4=16 from rfl] at this;rw[this];omega
   refine⟨?_,by rw[val8];omega⟩;rw[List.length_cons,List.replicate_succ,val8,val8,List.map_cons,val8,<-ih,e];have:=R0 (s:=8) (a:=val8 r / 16+val8 r) (c:=val8 (List.replicate r.length 15)) aP (by decide:15<2^8);rw[show 15+256*val8 (List.replicate r.length 15)=15+2^8*val8 (List.replicate r.length 15) from rfl,this,Ik]
theorem z1t:∀L:List Nat,(∀b∈L,b<256)->(bitsN (8*L.length) (val8 L)).count true=(L.map λb=>(bitsN 8 b).count true).sum
 |[],_=>rfl
 | b :: r, h => by
   have ih:=z1t r (λx hx=>h x (List.mem_cons_of_mem b hx));have hb:=h b List.mem_cons_self;rw[List.length_cons,Nat.mul_add,Nat.mul_one,OC,List.count_append,val8];have e1:(b+256*val8 r) / 2^8=val8 r:=by omega
   rw[List.map_cons,List.sum_cons,show(bitsN 8 (b+256*val8 r))=bitsN 8 b from SK (by omega),e1,ih];omega
def Yl (b:Nat):Nat:=(b / 2&&&85)+(b&&&85)
def s2B (b:Nat):Nat:=(b / 4&&&51)+(b&&&51)
theorem z65:∀b:Fin 256,Yl b<256/\s2B (Yl b)<256/\s2B (Yl b) / 16<=4/\s2B (Yl b)%16<=4/\s2B (Yl b) / 16+s2B (Yl b)%16=(bitsN 8 b).count true:=by decide+kernel
theorem TZ {b:Nat}(h:b<256):Yl b<256/\s2B (Yl b)<256/\s2B (Yl b) / 16<=4/\s2B (Yl b)%16<=4/\s2B (Yl b) / 16+s2B (Yl b)%16=(bitsN 8 b).count true:=z65 ⟨b,h⟩
def VJ (x:Nat):List Nat:=[x%256,x / 256%256,x / 65536%256,x / 16777216%256,x / 4294967296%256,x / 1099511627776%256,x / 281474976710656%256,x / 72057594037927936%256]
theorem z2V {x:Nat}(h:x<18446744073709551616):val8 (VJ x)=x:=by
 simp only[VJ,val8]
 omega
theorem z6a (x:Nat):∀b∈VJ x,b<256:=λb hb=>by
 simp only[VJ,List.mem_cons,List.not_mem_nil,or_false] at hb
 rcases hb with rfl|rfl|rfl|rfl|rfl|rfl|rfl|rfl<;>exact Nat.mod_lt _ (by decide)
theorem z2K {x:Nat}(h:x<18446744073709551616):∃D:List Nat,D.length=8/\(∀d∈D,d<=8)/\
  ((((x / 2&&&6148914691236517205)+(x&&&6148914691236517205)) / 4&&&3689348814741910323)+(((x / 2&&&6148914691236517205)+(x&&&6148914691236517205))&&&3689348814741910323)) / 16+((((x / 2&&&6148914691236517205)+(x&&&6148914691236517205)) / 4&&&3689348814741910323)+(((x / 2&&&6148914691236517205)+(x&&&6148914691236517205))&&&3689348814741910323))&&&1085102592571150095=val8 D/\D.sum=(bitsN 64 x).count true:=by
 have hv:=z2V h
 have hl:=z6a x
 have hL:(VJ x).length=8:=rfl
 generalize VJ x=L at hv hl hL
 have m0:6148914691236517205=val8 (List.replicate L.length 85):=by rw[hL];rfl
 have m1:3689348814741910323=val8 (List.replicate L.length 51):=by rw[hL];rfl
 have m2:1085102592571150095=val8 (List.replicate L.length 15):=by rw[hL];rfl
 have f1:=Zt 1 85 (by decide) (by decide) L hl
 have f2:=Y2 85 (by decide) L hl
 rw[show(2:Nat)^1=2 from rfl] at f1
 have kY:∀b∈L.map Yl,b<256:=λb hb=>by
  obtain⟨y,hy,rfl⟩:=List.mem_map.1 hb;exact(TZ (hl y hy)).1
 have e1:(x / 2&&&6148914691236517205)+(x&&&6148914691236517205)=val8 (L.map Yl):=by
  rw[m0,<-hv,f1,f2,Xu];rfl
 have f3:=Zt 2 51 (by decide) (by decide) (L.map Yl) kY
 have f4:=Y2 51 (by decide) (L.map Yl) kY
 rw[show(2:Nat)^2=4 from rfl] at f3
 rw[List.length_map] at f3 f4
 have e2:(val8 (L.map Yl) / 4&&&3689348814741910323)+(val8 (L.map Yl)&&&3689348814741910323)=val8 ((L.map Yl).map s2B):=by
  rw[m1,f3,f4,Xu];rfl
 rw[e1,e2]
 have gF:∀c∈(L.map Yl).map s2B,c / 16<=4/\c%16<=4:=λc hc=>by
  obtain⟨z,hz,rfl⟩:=List.mem_map.1 hc;obtain⟨y,hy,rfl⟩:=List.mem_map.1 hz;have:=TZ (hl y hy);exact⟨this.2.2.1,this.2.2.2.1⟩
 have f5:=(z0n _ gF).1
 rw[List.length_map,List.length_map] at f5
 refine⟨((L.map Yl).map s2B).map λc=>c / 16+c%16,by rw[List.length_map,List.length_map,List.length_map];exact hL,λd hd=>?_,by rw[m2];exact f5,?_⟩
 ·obtain⟨c,hc,rfl⟩:=List.mem_map.1 hd;have:=gF c hc;omega
 ·have sW:=z1t L hl;rw[hL,hv] at sW;rw[show 8*8=64 from rfl] at sW;rw[sW,List.map_map,List.map_map]
  congr 1
  refine List.map_congr_left λb hb=>?_;exact(TZ (hl b hb)).2.2.2.2
theorem z6u {D:List Nat}(h8:D.length=8)(hd:∀d∈D,d<=8):let x4:=val8 D+val8 D / 256;let x5:=x4+x4 / 65536;let x6:=x5+x5 / 4294967296;val8 D<1152921504606846976/\x6%128=D.sum/\D.sum<=64:=by
 obtain⟨d0,d1,d2,d3,d4,d5,d6,d7,rfl⟩:∃d0 d1 d2 d3 d4 d5 d6 d7,D=[d0,d1,d2,d3,d4,d5,d6,d7]:=by
  match D,h8 with
  |[a,b,c,d,e,f,g,i],_=>exact⟨a,b,c,d,e,f,g,i,rfl⟩
 have k0:=hd d0 (by simp)
 have k1:=hd d1 (by simp)
 have k2:=hd d2 (by simp)
 have k3:=hd d3 (by simp)
 have k4:=hd d4 (by simp)
 have k5:=hd d5 (by simp)
 have k6:=hd d6 (by simp)
 have k7:=hd d7 (by simp)
 have h3:val8 [d0,d1,d2,d3,d4,d5,d6,d7] / 256=val8 [d1,d2,d3,d4,d5,d6,d7]:=by
  rw[val8,Nat.add_mul_div_left _ _ (by decide),Nat.div_eq_of_lt (by omega),Nat.zero_add]
 have h4:val8 [d0,d1,d2,d3,d4,d5,d6,d7]+val8 [d1,d2,d3,d4,d5,d6,d7]=(d0+d1+256*(d1+d2))+65536*((d2+d3)+256*(d3+d4)+65536*((d4+d5)+256*(d5+d6)+65536*((d6+d7)+256*d7))):=by
  simp only[val8];omega
 have h5:(val8 [d0,d1,d2,d3,d4,d5,d6,d7]+val8 [d1,d2,d3,d4,d5,d6,d7]) / 65536=(d2+d3)+256*(d3+d4)+65536*((d4+d5)+256*(d5+d6)+65536*((d6+d7)+256*d7)):=by
  rw[h4,Nat.add_mul_div_left _ _ (by decide),Nat.div_eq_of_lt (by omega),Nat.zero_add]
 dsimp only
 rw[h3,h5,h4]
 have h6:(d0+d1+256*(d1+d2))+65536*((d2+d3)+256*(d3+d4)+65536*((d4+d5)+256*(d5+d6)+65536*((d6+d7)+256*d7)))+((d2+d3)+256*(d3+d4)+65536*((d4+d5)+256*(d5+d6)+65536*((d6+d7)+256*d7)))=
   ((d0+d1+d2+d3)+256*(d1+d2+d3+d4)+65536*((d2+d3+d4+d5)+256*(d3+d4+d5+d6)))+4294967296*((d4+d5+d6+d7)+256*(d5+d6+d7)+65536*(d6+d7+256*d7)):=by omega
 rw[h6,Nat.add_mul_div_left _ _ (by decide),Nat.div_eq_of_lt (by omega),Nat.zero_add]
 refine⟨by simp only[val8];omega,?_,by simp only[List.sum_cons,List.sum_nil];omega⟩
 simp only[List.sum_cons,List.sum_nil]
 have h7:(d0+d1+d2+d3)+256*(d1+d2+d3+d4)+65536*((d2+d3+d4+d5)+256*(d3+d4+d5+d6))+4294967296*((d4+d5+d6+d7)+256*(d5+d6+d7)+65536*(d6+d7+256*d7))+((d4+d5+d6+d7)+256*(d5+d6+d7)+65536*(d6+d7+256*d7))=
   (d0+d1+d2+d3+d4+d5+d6+d7)+128*(2*(d1+d2+d3+d4)+512*((d2+d3+d4+d5)+256*(d3+d4+d5+d6))+33554432*((d4+d5+d6+d7)+256*(d5+d6+d7)+65536*(d6+d7+256*d7))+(2*(d5+d6+d7)+512*(d6+d7+256*d7))):=by omega
 rw[h7,Nat.add_mul_mod_self_left,Nat.mod_eq_of_lt (by omega)]
 omega
theorem z78 (x:Nat)(hx:x<18446744073709551616)(w:World):Mw Tryz.prog 213 [Mh x] w λv w'=>v=I ((bitsN 64 x).count true:Int)/\w'=w:=by
 obtain⟨D,h1,h2,h3,h4⟩:=z2K hx
 obtain⟨f1,f2,f3⟩:=z6u h1 h2
 have a1:x / 2&&&6148914691236517205<=6148914691236517205:=Nat.and_le_right
 have a2:x&&&6148914691236517205<=6148914691236517205:=Nat.and_le_right
 rw[<-h4]
 refine It (e:=[(0,_)]) Tryz.func213 O Tryz.ntmps213 O O$ qN O$ Me O$ qM O$ LW O$ qV (Qy 1 2 O O (by decide) O)$ qV (Rk O O (by omega) (by omega))$ LW O$ qV (Rk O O (by omega) (by omega))$ qV (RD O O)$ Me O$ qM O ?_
 rw[Nat.mod_eq_of_lt (show(x / 2&&&6148914691236517205)+(x&&&6148914691236517205)<18446744073709551616 by omega)]
 generalize hy:(x / 2&&&6148914691236517205)+(x&&&6148914691236517205)=y at h3
 have rf:y<18446744073709551616:=by omega
 have a3:y / 4&&&3689348814741910323<=3689348814741910323:=Nat.and_le_right
 have a4:y&&&3689348814741910323<=3689348814741910323:=Nat.and_le_right
 refine LW O$ qV (Qy 2 4 O O (by decide) O)$ qV (Rk O O (by omega) (by omega))$ LW O$ qV (Rk O O (by omega) (by omega))$ qV (RD O O)$ Me O$ qM O ?_
 rw[Nat.mod_eq_of_lt (show(y / 4&&&3689348814741910323)+(y&&&3689348814741910323)<18446744073709551616 by omega)]
 generalize hz:(y / 4&&&3689348814741910323)+(y&&&3689348814741910323)=z at h3
 have mh:z<=7378697629483820646:=by omega
 refine LW O$ qV (Qy 4 16 O O (by decide) O)$ LW O$ qV (RD O O) ?_
 rw[Nat.mod_eq_of_lt (show z / 16+z<18446744073709551616 by omega)]
 refine qV (Rk O O (by omega) (by omega))$ Me O$ qM O ?_
 rw[h3]
 generalize val8 D=x3 at f1 f2
 refine Md O O$ qV (Qy 8 256 O O (by decide) O)$ qV (RD O O)$ Me O$ qM O ?_
 rw[Nat.mod_eq_of_lt (show x3+x3 / 256<18446744073709551616 by omega)]
 generalize ay:x3+x3 / 256=x4 at f2
 have wM:x4<=1157495777000000000:=by omega
 refine Md O O$ qV (Qy 16 65536 O O (by decide) O)$ qV (RD O O)$ M4 O$ Mz.qb (e:=[(0,_),(2,_)]) ?_
 refine qN O ?_
 rw[Nat.mod_eq_of_lt (show x4+x4 / 65536<18446744073709551616 by omega)]
 generalize aW:x4+x4 / 65536=x5 at f2
 have Il:x5<=1160000000000000000:=by omega
 refine Md O O$ qV (Qy 32 4294967296 O O (by decide) O)$ qV (RD O O)$ Me O$ qM O ?_
 rw[Nat.mod_eq_of_lt (show x5+x5 / 4294967296<18446744073709551616 by omega)]
 generalize aJ:x5+x5 / 4294967296=x6 at f2
 have Im:x6<=1170000000000000000:=by omega
 refine LW O$ qV (MK O Nv U3 (by omega))$ qV (TX O O (by omega) (by omega)) ?_
 rw[show x6&&&127=D.sum by rw[<-f2];exact Nat.and_two_pow_sub_one_eq_mod x6 7]
 refine M4 O$ LZ Tryz.func213 O ?_
 exact⟨_,rfl,rfl,rfl⟩
theorem z5X {x:Nat}(hx:x<18446744073709551616):MR x<=64:=NR (by omega)
theorem z6v (x:Nat)(hx:x<18446744073709551616)(w:World):Mw Tryz.prog 214 [Mh x] w λv w'=>v=I ((64-MR x:Nat):Int)/\w'=w:=by
 have rK:=z5X hx
 refine It (e:=[(0,_)]) Tryz.func214 O Tryz.ntmps214 O O$ qN O$ Me O$ qM O$ LW O$ Mn YN O (QP x hx w) ?_
 rintro _ w ⟨rfl,rfl⟩
 refine Oa O O ?_
 rw[show(64:Int)-(MR x:Int)=((64-MR x:Nat):Int) by omega]
 refine M4 O$ LZ Tryz.func214 O ?_
 exact⟨_,rfl,rfl,rfl⟩
def methT (P:Program)(t:TypeId)(name:String):Option FuncId:=match P.info? t with
 | some i => match i.methods.toList.find? (·.name == name) with
   | some m => match m.path.toList, m.func with
     | [], some (f, pr) => match P.underlying t with
       |some (.pointer _)=>cond pr (some f) none
       |some _=>cond pr none (some f)
       |none=>none
     |_,_=>none
   |none=>none
 |none=>none
section
variable {P:Program}{e:Env}{d:Option Nat}{ty t t':TypeId}{pos:String}{aft:Array Edge}{g:Option (Nat×Bool)}{x y:Operand}{w:World}{m n:Nat}
theorem Qo {i:TypeInfo}(h:P.info? t=some i):(typeInfo t).run P w= .ok i w:=by simp[typeInfo,program,Sem.run,h]
theorem z66 {f:FuncId}{name:String}{u:Value}(h:methT P t name=some f)(n:Nat):(method (n+1) t u name).run P w= .ok (f,u) w:=by
 unfold methT at h
 split at h<;>try cases h
 rename_i i hi
 split at h<;>try cases h
 rename_i m hm
 split at h<;>try cases h
 rename_i f' pr j6 j7
 have ni:i.methods.find? (·.name==name)=some m:=by rw[<-hm,Array.find?_toList]
 split at h<;>try cases h
 ·rename_i el hu
  cases pr<;>simp at h;subst h;simp[method,Qo hi,ni,j6,follow,j7,receiverAt,run_underlying hu,Place.get]
 ·rename_i td FW hu
  cases pr<;>simp at h;subst h;unfold method;simp only[Sem.run_bind,Qo hi,Result.andThen_ok,ni,j6,follow,Sem.run_pure,j7,receiverAt,run_underlying hu,Place.get]
theorem yci {f:FuncId}{nm:String}{args:List Operand}{ts:Array TypeId}{vs:List Value}{u:Value}(hf:CF P f)(hm:methT P t nm=some f)(hx:look e x=some (.iface t u))(ha:looks e args=some vs):
  Yc P e ⟨d,.call ⟨.invoke x nm,args.toArray,ts⟩,ty,pos,aft,g⟩ f (u::vs) w:=fun ρ hρ=>by
 have zS:=λw=>z66 (P:=P) (w:=w) (u:=u) hm (P.types.size+(Made.depth-1))
 rw[show P.types.size+(Made.depth-1)+1=P.types.size+Made.depth from rfl] at zS
 have sn:(program).run P w= .ok P w:=rfl
 have ni:=Qi hρ _ _ ha
 have h0:=hρ _ _ hx
 simp[execOp,resolve,ni,h0,Deferred.ofValue,invoke,callMethod,sn,zS,PZ hf]
theorem zbu (hx:look e x=some (I (m:Int)))(hy:look e y=some (I 7))(hm:m<2^62):Y P e ⟨d,.binOp .andNot t x y t',ty,pos,aft,g⟩ (I ((m / 8*8:Nat):Int)) w w:=fun ρ hρ=>by
 have h1:m<2^IntKind.i64.bits:=by simp only[IntKind.bits];omega
 have h3:m&&&18446744073709551608=m / 8*8:=by
  have h4:=R0 (s:=3) (a:=m / 8) (b:=m%8) (c:=2305843009213693951) (d:=0) (Nat.mod_lt _ (by decide)) (by decide);rw[Nat.and_zero,Nat.zero_add,Nat.zero_add] at h4;have h5:=Nat.and_two_pow_sub_one_eq_mod (m / 8) 61;rw[show(2:Nat)^61-1=2305843009213693951 from rfl,Nat.mod_eq_of_lt (by omega)] at h5;rw[h5,show(2:Nat)^3=8 from rfl,show 8*2305843009213693951=18446744073709551608 from rfl,show m%8+8*(m / 8)=m by omega] at h4;rw[h4];omega
 have h6:(BitVec.ofInt IntKind.i64.bits (m:Int)&&&~~~(BitVec.ofInt IntKind.i64.bits 7)).toNat=m / 8*8:=by
  rw[BitVec.toNat_and,Nk h1,show(~~~(BitVec.ofInt IntKind.i64.bits 7)).toNat=18446744073709551608 by decide,h3]
 simp only[execOp,eqGuard_andNot,binOp_andNot,intBits_andNot,hρ _ _ hx,hρ _ _ hy,pure_bind,Sem.run_pure,bits,h6]
 rw[wrap_i64 ⟨by omega,by omega⟩]
theorem zfI {r v q:Nat}(hr:r<=63)(hv:v<2^r)(hq:2^r=q)(hx:look e x=some (.int .u64 ((q+v:Nat):Int)))(hy:look e y=some (.int .u64 (q:Int))):Y P e ⟨d,.binOp .andNot t x y t',ty,pos,aft,g⟩ (.int .u64 (v:Int)) w w:=fun ρ hρ=>by
 subst hq
 have hp:2^r<=2^63:=Nat.pow_le_pow_right (by decide) hr
 have rK:2^64=2^r*2^(64-r):=by rw[<-Nat.pow_add,show r+(64-r)=64 by omega]
 have h2:2^(64-r)=2*2^(63-r):=by rw[<-Nat.pow_succ',show 64-r=(63-r)+1 by omega]
 have un:0<2^(63-r):=Nat.two_pow_pos _
 have h1:2^r+v<2^IntKind.u64.bits:=by simp only[IntKind.bits];omega
 have h3:2^r<2^IntKind.u64.bits:=by simp only[IntKind.bits];omega
 have h4:(2^r+v)&&&(2^64-1-2^r)=v:=by
  have h5:=R0 (s:=r) (a:=1) (b:=v) (c:=2^(64-r)-2) (d:=2^r-1) hv (by have:=Nat.two_pow_pos r;omega);rw[Nat.mul_one,Nat.and_two_pow_sub_one_eq_mod,Nat.mod_eq_of_lt hv,Nat.one_and_eq_mod_two,h2,show(2*2^(63-r)-2)%2=0 by omega,Nat.mul_zero,Nat.add_zero] at h5
  have h6:2^r-1+2^r*(2*2^(63-r)-2)=2^64-1-2^r:=by
   rw[Nat.mul_sub,<-h2,<-rK];have:=Nat.two_pow_pos r;omega
  rw[h6,Nat.add_comm v] at h5;exact h5
 have h6:(BitVec.ofInt IntKind.u64.bits ((2^r+v:Nat):Int)&&&~~~(BitVec.ofInt IntKind.u64.bits ((2^r:Nat):Int))).toNat=v:=by
  rw[BitVec.toNat_and,BitVec.toNat_not,Nk h1,Nk h3];exact h4
 simp only[execOp,eqGuard_andNot,binOp_andNot,intBits_andNot,hρ _ _ hx,hρ _ _ hy,pure_bind,Sem.run_pure,bits,h6]
 rw[Wp (k:= .u64) O (by simp only[IntKind.bits];omega)]
end
structure Src (t:TypeId)(u:Value)(T:Bytes) where
 inv:(Nat->Prop)->World->Prop
 fl:FuncId
 fr:FuncId
 cl:CF Tryz.prog fl
 cr:CF Tryz.prog fr
 ml:methT Tryz.prog t "Length"=some fl
 mr:methT Tryz.prog t "ReadAt"=some fr
 ext:∀{X Y:Nat->Prop} {w w':World},inv X w->Ext w w'->(∀k,Y k->X k\/w.heap.size<=k)->inv Y w'
 step:∀{X Y S:Nat->Prop} {w w':World},inv X w->Kp S w w'->(∀k,S k->X k)->(∀k,Y k->X k\/w.heap.size<=k)->inv Y w'
 len:∀{X:Nat->Prop} {w:World},inv X w->Mw Tryz.prog fl [u] w λv w'=>v=I (T.length:Int)/\Ext w w'
 rd:∀{X:Nat->Prop} {w:World} (off n:Nat),inv X w->(∀k,X k->k<w.heap.size)->off+n<=T.length->Mw Tryz.prog fr [u,I (off:Int),I (n:Int)] w λv w'=>v= .tuple #[S ((T.drop off).take n),I 0]/\inv X w'/\Kp (λk=>¬X k) w w'
theorem Src.own {t:TypeId}{u:Value}{T:Bytes}(R:Src t u T){X S:Nat->Prop}{w w':World}(h:R.inv X w)(hk:Kp S w w')(hS:∀k,S k->X k):R.inv X w':=R.step h hk hS λ_ e=> .inl e
theorem Vf {s:Bytes}{i:Nat}{c:UInt8}(h:s[i]? =some c):valB (Ml (s.take (i+1)))=valB (Ml (s.take i))*256+c.toNat:=by
 rw[MP h,UO,Oz,show Ml [c]=bitsN 8 c.toNat by simp[Ml],MW,bitsN_length]
 have:=c.toNat_lt
 omega
theorem Tp (s:Bytes)(hs:s.length<=8)(w:World):Mw Tryz.prog 169 [S s] w λv w'=>v=Mh (valB (Ml s))/\Ext w w':=by
 refine It (e:=[(0,_)]) Tryz.func169 O Tryz.ntmps169 O O$ qN O$ Me O$ qM O$ M4 O$ run_seq$ qN O$ LW O$ M5 O O (z5y U9 Nc U5 O) ?_
 rintro _ w1 ⟨b7,c7,rest,rfl,⟨kF,ad,aj⟩,zK⟩
 refine O9 Nc O$ LW O$ LX$ LU$ Oh (α:=Nat) (0) (λi=>[(3,Mh (valB (Ml (s.take i)))),(7,.slice (some ⟨b7,0,none⟩) s.length c7),(8,I (s.length:Int)),(9,I (i:Int))]) (λi w'=>w'=w1/\i<=s.length) (λi=>s.length-i) ?hI ?hround
 case hI=>exact⟨rfl,Nat.zero_le _⟩
 case hround=>
  rintro i w2 ⟨rfl,hi⟩ ih
  try dsimp only
  refine qN O$ Ni O O$ LX$ run_seq$ M8 O (λh0=>?_)$ λh0=>?_
  ·obtain⟨c,hc⟩:∃c,s[i]? =some c:=⟨_,List.getElem?_eq_getElem (by omega)⟩;have dN:=c.toNat_lt;have g8:=Vf hc
   have aP:valB (Ml (s.take i))<72057594037927936:=by
    have h1:=NA (Ml (s.take i));rw[bitsT_length,List.length_take] at h1;have h2:2^(8*min i s.length)<=2^56:=Nat.pow_le_pow_right (by decide) (by omega);omega
   have aV:w2.cell? ⟨b7,0+i*1,none⟩=some (PF c):=by
    rw[aj.cell,Nat.zero_add,Nat.mul_one,List.getElem?_append_left (by rw[List.length_map];omega),List.getElem?_map,hc];rfl
   refine py$ run_seq$ LU$ qN O$ qV (MS Nc TS O O (by omega))$ qV (MA U5 O O aV) ?_
   generalize valB (Ml (s.take i))=q at g8 aP
   refine M4 O$ M0 O$ LW O$ qV (NW 8 256 O O (by decide) O)$ LW O$ qV ((by first|exact z2n O U5 Nv (by decide)|exact MQ O U5 Nv (by omega))) ?_;refine qV (W3 O O (by omega) (by omega)) ?_
   have mm:(q*256%18446744073709551616 |||c.toNat)=valB (Ml (s.take (i+1))):=by
    rw[g8,Nat.mod_eq_of_lt (by omega),Nat.mul_comm q];exact(Nat.two_pow_add_eq_or_of_lt (i:=8) dN q).symm
   rw[mm];refine M4 O$ LV$ M0 O$ MT O O$ LW O$ LX ?_;exact(ih (i+1) _ ⟨rfl,by omega⟩ (by omega)).qb
  ·have cy:i=s.length:=by omega
   subst cy;rw[List.take_length];refine M6 O$ qN O$ LW O$ M4 O$ LZ Tryz.func169 O ?_;exact⟨_,rfl,rfl,ad⟩
section
variable {P:Program}{e:Env}{d:Option Nat}{ty t t':TypeId}{pos:String}{aft:Array Edge}{g:Option (Nat×Bool)}{x y:Operand}{w:World}
theorem z9s {ms:Array (String×TypeId)}{tx:TypeId}{v:Value}(ht:P.underlying t=some (.interface ms)):(binOp .eql t (.iface tx v) .nilIface).run P w= .ok (.bool false) w:=by
 have h:P.methodsAt t=ms:=by unfold Program.methodsAt;rw[ht]
 exact run_eql_held_nil w t tx v (by rw[h];exact ht)
theorem zaa {ms:Array (String×TypeId)}{tx:TypeId}{v:Value}(ht:P.underlying t=some (.interface ms))(hx:look e x=some (.iface tx v))(hy:look e y=some .nilIface):Y P e ⟨d,.binOp .eql t x y t',ty,pos,aft,g⟩ (.bool false) w w:=fun ρ hρ=>by
 have hg:∀a b,(eqGuard .eql t a b (.iface tx v) .nilIface).run P w= .ok () w:=λa b=>rfl
 simp only[execOp,hρ _ _ hx,hρ _ _ hy,Sem.run_bind,hg,Result.andThen_ok,z9s ht,Sem.run_pure]
theorem zcA {tx:TypeId}{v:Value}(hx:look e x=some (.iface tx v)):Y P e ⟨d,.nilCheck x,ty,pos,aft,g⟩ (.iface tx v) w w:=fun ρ hρ=>by simp[execOp,hρ _ _ hx]
end
structure RU (l:List Nat)(f:Fm)(z:Nat):Prop where
 n1:1<=l.length
 n2:l.length<=64
 nof:Nof l
 last:l[l.length-1]? =some z
 zb:z<=999999998
 fe:f=Qq l.length (z+1)
theorem RU.small {l:List Nat}{f:Fm}{z:Nat}(h:RU l f z):f.small:=by
 rw[h.fe]
 exact Zk h.n1 (by have:=h.n2;omega) (by omega) (by have:=h.zb;omega)
theorem RU.len {l:List Nat}{f:Fm}{z:Nat}(h:RU l f z):(Up l f).length=f.size:=by
 rw[h.fe]
 exact z0t h.n1 h.n2 h.nof h.last
theorem RU.n {l:List Nat}{f:Fm}{z:Nat}(h:RU l f z):f.n=l.length:=by rw[h.fe];rfl
theorem RU.u {l:List Nat}{f:Fm}{z:Nat}(h:RU l f z):f.u=z+1:=by rw[h.fe];rfl
theorem RU.size_le {l:List Nat}{f:Fm}{z:Nat}(h:RU l f z):f.size<=40000000/\12<=f.size:=by
 have h1:=h.small
 have h2:=Fm.Tm h1
 obtain⟨h3,h4,h5⟩:=h1
 unfold Fm.size Fm.Ru
 have:12<=f.high:=by unfold Fm.high;omega
 omega
theorem piece {A B C:Bytes}{off n o:Nat}(h:off=A.length+o)(hn:o+n<=B.length):((A++B++C).drop off).take n=(B.drop o).take n:=by
 rw[h,List.append_assoc,List.drop_length_add_append,List.drop_append_of_le_length (by omega),List.take_append_of_le_length (by rw[List.length_drop];omega)]
def PK (f:Fm):List Bool:=bitsN 32 f.n++bitsN 64 f.u
theorem YR (f:Fm):Ml (Ms (PK f))=PK f:=by
 obtain⟨z,h1,h2,h3⟩:=OQ (PK f)
 have hl:(PK f).length=96:=by simp[PK]
 have hz:z=0:=by omega
 rw[h1,hz,List.replicate_zero,List.append_nil]
theorem Rm (f:Fm):(Ms (PK f)).length=12:=by
 rw[MF];simp[PK]
theorem zb2 (f:Fm)(hn:f.n<4294967296):valB (Ml ((Ms (PK f)).take 4))=f.n:=by
 rw[QZ,YR]
 unfold PK
 rw[List.take_left' (by simp),MW]
 exact Nat.mod_eq_of_lt hn
theorem zaY (f:Fm)(hu:f.u<18446744073709551616):valB (Ml ((Ms (PK f)).drop 4))=f.u:=by
 rw[Qj,YR]
 unfold PK
 rw[List.drop_left' (by simp),MW]
 exact Nat.mod_eq_of_lt hu
theorem z7Y (l:List Nat)(f:Fm):((Up l f).drop 0).take 12=Ms (PK f):=by
 have h:=piece (A:=[]) (B:=Ms (PK f)) (C:=Ms (P6 f.width l)++(Ms (hiB f.width 0 0 l)++Ms (restB f.width l))) (off:=0) (n:=12) (o:=0) O (by rw[Rm];omega)
 rw[List.nil_append] at h
 unfold Up
 rw[List.append_assoc,List.append_assoc]
 refine h.trans ?_
 rw[List.drop_zero,List.take_of_length_le (by rw[Rm];omega)]
def elC (f:Fm)(t:TypeId)(u:Value):List Value:=[I (f.n:Int),Mh f.u,I (f.width:Int),I (f.bits:Int),.iface t u]
theorem z3c {t:TypeId}{u:Value}{l:List Nat}{f:Fm}{z:Nat}(he:RU l f z)(R:Src t u (Up l f)){X:Nat->Prop}{w:World}(hI:R.inv X w)(hX:∀k,X k->k<w.heap.size):
  Mw Tryz.prog 134 [.iface t u] w λv w'=>∃x,v= .tuple #[ptr x 0,I 0]/\M7 w' x (elC f t u) 294/\w.heap.size<=x/\R.inv (λk=>X k\/k=x) w'/\Kp (λk=>¬X k) w w':=by
 obtain⟨dW,cY⟩:=he.size_le
 have aA:=he.len
 have ph:=he.n
 have zP:=he.u
 have ia:=he.n2
 have cU:=he.n1
 have uL:=he.zb
 refine It (e:=[(0,_)]) Tryz.func134 O Tryz.ntmps134 O O$ qN O$ Me O$ M4 O$ run_seq$ LU$ qN O$ LW O$ qV (zaa z1z O O)$ M4 O$ An O$ qN O$ LW O$ Ny O O (yci R.cl R.ml O O) (R.len hI) ?_
 rintro _ w1 ⟨rfl,ad⟩
 rw[aA]
 have m5:=R.ext hI ad (λk hk=> .inl hk)
 have kZ:∀k,X k->k<w1.heap.size:=λk hk=>by have:=hX k hk;have:=ad.size;omega
 refine Ni O O$ ML$ M4 O$ An O$ py$ LV$ qN O$ LW O$ Ny O O (yci R.cr R.mr O O) (R.rd 0 12 m5 kZ (by rw[aA];omega)) ?_
 rintro _ w2 ⟨rfl,cF,ao⟩
 rw[z7Y]
 have dE:Kp (λk=>¬X k) w w2:=ad.kp.trans ao
 have gB:∀k,X k->k<w2.heap.size:=λk hk=>by have:=kZ k hk;have:=ao.size;omega
 have oE:=Rm f
 have oB:((Ms (PK f)).take 4).length<=8:=by rw[List.length_take];omega
 have iQ:((Ms (PK f)).drop 4).length<=8:=by rw[List.length_drop];omega
 have ux:=zb2 f (by omega)
 have FX:=zaY f (by omega)
 generalize Ms (PK f)=hb at oE oB iQ ux FX
 have aa:=Ext.Mm w2
 refine LW O$ N5 O O$ N5 O O$ Me O$ M4 O$ run_seq$ qN O$ LW O$ N9 O O$ LX$ An O$ py$ run_seq$ NV (λw'=>Ext w2 w') O ?_
 refine Mj 0 O O (aa)$ M3 1 O (XN U9 O O (by omega)) aa$ Mj 3 O O (aa)$ M3 4 O (Ww U9 O O (by omega)) aa$ Pm 2 O z4x O (Tp (hb.take 4) oB _) ?_
 rintro _ w3 ⟨rfl,ai⟩
 refine⟨aa.trans ai,?_⟩
 refine Pm 5 O z4x O (Tp (hb.drop 4) iQ _) ?_
 rintro _ w4 ⟨rfl,ay⟩
 refine⟨(aa.trans ai).trans ay,?_⟩
 have cQ:=(aa.trans ai).trans ay
 rw[ux,FX]
 have kh:=R.ext cF cQ (λk hk=> .inl hk)
 refine M3 6 O (NX O) ((aa.trans ai).trans ay)$ M3 7 O (NX O) ((aa.trans ai).trans ay)$ qE$ Mz.qb (e:=[(0,_),(2,_),(3,_),(6,_),(7,_)]) ?_
 refine run_seq$ qN O$ LW O$ Ng O O$ ML$ Md O O$ Ng O O$ ML$ MN O O$ Md O O$ O3 O O$ ML$ LW O$ O3 O O ?_
 refine ML$ qV (z6X O O U4)$ MN O O$ LX$ An O$ py$ qN O$ LW O$ qV (MK O Nv U3 (by omega))$ LW O ?_
 have In:Qq f.n f.u=f:=by rw[ph,zP];exact he.fe.symm
 have kJ:=Uj f.n f.u (by omega) (by omega) (by omega) (by omega) w4
 rw[In] at kJ
 refine Mn z6y O (kJ) ?_
 rintro _ w5 ⟨rfl,aW⟩
 refine M5 O O (Oo (cs:=[_,_,_,_]) Q0 O) ?_
 rintro _ w6 ⟨b8,rfl,jk,aJ,cu⟩
 refine Mb O (MO (news:=fmC f) Q0 O O O O cu (by simp)) ?_
 rintro w7 ⟨pN,aD⟩
 replace pN:M7 w7 b8 (fmC f) 238:=pN
 have pG:Ext w5 w7:=aJ.LS aD (λi e=>by omega)
 have wO:=aW.trans pG
 have jq:=R.ext kh wO (λk hk=> .inl hk)
 refine LX$ run_seq$ qN O$ qV (Mv (news:=fmC f) z1R O Q0 O (pN.cells (n:=4) O) O)$ Mn zak O (Z5 f he.small _) ?_
 rintro _ w8 ⟨rfl,dw⟩
 have Cs:=R.ext jq dw (λk hk=> .inl hk)
 refine LW O$ Ny O O (yci R.cl R.ml O O) (R.len Cs) ?_
 rintro _ w9 ⟨rfl,eJ⟩
 rw[aA]
 have jr:=R.ext Cs eJ (λk hk=> .inl hk)
 have iv:=dw.trans eJ
 have wP:=(cQ.trans wO).trans iv
 refine N9 O O$ ML$ LX$ Mz.qb (e:=[(0,_),(2,_),(3,_),(8,_),(51,_)]) ?_
 refine An O$ py$ qN O$ qV (Mv (news:=fmC f) z1R O Q0 O ((iv.LY pN).cells (n:=4) O) O)$ LW O$ qV (OO (cs:=[_,_,_,_,_]) zdy O zf7 O O)$ M5 O O (O2 O (cs:=elC f t u) O) ?_
 rintro _ w10 ⟨x,rfl,hx,bL,fi⟩
 refine Me O$ M4 O$ LZ Tryz.func134 O ?_
 exact⟨_,rfl,x,rfl,fi,by have:=dE.size;have:=wP.size;omega,R.ext jr bL (λk hk=>hk.imp id λe=>by omega),dE.trans (wP.trans bL).kp⟩
theorem z6i {t:TypeId}{u:Value}{f:Fm}{x:Nat}{w:World}(hB:M7 w x (elC f t u) 294):Mw Tryz.prog 135 [ptr x 0] w λv w'=>v=I (f.n:Int)/\w'=w:=by
 replace hB:M7 w x [I (f.n:Int),Mh f.u,I (f.width:Int),I (f.bits:Int),.iface t u] 294:=hB
 refine It (e:=[(0,_)]) Tryz.func135 O Tryz.ntmps135 O O$ qN O$ M4 O$ run_seq$ qN O$ LW O$ qV (N7 UH O O)$ LX$ An O$ py$ qN O$ LW O$ MC O$ Ma OY O ?_
 refine Ma UC O$ qV (M1 U3 O O hB O)$ M4 O$ LZ Tryz.func135 O ?_
 exact⟨_,rfl,rfl,rfl⟩
theorem z7P (k:Nat)(a b:List Nat):P6 k (a++b)=P6 k a++P6 k b:=by simp[P6]
theorem z8R {k i v:Nat}{l:List Nat}(h:l[i]? =some v)(rest:List Bool):((P6 k l++rest).drop (i*k)).take k=bitsN k (v%2^k):=by
 have hi:=(List.getElem?_eq_some_iff.1 h).1
 have e:l=l.take i++(v::l.drop (i+1)):=by
  conv=>lhs;rw[<-List.take_append_drop i l]
  congr 1
  rw[List.drop_eq_getElem_cons hi,(List.getElem?_eq_some_iff.1 h).2]
 have hl:(P6 k (l.take i)).length=i*k:=by rw[Ra,List.length_take,Nat.min_eq_left (by omega)]
 rw[e,z7P,List.append_assoc,List.drop_left' hl]
 show((bitsN k (v%2^k)++P6 k (l.drop (i+1)))++rest).take k=_
 rw[List.append_assoc,List.take_left' (by simp)]
theorem Yx {B:Bytes}{o n a m:Nat}(h:a+m<=8*n):((Ml ((B.drop o).take n)).drop a).take m=((Ml B).drop (8*o+a)).take m:=by
 rw[QZ,Qj,List.drop_take,List.drop_drop,List.take_take,Nat.min_eq_left (by omega)]
theorem z9F (l:List Nat)(f:Fm){o n:Nat}(h:o+n<=(Ms (P6 f.width l)).length):((Up l f).drop (12+o)).take n=((Ms (P6 f.width l)).drop o).take n:=by
 unfold Up
 rw[List.append_assoc (Ms (bitsN 32 f.n++bitsN 64 f.u)++Ms (P6 f.width l))]
 exact piece (by rw[show Ms (bitsN 32 f.n++bitsN 64 f.u)=Ms (PK f) from rfl,Rm]) h
theorem z5l {t:TypeId}{u:Value}{l:List Nat}{f:Fm}{z:Nat}(he:RU l f z)(R:Src t u (Up l f)){X:Nat->Prop}{w:World}(hI:R.inv X w)(hX:∀k,X k->k<w.heap.size){x:Nat}(hx:X x)(hB:M7 w x (elC f t u) 294){i v:Nat}(hv:l[i]? =some v):
  Mw Tryz.prog 182 [ptr x 0,I (i:Int)] w λr w'=>r= .tuple #[Mh (v%2^f.width),I 0]/\R.inv X w'/\Kp (λk=>¬X k) w w':=by
 have cy:=(List.getElem?_eq_some_iff.1 hv).1
 have aA:=he.len
 obtain⟨vm,wQ⟩:=he.size_le
 have ia:=he.n2
 have uw:f.width<=30:=by rw[he.fe];exact VE (by have:=he.zb;omega)
 replace hB:M7 w x [I (f.n:Int),Mh f.u,I (f.width:Int),I (f.bits:Int),.iface t u] 294:=hB
 refine It (e:=[(0,_),(1,_)]) Tryz.func182 O Tryz.ntmps182 O O$ qN O$ Me O$ M4 O$ run_seq$ qN O$ LW O$ MC O$ Ma OY O$ Ma PV O$ qV (M1 U3 O O hB O)$ O3 O O$ LX$ M8 O (λh0=>?_)$ λh0=>?_
 ·have mM:f.width=0:=by omega
  refine qN O$ Me O$ M4 O$ LZ Tryz.func182 O (⟨_,rfl,?_,hI,Kp.refl _ _⟩);rw[mM,Nat.pow_zero,Nat.mod_one]
  rfl
 ·have Fy:1<=f.width:=by omega
  have Io:i*f.width<=64*30:=Nat.mul_le_mul (by omega) uw;have FY:(i+1)*f.width=i*f.width+f.width:=by rw[Nat.add_mul,Nat.one_mul]
  have eH:(i+1)*f.width<=l.length*f.width:=Nat.mul_le_mul_right _ cy;have e1:((i*f.width:Nat):Int)=(i:Int)*(f.width:Int):=Int.natCast_mul _ _;have e2:(((i+1)*f.width:Nat):Int)=((i:Int)+1)*(f.width:Int):=Int.natCast_mul _ _;have hg:=Ext.Mm w;refine py$ run_seq$ NV (λw'=>Ext w w') O$ Mj 0 O O (hg)$ Mj 1 O O (hg)$ M3 2 O (N4 O) hg$ M3 3 O (My OY O) hg$ M3 4 O (My PV O) hg$ qT 5 O (λ_ h=>M1 U3 O O (h.LY hB) O) hg$ Mj 7 O O (hg)$ M3 8 O (R4 O O (by omega)) hg$ Mj 9 O O (hg)$ M3 10 O (N4 O) hg$ M3 11 O (My OY O) hg ?_;refine M3 12 O (My PV O) hg$ qT 13 O (λ_ h=>M1 U3 O O (h.LY hB) O) hg$ M3 6 O (SB O O (by rw[<-e1];omega)) hg ?_;rw[<-e1];refine M3 15 O (NX O) hg$ M3 14 O (SB O O (by rw[<-e2];omega)) hg ?_;rw[<-e2,FY];refine M3 16 O (NX O) hg$ qE$ Mz.qb (e:=[(0,_),(4,_),(5,_),(6,_),(7,_)]) ?_;refine qN O$ LW O$ MC O$ Ma z0b O$ qV (M1 z1z O O hB O)$ LW O$ qV (Te O O (by omega))$ MT O O$ LW O$ MT O O$ qV (Te O O (by omega))$ LW O$ qV (Te O O (by omega))$ Oa O O ?_;have wR:=hg.LY hB;have Ip:=R.ext hI hg (λk hk=> .inl hk);have Iq:∀k,X k->k<w.drew.heap.size:=λk hk=>by have:=hX k hk;have:=hg.size;omega
  have Ct:(Ms (P6 f.width l)).length=(l.length*f.width+7) / 8:=by rw[MF,Ra]
  have Cu:=z8R (k:=f.width) hv;have oY:∀rest,((P6 f.width l++rest).drop (i*f.width)).take f.width=bitsN f.width (v%2^f.width):=Cu;rw[FY] at eH
  generalize i*f.width=fr at Io eH oY e1
  rw[show(12:Int)+(fr:Int) / 8=((12+fr / 8:Nat):Int) by omega,show((fr+f.width:Nat):Int)+7=((fr+f.width+7:Nat):Int) by omega,show((fr+f.width+7:Nat):Int) / 8-(fr:Int) / 8=(((fr+f.width+7) / 8-fr / 8:Nat):Int) by omega];have sX:fr / 8+((fr+f.width+7) / 8-fr / 8)<=(Ms (P6 f.width l)).length:=by rw[Ct];omega
  have jj:=z9F l f sX
  have sY:12+fr / 8+((fr+f.width+7) / 8-fr / 8)<=(Up l f).length:=by
   have e:(Up l f).length=12+(Ms (P6 f.width l)).length+(Ms (hiB f.width 0 0 l)).length+(Ms (restB f.width l)).length:=by
    unfold Up;rw[List.length_append,List.length_append,List.length_append,show Ms (bitsN 32 f.n++bitsN 64 f.u)=Ms (PK f) from rfl,Rm]
   omega
  refine Ny O O (yci R.cr R.mr O O) (R.rd (12+fr / 8) ((fr+f.width+7) / 8-fr / 8) Ip Iq sY) ?_;rintro _ w1 ⟨rfl,m5,aK⟩;rw[jj];have iw:Kp (λk=>¬X k) w w1:=hg.kp.trans aK;have aj:=iw.LY hB (λe=>e hx)
  have eQ:(((Ms (P6 f.width l)).drop (fr / 8)).take ((fr+f.width+7) / 8-fr / 8)).length=(fr+f.width+7) / 8-fr / 8:=by
   rw[List.length_take,List.length_drop];omega
  obtain⟨zz,mh,-,-⟩:=OQ (P6 f.width l);have c6:=Yx (B:=Ms (P6 f.width l)) (o:=fr / 8) (n:=(fr+f.width+7) / 8-fr / 8) (a:=fr%8) (m:=f.width) (by omega);rw[show 8*(fr / 8)+fr%8=fr by omega,mh,oY] at c6
  generalize ((Ms (P6 f.width l)).drop (fr / 8)).take ((fr+f.width+7) / 8-fr / 8)=pt at eQ c6
  refine LW O$ N5 O O$ N5 O O$ Me O$ M4 O$ run_seq$ qN O$ LW O$ N9 O O$ LX$ Mz.qb (e:=[(0,_),(4,_),(5,_),(6,_),(8,_),(9,_),(52,_)]) ?_;refine An O$ py$ qN O$ LW O$ Mn z4k O (Tu pt (by omega) w1) ?_;rintro _ w2 ⟨r,rfl,cI,af,dB⟩;refine Me O$ qM O$ Md O O$ qV (TX O O (by omega) (by omega)) ?_;rw[show fr&&&7=fr%8 from Nat.and_two_pow_sub_one_eq_mod fr 3];refine Mn z7F O (VN cI (fr%8) (by omega)) ?_;rintro _ w3 ⟨rfl,ld,au⟩;have aN:Ext w1 w3:=af.LS au (λi e=>by omega);have ar:=aN.LY aj;refine qM O$ Md O O$ MC O$ Ma OY O$ Ma PV O$ qV (M1 U3 O O ar O)$ Mn z1e O (RW ld f.width (by omega)) ?_;rintro v4 w4 mI
  have fH:v4= .tuple #[Mh (v%2^f.width),I 0]/\Kp (λk=>k=r) w3 w4:=by
   rcases mI with⟨-,e,-,hk⟩|⟨e,-,-⟩
   ·rw[c6,MW,Nat.mod_mod] at e;exact⟨e,hk⟩
   ·omega
  obtain⟨rfl,av⟩:=fH;have bJ:Ext w1 w4:=aN.LS av (λi e=>by omega);refine LW O$ N5 O O$ N5 O O$ Me O$ M4 O$ Mz.qb (e:=[(4,_),(5,_),(11,_)]) ?_;refine qN O$ LW O$ Me O$ M4 O$ LZ Tryz.func182 O ?_;exact⟨_,rfl,rfl,R.ext m5 bJ (λk hk=> .inl hk),iw.trans bJ.kp⟩
theorem Xk (n:Nat):valB (List.replicate n false)=0:=by
 rw[<-S9,MW];simp
theorem z0y (b:List Bool)(k:Nat):valB (b++List.replicate k false)=valB b*2^k:=by
 rw[Oz,Xk,List.length_replicate,Nat.add_zero]
theorem YY (b:List Bool)(k:Nat):valB (List.replicate k false++b)=valB b:=by
 rw[Oz,Xk];simp
theorem Xd {D:List Bool}{a b m:Nat}(ha:m<=D.length+a)(hb:m<=D.length+b):(D++List.replicate a false).take m=(D++List.replicate b false).take m:=by
 rw[List.take_append,List.take_append,List.take_replicate,List.take_replicate,Nat.min_eq_left (by omega),Nat.min_eq_left (by omega)]
def wdB (H:List Bool)(a:Nat):List Bool:=List.replicate (a%8) false++(H.drop a++List.replicate 64 false).take (64-a%8)
theorem z3B (H:List Bool)(a:Nat):(wdB H a).length=64:=by
 unfold wdB
 rw[List.length_append,List.length_replicate,List.length_take,List.length_append,List.length_replicate]
 omega
theorem z4U {H:List Bool}{fq n:Nat}(hf:8*fq<H.length)(hn:n=min 8 ((H.length+7) / 8-fq)):
  Ml (((Ms H).drop fq).take n)++List.replicate (64-8*n) false=(H.drop (8*fq)++List.replicate 64 false).take 64:=by
 obtain⟨z,h1,h2,h3⟩:=OQ H
 rw[QZ,Qj,h1,List.drop_append_of_le_length (by omega)]
 have hD:(H.drop (8*fq)).length=H.length-8*fq:=List.length_drop
 generalize H.drop (8*fq)=D at hD
 rcases Nat.lt_or_ge n 8 with h| h
 ·have e:8*n=D.length+z:=by omega
  rw[List.take_of_length_le (by rw[List.length_append,List.length_replicate];omega),List.append_assoc,List.replicate_append_replicate];rw[Xd (a:=64) (b:=z+(64-8*n)) (by omega) (by omega),List.take_of_length_le (by rw[List.length_append,List.length_replicate];omega)]
 ·have e:n=8:=by omega
  subst e;rw[show 64-8*8=0 from rfl,List.replicate_zero,List.append_nil];exact Xd (by omega) (by omega)
theorem z4L {W:List Bool}(hW:W.length=64){d:Nat}(hd:d<=64):valB W%2^(64-d)=valB (List.replicate d false++W.drop d):=by
 have h1:=Oz (W.take d) (W.drop d)
 rw[List.take_append_drop,List.length_drop,hW] at h1
 have h2:=NA (W.drop d)
 rw[List.length_drop,hW] at h2
 rw[YY,h1,Nat.add_comm,Nat.add_mul_mod_self_right,Nat.mod_eq_of_lt h2]
theorem z4I {H:List Bool}{a:Nat}(ha:a<H.length):List.replicate (a%8) false++((H.drop (8*(a / 8))++List.replicate 64 false).take 64).drop (a%8)=wdB H a:=by
 unfold wdB
 congr 1
 have hd:a%8<=(H.drop (8*(a / 8))).length:=by rw[List.length_drop];omega
 rw[List.drop_take,List.drop_append_of_le_length hd,List.drop_drop,show 8*(a / 8)+a%8=a by omega]
theorem z7E {H:List Bool}{a r:Nat}(ha:a<H.length)(hr:a / 8*8+64=H.length+r):∃q,valB (wdB H a)=q*2^r:=by
 have hD:(H.drop a).length=H.length-a:=List.length_drop
 refine⟨valB (List.replicate (a%8) false++H.drop a),?_⟩
 rw[<-z0y]
 congr 1
 unfold wdB
 rw[List.append_assoc,Xd (a:=64) (b:=r) (by omega) (by omega),List.take_of_length_le (by rw[List.length_append,List.length_replicate];omega)]
theorem z4Y {d:Nat}(hd:d<=64):18446744073709551615 / 2^d=2^(64-d)-1:=by
 have hp:0<2^d:=Nat.two_pow_pos d
 have h1:2^64=2^d*2^(64-d):=by rw[<-Nat.pow_add,show d+(64-d)=64 by omega]
 have h2:0<2^(64-d):=Nat.two_pow_pos _
 have h3:18446744073709551615=(2^d-1)+2^d*(2^(64-d)-1):=by
  rw[Nat.mul_sub,<-h1,Nat.mul_one];have h4:2^d<=2^64:=Nat.pow_le_pow_right (by decide) hd;omega
 rw[h3,Nat.add_mul_div_left _ _ hp,Nat.div_eq_of_lt (by omega),Nat.zero_add]
theorem z4c {b:List Bool}(h:b.length=64):valB b<18446744073709551616:=by
 have:=NA b
 rw[h] at this
 exact this
theorem zbi (l:List Nat)(f:Fm)(hf:f.high=12+(Ms (P6 f.width l)).length){o n:Nat}(h:o+n<=(Ms (hiB f.width 0 0 l)).length):((Up l f).drop (f.high+o)).take n=((Ms (hiB f.width 0 0 l)).drop o).take n:=by
 unfold Up
 exact piece (by rw[List.length_append,show Ms (bitsN 32 f.n++bitsN 64 f.u)=Ms (PK f) from rfl,Rm,hf]) h
theorem RU.high {l:List Nat}{f:Fm}{z:Nat}(he:RU l f z):f.high=12+(Ms (P6 f.width l)).length:=by
 unfold Fm.high
 rw[MF,Ra,he.n]
theorem RU.bits {l:List Nat}{f:Fm}{z:Nat}(he:RU l f z):f.bits=(hiB f.width 0 0 l).length:=by
 rw[XE f.width he.nof he.last]
 rw[he.fe]
 show(z+1-1) / _+_=_
 rw[Nat.add_sub_cancel]
 rfl
theorem z2P {t:TypeId}{u:Value}{l:List Nat}{f:Fm}{z:Nat}(he:RU l f z)(R:Src t u (Up l f)){X:Nat->Prop}{w:World}(hI:R.inv X w)(hX:∀k,X k->k<w.heap.size){x b3 b8 v0:Nat}(hx:X x)(h3:X b3)(h8:X b8)(rI:b8≠x/\b8≠b3)(hB:M7 w x (elC f t u) 294)(ar:M7 w b3 [ptr x 0] 152)(cu:M7 w b8 [Mh v0] 41){a:Nat}(ha:a<f.bits):
  Mw Tryz.prog 212 [I (a:Int),ptr b3 0,ptr b8 0] w λr w'=>r=I 0/\R.inv X w'/\Kp (λk=>¬X k\/k=b8) w w'/\M7 w' b8 [Mh (valB (wdB (hiB f.width 0 0 l) a))] 41:=by
 have aA:=he.len
 obtain⟨vm,wQ⟩:=he.size_le
 have sZ:=he.small
 have oE:=Fm.Tm sZ
 have fj:=sZ.2.2
 have c6:=he.bits
 have wS:=he.high
 have eQ:(Ms (hiB f.width 0 0 l)).length=(f.bits+7) / 8:=by rw[MF,c6]
 replace hB:M7 w x [I (f.n:Int),Mh f.u,I (f.width:Int),I (f.bits:Int),.iface t u] 294:=hB
 refine It (e:=[(0,_),(1,_),(2,_)]) Tryz.func212 O Tryz.ntmps212 O O$ qN O$ Me O$ qM O$ LW O$ qV (zbu O O (by omega))$ Me O$ qM O$ qV ((by first|exact M1 UH O O hB O|exact M1 UH O O ar O)) ?_
 refine MC O$ Ma OY O$ Ma UG O$ qV ((by first|exact M1 U3 O O hB O|exact M1 U3 O O ar O)) ?_
 refine MT O O$ qV (Te O O (by omega))$ LW O$ qV (Te O O (by omega))$ Oa O O ?_
 rw[show((f.bits:Int)+7) / 8-((a / 8*8:Nat):Int) / 8=(((f.bits+7) / 8-a / 8:Nat):Int) by omega]
 refine qV (ymi O O) ?_
 rw[show min (8:Int) (((f.bits+7) / 8-a / 8:Nat):Int)=((min 8 ((f.bits+7) / 8-a / 8):Nat):Int) by omega]
 obtain⟨n,hn⟩:∃n,n=min 8 ((f.bits+7) / 8-a / 8):=⟨_,rfl⟩
 rw[<-hn]
 have hg:=Ext.Mm w
 refine M4 O$ run_seq$ NV (λw'=>Kp (λk=>¬X k) w w') O$ qT 0 O (λ_ hS=>(by first|exact M1 UH O O (hS.LY hB (λe=>e hx)) O|exact M1 UH O O (hS.LY ar (λe=>e h3)) O)) (hg.kp) ?_
 refine M3 1 O (N4 O) (hg.kp)$ M3 2 O (My z0b O) (hg.kp)$ qT 3 O (λ_ hS=>(by first|exact M1 z1z O O (hS.LY hB (λe=>e hx)) O|exact M1 z1z O O (hS.LY ar (λe=>e h3)) O)) (hg.kp) ?_
 refine qT 4 O (λ_ hS=>(by first|exact M1 UH O O (hS.LY hB (λe=>e hx)) O|exact M1 UH O O (hS.LY ar (λe=>e h3)) O)) (hg.kp) ?_
 refine M3 5 O (N4 O) (hg.kp)$ M3 6 O (My OY O) (hg.kp)$ Mj 9 O O (hg.kp)$ M3 10 O (Te O O (by omega)) (hg.kp)$ Mj 12 O O (hg.kp)$ qT 7 O (λ_ hS=>Mv (news:=fmC f) z1R O Q0 O ((hS.LY hB (λe=>e hx)).cells (n:=4) O) O) (hg.kp)$ M3 13 O (zcA O) (hg.kp)$ Mj 14 O O (hg.kp)$ Pm 8 O zaf O (z0q f sZ _) ?_
 rintro _ w1 ⟨rfl,ad⟩
 refine⟨(hg.trans ad).kp,?_⟩
 have ce:=hg.trans ad
 refine M3 11 O (R4 O O (by omega)) ((hg.trans ad).kp) ?_
 rw[show(f.high:Int)+((a / 8*8:Nat):Int) / 8=((f.high+a / 8:Nat):Int) by omega]
 have m5:=R.ext hI ce (λk hk=> .inl hk)
 have kZ:∀k,X k->k<w1.heap.size:=λk hk=>by have:=hX k hk;have:=ce.size;omega
 have sX:a / 8+n<=(Ms (hiB f.width 0 0 l)).length:=by rw[eQ];omega
 have sY:f.high+a / 8+n<=(Up l f).length:=by
  rw[aA];have e:f.size=f.Ru+4*((f.n+63) / 64):=rfl;have e2:f.Ru=f.high+(f.bits+7) / 8:=rfl;omega
 have jj:=zbi l f wS sX
 have nv:=z4U (H:=hiB f.width 0 0 l) (fq:=a / 8) (n:=n) (by omega) (by rw[<-c6];exact hn)
 refine qO 15$ SJ (i:=15) O O O (yci R.cr R.mr O O) (R.rd (f.high+a / 8) n m5 kZ sY) ?_
 rintro _ w2 ⟨rfl,cF,ao⟩
 refine⟨ce.kp.trans ao,?_⟩
 rw[jj]
 have dE:Kp (λk=>¬X k) w w2:=ce.kp.trans ao
 have am:=dE.LY hB (λe=>e hx)
 have cV:=dE.LY ar (λe=>e h3)
 have sI:=dE.LY cu (λe=>e h8)
 have Cv:(((Ms (hiB f.width 0 0 l)).drop (a / 8)).take n).length=n:=by rw[List.length_take,List.length_drop];omega
 generalize ((Ms (hiB f.width 0 0 l)).drop (a / 8)).take n=pt at nv Cv
 refine Mj 16 O O (ce.kp.trans ao)$ M3 17 O (O6 O O) (ce.kp.trans ao)$ M3 18 O (O6 O O) (ce.kp.trans ao)$ M3 19 O (NX O) (ce.kp.trans ao)$ M3 20 O (NX O) (ce.kp.trans ao)$ qE$ Mz.qb (e:=[(0,_),(1,_),(2,_),(4,_),(5,_),(6,_),(7,_),(8,_)]) ?_
 refine qN O$ LW O$ Mn z4x O (Tp pt (by omega) w2) ?_
 rintro _ w3 ⟨rfl,ai⟩
 refine LW O$ qV (SB O O (by omega))$ Oa O O ?_
 rw[show(64:Int)-8*(n:Int)=((64-8*n:Nat):Int) by omega]
 refine qV (NW (64-8*n) (2^(64-8*n)) O O (by omega) O) ?_
 have Cw:=z0y (Ml pt) (64-8*n)
 rw[nv] at Cw
 have Ir:((hiB f.width 0 0 l).drop (8*(a / 8))++List.replicate 64 false).take 64=((hiB f.width 0 0 l).drop (8*(a / 8))++List.replicate 64 false).take 64:=rfl
 obtain⟨W0,wT⟩:∃W0,W0=((hiB f.width 0 0 l).drop (8*(a / 8))++List.replicate 64 false).take 64:=⟨_,rfl⟩
 have wU:W0.length=64:=by rw[wT,List.length_take,List.length_append,List.length_replicate];omega
 have FZ:=z4I (H:=hiB f.width 0 0 l) (a:=a) (by omega)
 rw[<-wT] at Cw FZ
 have eH:=z4L wU (d:=a%8) (by omega)
 rw[FZ] at eH
 have Cy:=z4c wU
 rw[<-Cw,Nat.mod_eq_of_lt Cy]
 refine Mb O (NT Rq O O O (ai.LY sI) (by simp)) ?_
 rintro w4 ⟨eB,av⟩
 replace eB:M7 w4 b8 [Mh (valB W0)] 41:=eB
 have aH:=av.LY (ai.LY am) (λe=>rI.1 e.symm)
 have dg:=av.LY (ai.LY cV) (λe=>rI.2 e.symm)
 have kh:=R.own (R.ext cF ai (λk hk=> .inl hk)) av (λk e=>by rw[e];exact h8)
 have ag:=Ext.Mm w4
 refine LX$ run_seq$ Mo [6] (λw'=>Ext w4 w') (by kernel_rfl) O$ qL [5,6] 0 O (λ_ h=>M1 Nv O O (h.LY eB) O) ag$ qL [3,4,5,6] 1 O (λ_ h=>MH O) ag$ qL [3,4,5,6] 2 O (λ_ h=>MH O) ag$ qL [4,5,6] 3 O (λ_ h=>TO O O (by omega)) ag ?_
 rw[show(a:Int)-((a / 8*8:Nat):Int)=((a%8:Nat):Int) by omega]
 refine qL [5,6] 4 O (λ_ h=>Qy (m:=18446744073709551615) (a%8) (2^(a%8)) O O (by show a%8<=64;omega) O) ag ?_
 rw[z4Y (d:=a%8) (by omega)]
 have Is:2^(64-a%8)<=2^64:=Nat.pow_le_pow_right (by decide) (by omega)
 refine qL [6] 5 O (λ_ h=>Rk O O (by omega) (by omega)) ag ?_
 rw[Nat.and_two_pow_sub_one_eq_mod,eH]
 refine PH [6]$ qO 6$ MI (i:=6) O O (NT Rq O O O (ag.LY eB) (by simp)) ?_
 rintro w5 ⟨bI,ak⟩
 refine⟨trivial,?_⟩
 replace bI:M7 w5 b8 [Mh (valB (wdB (hiB f.width 0 0 l) a))] 41:=bI
 have aI:=ak.LY (ag.LY aH) (λe=>rI.1 e.symm)
 have cB:=ak.LY (ag.LY dg) (λe=>rI.2 e.symm)
 have lG:=R.own (R.ext kh ag (λk hk=> .inl hk)) ak (λk e=>by rw[e];exact h8)
 have bT:Kp (λk=>¬X k\/k=b8) w w5:=(((dE.Mc λk e=> .inl e).trans ai.kp).trans (av.Mc λk e=> .inr e)).trans (ag.kp.trans (ak.Mc λk e=> .inr e))
 have Cz:=z4c (z3B (hiB f.width 0 0 l) a)
 refine qE$ run_seq$ qN O$ LW O$ MT O O$ qV ((by first|exact M1 UH O O aI O|exact M1 UH O O cB O)) ?_
 refine MC O$ Ma OY O$ Ma UG O$ qV ((by first|exact M1 U3 O O aI O|exact M1 U3 O O cB O)) ?_
 refine Oa O O$ M4 O$ Mz.qb (e:=[(2,_),(4,_),(8,_),(9,_)]) ?_
 refine qN O$ LW O$ Ng O O$ LX$ M8 O (λh0=>?_)$ λh0=>?_
 ·obtain⟨r,hr⟩:∃r,a / 8*8+64=f.bits+r:=⟨a / 8*8+64-f.bits,by omega⟩;obtain⟨q,hq⟩:=z7E (H:=hiB f.width 0 0 l) (a:=a) (r:=r) (by omega) (by omega);rw[show((a / 8*8:Nat):Int)+64-(f.bits:Int)=(r:Int) by omega];have hp:=Nat.two_pow_pos r
  have wV:valB (wdB (hiB f.width 0 0 l) a) / 2^r*2^r%18446744073709551616=valB (wdB (hiB f.width 0 0 l) a):=by
   rw[Nat.mod_eq_of_lt (Nat.lt_of_le_of_lt (Nat.div_mul_le_self _ _) Cz),hq,Nat.mul_div_cancel _ hp]
  refine M0 O$ qV (M1 Nv O O bI O)$ LW O$ qV (Qy r (2^r) O O (by show r<=64;omega) O) ?_;refine LW O$ qV (NW r (2^r) O O (by omega) O) ?_;rw[wV];refine Mb O (NT Rq O O O bI (by simp)) ?_;rintro w6 ⟨ki,aR⟩;refine qM O$ LW O$ M4 O$ LZ Tryz.func212 O ?_;exact⟨_,rfl,rfl,R.own lG aR (λk e=>by rw[e];exact h8),bT.trans (aR.Mc λk e=> .inr e),ki⟩
 ·refine py$ qN O$ LW O$ M4 O$ LZ Tryz.func212 O ?_;exact⟨_,rfl,rfl,lG,bT,bI⟩
theorem z1c:∀{W:List Bool} {k p:Nat},nth1 W k=some p->∃z r,W=List.replicate z false++true::r
 |true::W,k,p,h=>⟨0,W,rfl⟩
 | false :: W, k, p, h => by
   simp only[nth1,Option.map_eq_some_iff] at h;obtain⟨q,hq,-⟩:=h;obtain⟨z,r,e⟩:=z1c hq
   exact⟨z+1,r,by rw[e,List.replicate_succ];rfl⟩
 |[],k,p,h=>by simp[nth1] at h
theorem z1W (z:Nat)(r:List Bool)(k:Nat):nth1 (List.replicate z false++true::r) (k+1)=nth1 (List.replicate (z+1) false++r) k:=by
 rw[Rf,Rf,nth1,Option.map_map]
 congr 1
 funext j;show j+1+z=j+(z+1);omega
theorem z5q (z:Nat)(r:List Bool):nth1 (List.replicate z false++true::r) 0=some z:=by
 rw[Rf,nth1];simp
theorem z3v (z:Nat)(r:List Bool):MR (valB (List.replicate z false++true::r))=r.length+1:=by
 rw[Uc]
 have:=NA r
 exact z4l (by omega) (by rw[Nat.pow_succ];omega)
theorem YS (n:Nat):(List.replicate n false).count true=0:=by
 rw[List.count_replicate];rfl
theorem YK (H:List Bool)(a:Nat):(wdB H a).count true=((H.drop a).take (64-a%8)).count true:=by
 unfold wdB
 rw[List.count_append,YS,Nat.zero_add,List.take_append,List.count_append,List.take_replicate,YS];omega
theorem z8V {W:List Bool}(h:W.length=64):(bitsN 64 (valB W)).count true=W.count true:=by
 have:=Yf W
 rw[h] at this
 rw[this]
theorem z8y {H:List Bool}{a k q:Nat}(h:nth1 (H.drop a) k=some q)(hk:k<(wdB H a).count true):nth1 (wdB H a) k=some (a%8+q):=by
 rw[YK] at hk
 have h1:=SR ((H.drop a).take (64-a%8)) ((H.drop a).drop (64-a%8)) k
 rw[List.take_append_drop,if_pos hk,h] at h1
 unfold wdB
 rw[Rf,List.take_append,SR,if_pos hk,<-h1]
 show some (q+a%8)=_
 rw[Nat.add_comm]
theorem z6h {H:List Bool}{a k q:Nat}(h:nth1 (H.drop a) k=some q)(hk:(wdB H a).count true<=k):64-a%8<=q/\nth1 (H.drop (a / 8*8+64)) (k-(wdB H a).count true)=some (q-(64-a%8)):=by
 rw[YK] at hk⊢
 have h1:=SR ((H.drop a).take (64-a%8)) ((H.drop a).drop (64-a%8)) k
 rw[List.take_append_drop,if_neg (by omega),h] at h1
 obtain⟨p,hp,Iu⟩:=Option.map_eq_some_iff.1 h1.symm
 have h2:=(WY hp).1
 rw[List.length_drop] at h2
 rw[List.length_take,Nat.min_eq_left (by omega)] at Iu
 rw[List.drop_drop,show a+(64-a%8)=a / 8*8+64 by omega] at hp
 exact⟨by omega,by rw[hp];congr 1;omega⟩
theorem z5N {t:TypeId}{u:Value}{l:List Nat}{f:Fm}{z:Nat}(he:RU l f z)(R:Src t u (Up l f)){X:Nat->Prop}{w:World}(hI:R.inv X w)(hX:∀k,X k->k<w.heap.size){x:Nat}(hx:X x)(hB:M7 w x (elC f t u) 294){p k q:Nat}(aK:k<=1000000)(hq:nth1 ((hiB f.width 0 0 l).drop p) k=some q):
  Mw Tryz.prog 181 [ptr x 0,I (p:Int),I (k:Int)] w λr w'=>r= .tuple #[I ((p+q:Nat):Int),I 0]/\R.inv X w'/\Kp (λj=>¬X j) w w':=by
 have c6:=he.bits
 have fj:=he.small.2.2
 have dz:=hX x hx
 refine It (e:=[(0,_),(1,_),(2,_)]) Tryz.func181 O Tryz.ntmps181 O O$ qN O$ M5 O O (O2 O (cs:=[ptr x 0]) O) ?_
 rintro _ w1 ⟨b3,rfl,ek,ad,ar⟩
 refine Me O$ Me O$ qM O$ M5 O O (Oo (cs:=[_]) Rq O) ?_
 rintro _ w2 ⟨b8,rfl,jk,af,cu⟩
 have z1:=ad.size
 have z2:=af.size
 have l3:=ar.lt
 have l8:=cu.lt
 have aF:=ad.trans af
 have cF:R.inv (λj=>X j\/j=b3\/j=b8) w2:=R.ext hI aF (λj hj=>by rcases hj with e|e|e;exact .inl e;exact .inr (by omega);exact .inr (by omega))
 replace cu:M7 w2 b8 [Mh 0] 41:=cu
 refine qM O$ qV (Zm (first:=[]) (caps:=[.tmp 3,.tmp 8]) O O)$ M4 O$ run_seq$ qN O$ LW O$ M4 O$ LU$ Oh (α:=Nat×Nat×Nat×Nat) ((p,k,q,0)) (λy=>[(2,I (y.2.1:Int)),(3,ptr b3 0),(8,ptr b8 0),(9,.func (.func 212) #[] #[ptr b3 0,ptr b8 0]),(10,I (y.1:Int))]) (λy w'=>R.inv (λj=>X j\/j=b3\/j=b8) w'/\Kp (λj=>¬X j) w w'/\w2.heap.size<=w'.heap.size/\M7 w' x (elC f t u) 294/\M7 w' b3 [ptr x 0] 152/\M7 w' b8 [Mh y.2.2.2] 41/\nth1 ((hiB f.width 0 0 l).drop y.1) y.2.1=some y.2.2.1/\y.1+y.2.2.1=p+q/\y.2.1<=1000000) (λy=>f.bits-y.1) ?hI ?hround
 case hI=>exact⟨cF,aF.kp,Nat.le_refl _,aF.LY hB,af.LY ar,cu,hq,rfl,aK⟩
 case hround =>
  rintro⟨a,k4,q4,v4⟩ w4 ⟨kh,av,G0,aH,dg,eB,cz,BR,wW⟩ ih;dsimp only at kh av G0 aH dg eB cz BR wW;have wX:=(WY cz).1;rw[List.length_drop] at wX;have zT:a<f.bits:=by omega
  have CA:∀j,(X j\/j=b3\/j=b8)->j<w4.heap.size:=λj hj=>by
   rcases hj with e|e| e
   ·have:=hX j e;omega
   ·omega
   ·omega
  have et:M7 w4 x [I (f.n:Int),Mh f.u,I (f.width:Int),I (f.bits:Int),.iface t u] 294:=aH
  try dsimp only
  refine run_seq$ qN O$ LW O$ qV ((by first|exact M1 UH O O dg O|exact M1 UH O O et O)) ?_;refine MC O$ Ma OY O$ Ma UG O$ qV ((by first|exact M1 U3 O O dg O|exact M1 U3 O O et O)) ?_;refine Ni O O$ LX$ M8 O (λh0=>?_)$ λh0=>?_
  ·refine py$ run_seq$ LU$ run_seq$ qN O$ Md O O$ Ny O O (OK zf5 O O) (z2P he R kh CA (.inl hx) (.inr (.inl O)) (.inr (.inr O)) ⟨by omega,by omega⟩ aH dg eB zT) ?_;rintro _ w5 ⟨rfl,lG,ak,bI⟩;have z5:=ak.size;have bT:Kp (λj=>¬X j) w w5:=av.LS ak (λj hj=>by rcases hj with e|e;exact .inr (λh=>e (.inl h));exact .inl (by omega));have aI:=ak.LY aH (λe=>by rcases e with e|e;exact e (.inl hx);omega);have cB:=ak.LY dg (λe=>by rcases e with e|e;exact e (.inr (.inl O));omega);have wY:=z3B (hiB f.width 0 0 l) a;have wZ:=z4c wY;have zU:=z8V wY;have oG:=λh=>z8y (H:=hiB f.width 0 0 l) cz h;have G4:=λh=>z6h (H:=hiB f.width 0 0 l) cz h
   generalize wdB (hiB f.width 0 0 l) a=W at wY wZ zU oG G4 bI
   have dN:W.count true<=64:=by rw[<-wY];exact List.count_le_length
   refine Me O$ qM O$ LW O$ N9 O O$ LX$ An O$ py$ run_seq$ qN O$ qV (M1 Nv O O bI O)$ Mn zem O (z78 (valB W) wZ w5) ?_;rintro _ w5 ⟨rfl,rfl⟩;rw[zU];refine Me O$ qM O$ Md O O$ zle O O$ LX$ M8 O (λh1=>?_)$ λh1=>?_
   ·obtain⟨dW,cY⟩:=G4 (by omega);refine qN O$ Md O O$ Oa O O$ M4 O$ M6 O$ M0 O$ LW O ?_;rw[show(k4:Int)-((W.count true:Nat):Int)=((k4-W.count true:Nat):Int) by omega];refine qV (zbu O O (by omega))$ MT O O$ M4 O ?_;rw[show((a / 8*8:Nat):Int)+64=((a / 8*8+64:Nat):Int) by omega];exact(ih (a / 8*8+64,k4-W.count true,q4-(64-a%8),valB W) _ ⟨lG,bT,by omega,aI,cB,bI,cY,by dsimp only;omega,by dsimp only;omega⟩ (by dsimp only;omega)).qb
   ·have zC:=oG (by omega);refine py$ run_seq$ LU$ Oh (α:=List Bool×Nat) ((W,k4)) (λy=>[(2,I (y.2:Int)),(8,ptr b8 0),(10,I (a:Int))]) (λy w'=>R.inv (λj=>X j\/j=b3\/j=b8) w'/\Kp (λj=>¬X j) w w'/\M7 w' b8 [Mh (valB y.1)] 41/\y.1.length=64/\nth1 y.1 y.2=some (a%8+q4)/\y.2<=1000000) (λy=>y.2) ?hI ?hround
    case hI=>exact⟨lG,bT,bI,wY,zC,wW⟩
    case hround=>
     rintro⟨W6,k6⟩ w6 ⟨p5,aR,ki,lw,uy,CB⟩ ih2;dsimp only at p5 aR ki lw uy CB;obtain⟨zz,r,rfl⟩:=z1c uy;have uz:=z3v zz r;have Iv:=Uc zz r;have jt:=NA r;have x7:=z4c lw;rw[List.length_append,List.length_replicate,List.length_cons] at lw
     try dsimp only
     refine run_seq$ qN O$ LW O$ Ng O O$ LX$ M8 O (λh2=>?_)$ λh2=>?_
     ·obtain⟨k7,rfl⟩:∃k7,k6=k7+1:=⟨k6-1,by omega⟩;rw[z1W] at uy;have du:=Ext.Mm w6;refine py$ run_seq$ LU$ Mo [6] (λw'=>Ext w6 w') (by kernel_rfl) O$ qL [5,6] 0 O (λ_ h=>M1 Nv O O (h.LY ki) O) du$ qL [2,3,4,5,6] 1 O (λ_ h=>M1 Nv O O (h.LY ki) O) du$ NL (i:=2) (by kernel_rfl)$ Og (i:=2) O O O (yc zam O) (z6v _ x7 _) ?_;rintro _ w7 ⟨rfl,rfl⟩;refine⟨du,?_⟩;rw[uz];refine qL [4,5,6] 3 O (λ_ h=>TO O O (by omega)) du ?_;rw[show(63:Int)-((64-(r.length+1):Nat):Int)=(r.length:Int) by omega];refine qL [5,6] 4 O (λ_ h=>NW r.length (2^r.length) O O (by omega) O) du ?_;have eQ:2^r.length<=2^63:=Nat.pow_le_pow_right (by decide) (by omega);rw[show 1*2^r.length%18446744073709551616=2^r.length by rw[Nat.one_mul];exact Nat.mod_eq_of_lt (by omega)];rw[Iv];refine qL [6] 5 O (λ_ h=>zfI (by omega) jt O O O) du$ PH [6]$ qO 6$ MI (i:=6) O O (NT Rq O O O (du.LY ki) (by simp)) ?_;rintro w8 ⟨t8,bz⟩;refine⟨trivial,?_⟩;replace t8:M7 w8 b8 [Mh (valB r)] 41:=t8;refine qE$ LV$ M0 O$ LW O$ Oa O O$ M4 O ?_;rw[show((k7+1:Nat):Int)-1=(k7:Int) by omega];refine(ih2 (List.replicate (zz+1) false++r,k7) _ ⟨R.own (R.ext p5 du (λj hj=> .inl hj)) bz (λj e=> .inr (.inr e)),(aR.trans du.kp).LS bz (λj e=> .inl (by omega)),?_,?_,uy,by dsimp only;omega⟩ (by dsimp only;omega)).qb
      ·dsimp only;rw[YY];exact t8
      ·dsimp only;rw[List.length_append,List.length_replicate];omega
     ·have CC:k6=0:=by omega
      subst CC;rw[z5q] at uy;have Ll:zz=a%8+q4:=NF uy;refine M6 O$ qN O$ LW O$ qV (zbu O O (by omega))$ qV (M1 Nv O O ki O)$ Mn zam O (z6v _ x7 _) ?_;rintro _ w7 ⟨rfl,rfl⟩;rw[uz];refine MT O O ?_;rw[show((a / 8*8:Nat):Int)+((64-(r.length+1):Nat):Int)=((p+q:Nat):Int) by omega];refine Me O$ M4 O$ LZ Tryz.func181 O ?_;exact⟨_,rfl,rfl,R.ext p5 (Ext.refl _) (λj hj=> .inl (.inl hj)),aR⟩
  ·omega
theorem z8b (l:List Nat)(f:Fm)(hf:f.Ru=12+(Ms (P6 f.width l)).length+(Ms (hiB f.width 0 0 l)).length)(h4:(Ms (restB f.width l)).length=4):((Up l f).drop f.Ru).take 4=Ms (restB f.width l):=by
 have h:=piece (A:=Ms (bitsN 32 f.n++bitsN 64 f.u)++Ms (P6 f.width l)++Ms (hiB f.width 0 0 l)) (B:=Ms (restB f.width l)) (C:=[]) (off:=f.Ru) (n:=4) (o:=0) (by rw[List.length_append,List.length_append,show Ms (bitsN 32 f.n++bitsN 64 f.u)=Ms (PK f) from rfl,Rm,hf];omega) (by omega)
 have h2:((Ms (restB f.width l)).drop 0).take 4=Ms (restB f.width l):=by rw[List.drop_zero];exact List.take_of_length_le (by omega)
 rw[List.append_nil] at h
 exact h.trans h2
theorem z7V {k:Nat}{l:List Nat}{y:Nat}(h:l[0]? =some y)(hy:y<4294967296):valB (Ml (Ms (restB k l)))=y / 2^k/\(Ms (restB k l)).length=4:=by
 obtain⟨r,rfl⟩:∃r,l=y::r:=by
  cases l with
  |nil=>simp at h
  |cons a r=>simp at h;subst h;exact⟨r,rfl⟩
 have hr:restB k (y::r)=bitsN 32 (y / 2^k):=rfl
 obtain⟨z,h1,h2,h3⟩:=OQ (bitsN 32 (y / 2^k))
 rw[bitsN_length] at h2
 have hz:z=0:=by omega
 rw[hr,h1,hz,List.replicate_zero,List.append_nil,MW,MF,bitsN_length]
 have:=Nat.div_le_self y (2^k)
 exact⟨Nat.mod_eq_of_lt (by omega),rfl⟩
theorem YV {t:TypeId}{u:Value}{l:List Nat}{f:Fm}{z:Nat}(he:RU l f z)(R:Src t u (Up l f)){X:Nat->Prop}{w:World}(hI:R.inv X w)(hX:∀k,X k->k<w.heap.size){x:Nat}(hx:X x)(hB:M7 w x (elC f t u) 294){i v:Nat}(hv:l[i]? =some v):
  Mw Tryz.prog 143 [ptr x 0,I (i:Int)] w λr w'=>r= .tuple #[Mh v,I 0]/\R.inv X w'/\Kp (λj=>¬X j) w w':=by
 have cy:=(List.getElem?_eq_some_iff.1 hv).1
 have aA:=he.len
 have ia:=he.n2
 have ph:=he.n
 have uL:=he.zb
 have uw:f.width<=30:=by rw[he.fe];exact VE (by omega)
 have sZ:=he.small
 have rg:∀j y k y2,l[j]? =some y->l[k]? =some y2->j<=k->y<=y2:=λj y k y2 hj hk CD=>by
  obtain⟨a1,a2⟩:=List.getElem?_eq_some_iff.1 hj;obtain⟨b1,b2⟩:=List.getElem?_eq_some_iff.1 hk;rcases Nat.lt_or_ge j k with h| h
  ·have:=List.pairwise_iff_getElem.1 he.nof j k a1 b1 h
   rwa [a2,b2] at this
  ·have e:j=k:=Nat.le_antisymm CD h;subst e;rw[hj] at hk;cases hk;exact Nat.le_refl _
 have FM:v<=z:=rg i v _ z hv he.last (by omega)
 obtain⟨y0,CE⟩:∃y,l[0]? =some y:=⟨_,List.getElem?_eq_getElem (by omega)⟩
 have CG:y0<=v:=rg 0 y0 i v CE hv (Nat.zero_le _)
 obtain⟨Iw,gW⟩:=z7V (k:=f.width) CE (by omega)
 have Ix:=z8b l f (by
  have e:f.Ru=f.high+(f.bits+7) / 8:=rfl
  rw[e,he.high,MF (hiB f.width 0 0 l),he.bits]) gW
 have cU:=XM f.width l 0 0 0 y0 he.nof CE (λy _=>Nat.zero_le _)
 have uA:=XM f.width l 0 0 i v he.nof hv (λy _=>Nat.zero_le _)
 simp only[Nat.add_zero,Nat.sub_zero] at cU uA
 have fw:=VS (hiB f.width 0 0 l) 0 (y0 / 2^f.width) i cU
 rw[Nat.zero_add,uA] at fw
 have G5:y0 / 2^f.width<=v / 2^f.width:=Nat.div_le_div_right CG
 have rh:f.Ru+4<=(Up l f).length:=by
  rw[aA];have e:f.size=f.Ru+4*((f.n+63) / 64):=rfl;rw[e,ph];omega
 have fT:f.Ru<=40000000:=by have:=he.size_le.1;rw[aA] at rh;omega
 replace hB:M7 w x [I (f.n:Int),Mh f.u,I (f.width:Int),I (f.bits:Int),.iface t u] 294:=hB
 refine It (e:=[(0,_),(1,_)]) Tryz.func143 O Tryz.ntmps143 O O$ qN O$ Me O$ M4 O$ run_seq$ LU$ qN O$ LW O$ qV (N7 UH O O)$ M4 O$ An O$ qN O$ LW O$ Ni O O ?_
 refine ML$ Md O O$ LW O$ MC O$ Ma OY O$ Ma UC O$ qV (M1 U3 O O hB O)$ PD O O$ ML$ MN O O$ M4 O$ An O$ py$ LV ?_
 refine run_seq ?_
 have hg:=Ext.Mm w
 refine NV (λw'=>Kp (λk=>¬X k) w w') O$ Mj 0 O O (hg.kp)$ M3 1 O (N4 O) (hg.kp)$ M3 2 O (My z0b O) (hg.kp)$ qT 3 O (λ_ h=>M1 z1z O O (h.LY hB (λe=>e hx)) O) (hg.kp)$ Mj 4 O O (hg.kp)$ M3 5 O (N4 O) (hg.kp)$ M3 6 O (My OY O) (hg.kp)$ Mj 9 O O (hg.kp)$ M3 10 O (Te O O (by omega)) (hg.kp)$ M3 11 O (SB O O (by omega)) (hg.kp)$ qT 7 O (λ_ hS=>Mv (news:=fmC f) z1R O Q0 O ((hS.LY hB (λe=>e hx)).cells (n:=4) O) O) (hg.kp)$ M3 13 O (zcA O) (hg.kp)$ Mj 14 O O (hg.kp) ?_
 refine Pm 8 O za1 O (z1x f sZ _) ?_
 rintro _ w1 ⟨rfl,ad⟩
 refine⟨(hg.trans ad).kp,?_⟩
 have ce:=hg.trans ad
 have m5:=R.ext hI ce (λk hk=> .inl hk)
 have kZ:∀k,X k->k<w1.heap.size:=λk hk=>by have:=hX k hk;have:=ce.size;omega
 refine M3 12 O (R4 O O (by omega)) ((hg.trans ad).kp) ?_
 rw[show(f.Ru:Int)+4*((i:Int) / 64)=((f.Ru:Nat):Int) by omega]
 refine qO 15$ SJ (i:=15) O O O (yci R.cr R.mr O O) (R.rd f.Ru 4 m5 kZ rh) ?_
 rintro _ w2 ⟨rfl,cF,ao⟩
 refine⟨ce.kp.trans ao,?_⟩
 rw[Ix]
 have dE:Kp (λk=>¬X k) w w2:=ce.kp.trans ao
 refine Mj 16 O O (ce.kp.trans ao)$ M3 17 O (O6 O O) (ce.kp.trans ao)$ M3 18 O (O6 O O) (ce.kp.trans ao)$ M3 19 O (NX O) (ce.kp.trans ao)$ M3 20 O (NX O) (ce.kp.trans ao)$ qE$ Mz.qb (e:=[(0,_),(1,_),(4,_),(5,_),(6,_),(7,_)]) ?_
 refine run_seq$ qN O$ LW O$ N9 O O$ LX$ An O$ py$ qN O$ Md O O$ Mn z4x O (Tp (Ms (restB f.width l)) (by omega) w2) ?_
 rintro _ w3 ⟨rfl,ai⟩
 rw[Iw]
 have cC:Kp (λk=>¬X k) w w3:=dE.trans ai.kp
 have CH:=R.ext cF ai (λk hk=> .inl hk)
 have eX:∀k,X k->k<w3.heap.size:=λk hk=>by have:=hX k hk;have:=cC.size;omega
 have ar:=cC.LY hB (λe=>e hx)
 have Iy:y0 / 2^f.width<=y0:=Nat.div_le_self _ _
 have Iz:v / 2^f.width<=v:=Nat.div_le_self _ _
 have mm:v / 2^f.width*2^f.width%18446744073709551616 |||v%2^f.width=v:=by
  have h1:=Nat.div_mul_le_self v (2^f.width);rw[Nat.mod_eq_of_lt (by omega),Nat.mul_comm,<-Nat.two_pow_add_eq_or_of_lt (Nat.mod_lt _ (Nat.two_pow_pos _))];exact Nat.div_add_mod v (2^f.width)
 have gH:v%2^f.width<=v:=Nat.mod_le _ _
 generalize IA:v / 2^f.width=vq at fw G5 Iz mm
 generalize y0 / 2^f.width=yq at fw G5 Iy
 refine qV (MK O Nv U3 (by omega))$ LW O$ qV (yre O O (by omega)) ?_
 rw[show(i:Int)%64=(i:Int) by omega]
 refine Mn zf4 O (z5N he R CH eX hx ar (k:=i) (by omega) fw) ?_
 rintro _ w4 ⟨rfl,kh,av⟩
 rw[show yq+(vq+i-yq)=vq+i by omega]
 have kj:=cC.trans av
 have CA:∀k,X k->k<w4.heap.size:=λk hk=>by have:=hX k hk;have:=kj.size;omega
 have aH:=kj.LY hB (λe=>e hx)
 refine LW O$ N5 O O$ N5 O O$ Me O$ M4 O$ run_seq$ qN O$ LW O$ N9 O O$ LX$ An O$ py$ qN O$ Md O O ?_
 refine Mn zcN O (z5l he R kh CA hx aH hv) ?_
 rintro _ w5 ⟨rfl,lG,ak⟩
 have bT:=kj.trans ak
 have aI:=bT.LY hB (λe=>e hx)
 have zP:=he.u
 refine LW O$ N5 O O$ N5 O O$ Me O$ M4 O$ Mz.qb (e:=[(0,_),(1,_),(4,_),(5,_),(7,_),(8,_),(9,_)]) ?_
 refine run_seq$ qN O$ LW O$ N9 O O$ LX$ An O$ py$ qN O$ Md O O$ Oa O O ?_
 rw[show((vq+i:Nat):Int)-(i:Int)=(vq:Int) by omega]
 refine qV ((by first|exact MQ O U3 Nv (by omega)|exact Ob O U3 Nv)) ?_
 refine LW O$ MC O$ Ma OY O$ Ma PV O$ qV (M1 U3 O O aI O)$ qV (NW f.width (2^f.width) O O (by omega) O)$ LW O ?_
 have zV:=Nat.mod_lt (vq*2^f.width) (show 0<18446744073709551616 by decide)
 refine qV (W3 O O (by omega) (by omega)) ?_
 rw[mm]
 refine M4 O$ run_seq$ qN O$ Md O O$ Ni O O$ ML$ Md O O$ LW O$ MC O$ Ma OY O$ Ma z9v O$ qV (M1 Nv O O aI O)$ PD O O$ ML ?_
 refine MN O O$ LX$ Mz.qb (e:=[(4,_),(5,_),(10,_),(93,_)]) ?_
 refine An O$ py$ qN O$ LW O$ Me O$ M4 O$ LZ Tryz.func143 O ?_
 exact⟨_,rfl,rfl,lG,bT⟩
theorem z6A (a b:Bytes)(w:World)(hl:(a++b).length<=100000000000):Mw Tryz.prog 173 [S (a++b),S a] w λu w'=>u= .bool true/\w'=w:=by
 rw[List.length_append] at hl
 have ji:(a++b).length=a.length+b.length:=List.length_append
 have ht:(a++b).take a.length=a:=List.take_left
 refine It (e:=[(0,_),(1,_)]) Tryz.func173 O Tryz.ntmps173 O O$ qN O$ Me O$ qM O$ LW O$ qV (Rr U9 O)$ LW O$ qV (Rr U9 O)$ PD O O$ O4$ Md O O$ LW O$ qV (Rr U9 O)$ qV (XN U9 O O (by omega)) ?_
 refine LW O ?_
 rw[ht]
 refine qV (zfN O O)$ O4$ NC O O$ M4 O$ LZ Tryz.func173 O ?_
 exact⟨_,rfl,rfl,rfl⟩
theorem z7h (a b:Bytes)(w:World)(hl:(a++b).length<=100000000000):Mw Tryz.prog 204 [S (a++b),S a] w λu w'=>u= .tuple #[S b,.bool true]/\w'=w:=by
 have ji:(a++b).length=a.length+b.length:=List.length_append
 have hd:(a++b).drop a.length=b:=List.drop_left
 refine It (e:=[(0,_),(1,_)]) Tryz.func204 O Tryz.ntmps204 O O$ qN O$ Me O$ M4 O$ run_seq$ qN O$ Md O O$ Mn zch O (z6A a b w hl) ?_
 rintro _ w ⟨rfl,rfl⟩
 refine qV ((by first|exact MX O|exact Oy O)) ?_
 refine LX$ An O$ py$ qN O$ Md O O$ qV (Rr U9 O)$ qV (Ww U9 O O (by omega)) ?_
 rw[hd]
 refine Me O$ M4 O$ LZ Tryz.func204 O ?_
 exact⟨_,rfl,rfl,rfl⟩
theorem z3d (a b:Bytes)(w:World)(hl:(a++b).length<=100000000000):Mw Tryz.prog 165 [S (a++b),S a] w λu w'=>u= .tuple #[S b,.bool true]/\w'=w:=by
 refine It (e:=[(0,_),(1,_)]) Tryz.func165 O Tryz.ntmps165 O O$ qN O$ Me O$ Me O$ qM O$ Md O O$ Mn zdt O (z7h a b w hl) ?_
 rintro _ w ⟨rfl,rfl⟩
 refine N5 O O$ N5 O O$ Me O$ M4 O$ LZ Tryz.func165 O ?_
 exact⟨_,rfl,rfl,rfl⟩
theorem PG {w:World}{r a b6 b7:Nat}{s:Bytes}(h:Ql w r s a)(aS:M7 w b6 [ptr r 0] 158)(bK:M7 w b7 [.bool false] 4)(h6:b6≠r/\b7≠r/\b6≠b7)(n v:Nat)(hn:n<=64)(hv:v<2^n)(jo:v<=134217728)(rest:List Bool)(hb:(Ml s).drop a=bitsN n v++rest):
  Mw Tryz.prog 166 [I (n:Int),ptr b6 0,ptr b7 0] w λu w'=>u=I (v:Int)/\Ql w' r s (a+n)/\M7 w' b6 [ptr r 0] 158/\M7 w' b7 [.bool false] 4/\Kp (λk=>k=r\/k=b7) w w':=by
 have aA:a+n<=8*s.length:=by
  have e:=congrArg List.length hb;rw[List.length_drop,bitsT_length,List.length_append,bitsN_length] at e;have:=h.2.1;omega
 have CI:valB (((Ml s).drop a).take n)=v:=by
  rw[hb,List.take_left' (by simp),MW];exact Nat.mod_eq_of_lt hv
 refine It (e:=[(0,_),(1,_),(2,_)]) Tryz.func166 O Tryz.ntmps166 O O$ qN O$ Me O$ qM O$ qV (M1 Qe O O aS O)$ LW O$ Mn z1e O (RW h n hn) ?_
 rintro v1 w1 eT
 have fH:v1= .tuple #[Mh v,I 0]/\Ql w1 r s (a+n)/\Kp (λk=>k=r) w w1:=by
  rcases eT with⟨-,e,h1,hk⟩|⟨e,-,-⟩
  ·rw[CI] at e;exact⟨e,h1,hk⟩
  ·omega
 obtain⟨rfl,h1,aK⟩:=fH
 have x8:=aK.LY bK h6.2.1
 have CJ:=aK.LY aS h6.1
 refine LW O$ N5 O O$ N5 O O$ Me O$ Me O$ qM O$ qV (M1 U4 O O x8 O)$ Md O O$ N9 O O$ MN O O$ Md O O$ Ng O O$ ML$ MN O O ?_
 refine Mb O (NT Sx O O O x8 (by simp)) ?_
 rintro w2 ⟨ep,ao⟩
 refine qM O$ LW O$ qV (Rk O O (by omega) (by omega)) ?_
 rw[show v&&&268435455=v from(Nat.and_two_pow_sub_one_eq_mod v 28).trans (Nat.mod_eq_of_lt (by omega))]
 refine qV (MK O Nv U3 (by omega))$ M4 O$ LZ Tryz.func166 O ?_
 exact⟨_,rfl,rfl,⟨ao.LY h1.1 (λe=>h6.2.1 e.symm),h1.2⟩,ao.LY CJ h6.2.2,ep,(aK.Mc λk e=> .inl e).trans (ao.Mc λk e=> .inr e)⟩
theorem PI {s:List Bool}{n v a:Nat}{rest:List Bool}(h:s.drop a=bitsN n v++rest):s.drop (a+n)=rest:=by
 rw[<-List.drop_drop,h,List.drop_left' (by simp)]
theorem z98 (h:PHd):Ml (Ms (O7 (Vo h)))=bitsN 32 h.n++(bitsN 32 h.m++(bitsN 8 h.p.Mq++(bitsN 8 h.p.chain++(bitsN 8 h.p.interval++(bitsN 8 h.p.zeta++(bitsN 32 h.p.most++(bitsN 64 h.bits++[]))))))):=by
 obtain⟨z,h1,h2,h3⟩:=OQ (O7 (Vo h))
 have hl:=Rl h
 have hz:z=0:=by omega
 rw[h1,hz,List.replicate_zero,List.append_nil]
 rfl
theorem z5Z (h:PHd)(hh:h.Nj)(w:World):Mw Tryz.prog 132 [S (hdT h)] w λu w'=>u= .tuple #[hdV h,I 0]/\Ext w w':=by
 obtain⟨g1,g2,g3,g4,g5⟩:=id hh
 obtain⟨q1,q2,q3⟩:=id g5
 obtain⟨r1,r2,r3,r4⟩:=id q1
 have r1':h.p.Mq<=16:=r1
 have r2':h.p.interval<=64:=by
  have:h.p.interval=0\/2<=h.p.interval/\h.p.interval<=64:=r2;omega
 have r4':h.p.zeta<=16:=r4
 have IB:=TC h
 have oH:=z98 h
 rw[show Ml (Ms (O7 (Vo h)))=(Ml (Ms (O7 (Vo h)))).drop 0 from List.drop_zero.symm] at oH
 have eQ:(Ms (O7 (Vo h))).length=24:=by rw[MF,Rl]
 refine It (e:=[(0,_)]) Tryz.func132 O Tryz.ntmps132 O O$ qN O$ M5 O O (Oo (cs:=[_,_,_,_,_,_,_,_]) Qv O) ?_
 rintro _ w1 ⟨b2,rfl,bY,ad,am⟩
 refine Me O$ qM O$ LW O$ Ny O O (yc (args:=[.tmp 11,.const (Value.string (⟨#[119,116,108,49]⟩))]) zdk O) (z3d z4f (Ms (O7 (Vo h))) _ (by rw[show z4f++Ms (O7 (Vo h))=hdT h from rfl];omega)) ?_
 rintro _ w1 ⟨rfl,rfl⟩
 refine LW O$ N5 O O$ N5 O O$ Me O$ M4 O$ run_seq$ qN O$ LW O$ qV ((by first|exact MX O|exact Oy O)) ?_
 refine Md O O$ qV (Rr U9 O)$ Ni O O$ ML$ MN O O$ LX$ An O$ py$ qN O$ LW O ?_
 generalize Ms (O7 (Vo h))=pt at oH eQ
 refine Mn z4k O (Tu pt (by omega) w1) ?_
 rintro _ w2 ⟨r,rfl,cI,af,dB⟩
 refine M5 O O (Oo (cs:=[_]) YI O) ?_
 rintro _ w3 ⟨b6,rfl,mn,ai,aS⟩
 refine Mb O (NT YI O O O aS (by simp)) ?_
 rintro w4 ⟨pO,av⟩
 replace pO:M7 w4 b6 [ptr r 0] 158:=pO
 refine qM O$ M5 O O (Oo (cs:=[_]) Sx O) ?_
 rintro _ w5 ⟨b7,rfl,kF,aW,bK⟩
 refine Mb O (NT Sx O O O bK (by simp)) ?_
 rintro w6 ⟨pP,aR⟩
 replace pP:M7 w6 b7 [.bool false] 4:=pP
 have z1:=ad.size
 have z2:=af.size
 have z3:=ai.size
 have z4:=av.size
 have z5:=aW.size
 have lr:=cI.1.lt
 have l6:=pO.lt
 have l2:=am.lt
 have ta:=aR.LY (aW.LY pO) (by omega)
 have kU:Ql w6 r pt 0:=⟨aR.LY (aW.LY (av.LY (ai.LY cI.1) (by omega))) (by omega),cI.2⟩
 have aZ:Ext w1 w6:=(((af.trans ai).LS av (λi e=>by omega)).trans aW).LS aR (λi e=>by omega)
 refine qM O$ qV (Zm (first:=[]) (caps:=[.tmp 6,.tmp 7]) O O)$ Me O$ qM O$ LW O$ Ny O O (OK W7 O O) (PG kU ta pP ⟨by omega,by omega,by omega⟩ 32 h.n (by decide) (by omega) (by omega) _ oH) ?_
 rintro _ v0 ⟨rfl,CK,x9,xa,xc⟩
 have xd:=PI oH
 refine LW O$ Ny O O (OK W7 O O) (PG CK x9 xa ⟨by omega,by omega,by omega⟩ 32 h.m (by decide) (by omega) (by omega) _ xd) ?_
 rintro _ v1 ⟨rfl,xe,xh,xi,xj⟩
 have xl:=PI xd
 refine qV (OO (cs:=[_,_,_,_,_,_,_,_]) Qv O zaL O O)$ M5 O O (Oo (cs:=[_,_,_,_,_,_,_,_]) Qv O) ?_
 rintro _ w7 ⟨b9,rfl,mJ,ck,cJ⟩
 have zv1:=xc.size
 have zv2:=xj.size
 have z7:=ck.size
 have z6:=aR.size
 have l9:=cJ.lt
 refine Mb O (MO (news:=[I (h.n:Int),I (h.m:Int),I 0,I 0,I 0,I 0,I 0,I 0]) Qv O O O O cJ (by simp)) ?_
 rintro w8 ⟨tc,bz⟩
 replace tc:M7 w8 b9 [I (h.n:Int),I (h.m:Int),I 0,I 0,I 0,I 0,I 0,I 0] 149:=tc
 have l7:=pP.lt
 have dw:Ext v1 w8:=ck.LS bz (λi e=>by omega)
 have uf:Ql w8 r pt (0+32+32):=⟨dw.LY xe.1,xe.2⟩
 have iy:=dw.LY xh
 have CL:=dw.LY xi
 have ou:Kp (λk=>k=r\/k=b7) w6 w8:=(xc.trans xj).trans dw.kp
 refine LX$ Mz.qb (e:=[(2,_),(3,_),(7,_),(8,_),(9,_)]) ?_
 refine qN O$ LW O$ Ny O O (OK W7 O O) (PG uf iy CL ⟨by omega,by omega,by omega⟩ 8 h.p.Mq (by decide) (by omega) (by omega) _ xl) ?_
 rintro _ v2 ⟨rfl,CM,xm,xn,CN⟩
 have xo:=PI xl
 refine LW O$ Ny O O (OK W7 O O) (PG CM xm xn ⟨by omega,by omega,by omega⟩ 8 h.p.chain (by decide) (by omega) (by omega) _ xo) ?_
 rintro _ v3 ⟨rfl,CO,xq,xt,CP⟩
 have xu:=PI xo
 refine LW O$ Ny O O (OK W7 O O) (PG CO xq xt ⟨by omega,by omega,by omega⟩ 8 h.p.interval (by decide) (by omega) (by omega) _ xu) ?_
 rintro _ v4 ⟨rfl,CQ,xv,xw,CR⟩
 have xy:=PI xu
 refine LW O$ Ny O O (OK W7 O O) (PG CQ xv xw ⟨by omega,by omega,by omega⟩ 8 h.p.zeta (by decide) (by omega) (by omega) _ xy) ?_
 rintro _ v5 ⟨rfl,CS,xz,xA,CT⟩
 have xB:=PI xy
 refine LW O$ Ny O O (OK W7 O O) (PG CS xz xA ⟨by omega,by omega,by omega⟩ 32 h.p.most (by decide) (by omega) (by omega) _ xB) ?_
 rintro _ v6 ⟨rfl,xC,xD,xE,CU⟩
 have xF:=PI xB
 have iV:Kp (λk=>k=r\/k=b7) w8 v6:=(((CN.trans CP).trans CR).trans CT).trans CU
 have CV:=iV.LY tc (by omega)
 refine qV (OO (cs:=[_,_,_,_,_]) Oi O z8B O O)$ Ma Vh O$ Mb O (MO (news:=RR h.p) Oi O O O O CV (by simp)) ?_
 rintro w9 ⟨te,aO⟩
 replace te:M7 w9 b9 [I (h.n:Int),I (h.m:Int),I (h.p.Mq:Int),I (h.p.chain:Int),I (h.p.interval:Int),I (h.p.zeta:Int),I (h.p.most:Int),I 0] 149:=te
 have uj:Ql w9 r pt (0+32+32+8+8+8+8+32):=⟨aO.LY xC.1 (by omega),xC.2⟩
 have iz:=aO.LY xD (by omega)
 have CW:=aO.LY xE (by omega)
 refine qM O$ LW O$ Ny O O (OK W7 O O) (PG uj iz CW ⟨by omega,by omega,by omega⟩ 64 h.bits (by decide) (by omega) (by omega) _ xF) ?_
 rintro _ v7 ⟨rfl,IC,G6,xG,xH⟩
 have ID:=PI xF
 have CX:=xH.LY te (by omega)
 refine Ma RA O$ Mb O (NT MV O O O CX (by simp)) ?_
 rintro w10 ⟨lh,aq⟩
 replace lh:M7 w10 b9 (hdC h) 149:=lh
 have xI:=aq.LY xG (by omega)
 have xJ:Kp (λk=>k=r\/k=b7\/k=b9) w6 w10:=((((ou.trans iV).Mc λk e=>by omega).trans (aO.Mc λk e=>by omega)).trans (xH.Mc λk e=>by omega)).trans (aq.Mc λk e=>by omega)
 have eC:Ext w1 w10:=aZ.LS xJ (λk e=>by omega)
 refine LX$ run_seq$ qN O$ qV (M1 U4 O O xI O)$ LW O$ qV (Mv (news:=hdC h) z2R O Qv O (lh.cells (n:=8) O) O)$ Mn z74 O (Ud h hh _) ?_
 rintro _ w11 ⟨rfl,aQ⟩
 refine N9 O O$ MN O O$ LX$ Mz.qb (e:=[(2,_),(3,_),(9,_),(51,_)]) ?_
 refine An O$ py$ qN O$ qV (Mv (news:=hdC h) z2R O Qv O ((aQ.LY lh).cells (n:=8) O) O) ?_
 have xK:=(eC.trans aQ).LY am
 refine Mb O (MO (news:=hdC h) Qv O O O O xK (by simp)) ?_
 rintro w12 ⟨j8,aY⟩
 replace j8:M7 w12 b2 (hdC h) 149:=j8
 replace j8:M7 w12 b2 [I (h.n:Int),I (h.m:Int),I (h.p.Mq:Int),I (h.p.chain:Int),I (h.p.interval:Int),I (h.p.zeta:Int),I (h.p.most:Int),I (h.bits:Int)] 149:=j8
 refine M4 O$ Mt Tryz.func132 (.cell z2R O Qv O (M7.cells (n:=8) j8 (news:=[_,_,_,_,_,_,_,_]) O) O (.tmp O .nil)) ?_
 exact⟨_,rfl,rfl,((ad.trans eC).trans aQ).LS aY (λk e=>by omega)⟩
theorem z5p (h:PHd)(hh:h.Nj)(bY:h.n<=500)(w:World):Mw Tryz.prog 133 [hdV h] w λu w'=>u= .tuple #[I ((28+(h.bits+7) / 8+(Qq (h.n+1) (h.bits+1)).size:Nat):Int),I 0]/\Ext w w':=by
 obtain⟨g1,g2,g3,g4,g5⟩:=id hh
 have hs:=Zk (n:=h.n+1) (u:=h.bits+1) (by omega) (by omega) (by omega) (by omega)
 have cG:(Qq (h.n+1) (h.bits+1)).size<=40000000:=by
  have h2:=Fm.Tm hs;obtain⟨h3,h4,h5⟩:=hs;unfold Fm.size Fm.Ru;omega
 refine It (e:=[(0,_)]) Tryz.func133 O Tryz.ntmps133 O O$ qN O$ M5 O O (O2 O (cs:=hdC h) O) ?_
 rintro _ w1 ⟨b1,rfl,bR,ad,aj⟩
 replace aj:M7 w1 b1 [I (h.n:Int),I (h.m:Int),I (h.p.Mq:Int),I (h.p.chain:Int),I (h.p.interval:Int),I (h.p.zeta:Int),I (h.p.most:Int),I (h.bits:Int)] 149:=aj
 refine Me O$ M4 O$ run_seq$ qN O$ qV (Mv (news:=hdC h) z2R O Qv O (aj.cells (n:=8) O) O)$ Mn z74 O (Ud h hh _) ?_
 rintro _ w2 ⟨rfl,af⟩
 have bB:=af.LY aj
 refine Me O$ qM O$ LW O$ N9 O O$ LX$ An O$ py$ qN O$ Ma QJ O$ qV (M1 U3 O O bB O)$ MT O O$ Ma RA O$ qV (M1 U3 O O bB O)$ qV ((by first|exact MQ O U3 Nv (by omega)|exact Ob O U3 Nv)) ?_
 rw[show(h.n:Int)+1=((h.n+1:Nat):Int) by omega]
 refine Mn zcQ O (z2g (h.n+1) h.bits (by omega) (by omega) (by omega) _) ?_
 rintro _ w3 ⟨rfl,ai⟩
 have eD:=ai.LY bB
 refine LW O$ qV (O6 (v:=I ((Qq (h.n+1) (h.bits+1)).size:Int)) O O)$ qV (O6 (v:=I 0) O O) ?_
 generalize (Qq (h.n+1) (h.bits+1)).size=q at cG
 refine Me O$ Me O$ qM O$ Ma RA O$ qV (M1 U3 O O eD O)$ MT O O$ qV (Te O O (by omega))$ MT O O$ LW O$ MT O O$ LW O$ Me O$ M4 O$ Mz.qb (e:=[(2,_),(3,_)]) ?_
 refine LZ Tryz.func133 O (⟨_,rfl,?_,(ad.trans af).trans ai⟩)
 show Value.tuple #[I (28+((h.bits:Int)+7) / 8+(q:Int)),I 0]= .tuple #[I ((28+(h.bits+7) / 8+q:Nat):Int),I 0]
 rw[show(28:Int)+((h.bits:Int)+7) / 8+(q:Int)=((28+(h.bits+7) / 8+q:Nat):Int) by omega]
section
variable {P:Program}{e:Env}{d:Option Nat}{ty t t':TypeId}{pos:String}{aft:Array Edge}{g:Option (Nat×Bool)}{x y:Operand}{w:World}
theorem z2J {f:FuncId}{name:String}{u:Value}(h:methT P t name=some f):(nilAhead (P.types.size+Made.depth) t u name).run P w= .ok (some false) w:=by
 rw[show P.types.size+Made.depth=P.types.size+(Made.depth-1)+1 from rfl]
 unfold methT at h
 split at h<;>try cases h
 rename_i i hi
 split at h<;>try cases h
 rename_i m hm
 split at h<;>try cases h
 rename_i f' pr j6 j7
 have ni:i.methods.find? (·.name==name)=some m:=by rw[<-hm,Array.find?_toList]
 unfold nilAhead
 split at h<;>try cases h
 ·rename_i el hu
  cases pr<;>simp at h;subst h;simp[Qo hi,ni,j6,followBlind,j7]
 ·rename_i td FW hu
  cases pr<;>simp at h;subst h;simp only[Sem.run_bind,Qo hi,Result.andThen_ok,ni,j6,followBlind,Sem.run_pure,j7,run_underlying hu];cases td<;>first|exact absurd rfl (FW _)|rfl
theorem zfh {td:TypeDesc}{v:Value}(ht:P.underlying t=some td)(hn:∀ms,td≠ .interface ms)(hx:look e x=some v):Y P e ⟨d,.makeInterface t x,ty,pos,aft,g⟩ (.iface t v) w w:=fun ρ hρ=>by
 simp only[execOp,hρ _ _ hx,Instr.makeInterface,Sem.run_bind,run_underlying ht,Result.andThen_ok]
 cases td<;>first|rfl|exact(hn _ rfl).elim
theorem ymm {nm:String}{v:Value}(hx:look e x=some v):Y P e ⟨d,.makeFunc (.method nm) #[x] #[],ty,pos,aft,g⟩ (.func (.method nm) #[v] #[]) w w:=fun ρ hρ=>by
 simp[execOp,hρ _ _ hx,Instr.makeFunc]
theorem zfB {f:FuncId}{nm:String}{tx:TypeId}{v:Value}(hm:methT P tx nm=some f)(hx:look e x=some (.func (.method nm) #[.iface tx v] #[])):Y P e ⟨d,.nilCheck x,ty,pos,aft,g⟩ (.func (.method nm) #[.iface tx v] #[]) w w:=fun ρ hρ=>by
 have hn:=z2J (w:=w) (u:=v) hm
 have sn:(program).run P w= .ok P w:=rfl
 simp[execOp,hρ _ _ hx,sn,hn]
end
def Wx (t:TypeId)(u:Value)(a n:Nat):Value:= .agg #[.iface t u,I (a:Int),I (n:Int)]
theorem z0R (t:TypeId)(u:Value)(a n:Nat)(w:World):Mw Tryz.prog 281 [Wx t u a n] w λv w'=>v=I (n:Int)/\Ext w w':=by
 unfold Wx
 refine It (e:=[(0,_)]) Tryz.func281 O Tryz.ntmps281 O O$ qN O$ M5 O O (O2 O (cs:=[.iface t u,I (a:Int),I (n:Int)]) O) ?_
 rintro _ w1 ⟨b1,rfl,bR,ad,aj⟩
 refine Me O$ qM O$ Ma Zq O$ qV (M1 U3 O O aj O)$ M4 O$ LZ Tryz.func281 O ?_
 exact⟨_,rfl,rfl,ad⟩
theorem z2Y {t:TypeId}{u:Value}{T:Bytes}(R:Src t u T){X:Nat->Prop}{w:World}(a n:Nat)(oI:a+n<=T.length)(hT:T.length<=100000000000)(off m:Nat)(hI:R.inv X w)(hX:∀k,X k->k<w.heap.size)(h:off+m<=n):
  Mw Tryz.prog 282 [Wx t u a n,I (off:Int),I (m:Int)] w λv w'=>v= .tuple #[S ((((T.drop a).take n).drop off).take m),I 0]/\R.inv X w'/\Kp (λk=>¬X k) w w':=by
 have e:(((T.drop a).take n).drop off).take m=(T.drop (a+off)).take m:=by
  rw[List.drop_take,List.take_take,List.drop_drop,show min m (n-off)=m by omega]
 rw[e]
 unfold Wx
 refine It (e:=[(0,_),(1,_),(2,_)]) Tryz.func282 O Tryz.ntmps282 O O$ qN O$ M5 O O (O2 O (cs:=[.iface t u,I (a:Int),I (n:Int)]) O) ?_
 rintro _ w1 ⟨b1,rfl,bR,ad,aj⟩
 refine Me O$ M4 O$ run_seq$ qN O$ LW O$ Ni O O$ Md O O$ Ni O O$ ML$ MN O O$ Md O O$ Ma Zq O$ qV (M1 U3 O O aj O)$ Ng O O ?_
 refine ML$ MN O O$ Md O O$ Ma Zq O$ qV (M1 U3 O O aj O)$ LW O$ Oa O O$ Ng O O$ ML$ MN O O$ LX$ Mz.qb (e:=[(1,_),(2,_),(3,_),(6,_),(7,_),(27,_)]) ?_
 refine An O$ py$ qN O$ Ma z95 O$ qV (M1 z1z O O aj O)$ Ma z9A O$ qV (M1 U3 O O aj O)$ LW O$ MT O O$ LW O ?_
 rw[show(a:Int)+(off:Int)=((a+off:Nat):Int) by omega]
 refine Ny O O (yci R.cr R.mr O O) (R.rd (a+off) m (R.ext hI ad (λk hk=> .inl hk)) (λk hk=>by have:=hX k hk;have:=ad.size;omega) (by omega)) ?_
 rintro _ w2 ⟨rfl,cF,ao⟩
 refine N5 O O$ N5 O O$ Me O$ M4 O$ LZ Tryz.func282 O ?_
 exact⟨_,rfl,rfl,cF,ad.kp.trans ao⟩
def za3 {t:TypeId}{u:Value}{T:Bytes}(R:Src t u T)(a n:Nat)(B:Bytes)(oI:a+n<=T.length)(hT:T.length<=100000000000)(hB:(T.drop a).take n=B):Src 251 (Wx t u a n) B where
 inv:=R.inv
 fl:=281
 fr:=282
 cl:=zdE
 cr:=zdl
 ml:=by kernel_rfl
 mr:=by kernel_rfl
 ext:=R.ext
 step:=R.step
 len:=fun {X w} h=>by
  have e:B.length=n:=by rw[<-hB,List.length_take,List.length_drop];omega
  rw[e];exact z0R t u a n w
 rd:=fun {X w} off m h hX ho=>by
  have e:B.length=n:=by rw[<-hB,List.length_take,List.length_drop];omega
  rw[<-hB];exact z2Y R a n oI hT off m h hX (by omega)
def Sr (p:Nb)(g:List (List Nat))(E:List (Nat×Nat)):PHd:=⟨g.length,Nh g,p,(Nn p g E g.length).length⟩
def Yk (p:Nb)(g:List (List Nat))(E:List (Nat×Nat)):Fm:=Qq (g.length+1) ((Nn p g E g.length).length+1)
structure Py (p:Nb)(g:List (List Nat))(E:List (Nat×Nat)):Prop where
 Nj:p.Nj
 gr:P9 g
 n1:1<=g.length
 pk:z7r p g E
section
variable {p:Nb}{g:List (List Nat)}{E:List (Nat×Nat)}
theorem Py.head (h:Py p g E):(Sr p g E).Nj:=by
 have hn:=h.gr.n
 have hb:=h.pk.bits
 have sV:=Qx h.gr g.length
 rw[List.take_length] at sV
 exact⟨h.n1,(by show g.length<=_;omega),(by show Nh g<=_;omega),(by show(Nn p g E g.length).length<=_;omega),h.Nj⟩
theorem Py.ef (h:Py p g E):RU (SH p g E g.length) (Yk p g E) (Nn p g E g.length).length:=by
 have hn:=h.gr.n
 have hb:=h.pk.bits
 have aA:=z0a p g E g.length
 refine⟨by omega,by omega,z3X p g E g.length,?_,by omega,?_⟩
 ·rw[aA,Nat.add_sub_cancel];exact WS p g E (Nat.le_refl g.length)
 ·rw[aA];rfl
def SD (p:Nb)(g:List (List Nat))(E:List (Nat×Nat)):Nat:=28+((Nn p g E g.length).length+7) / 8
theorem Py.len (h:Py p g E):(Ug p g E).length=SD p g E+(Yk p g E).size:=by
 unfold Ug SD
 rw[List.length_append,List.length_append,TC,MF]
 have:=h.ef.len
 show _+(Up (SH p g E g.length) (Yk p g E)).length=_
 rw[this]
theorem Py.small (h:Py p g E):(Ug p g E).length<=50000000/\40<=(Ug p g E).length:=by
 have h1:=h.ef.size_le
 have h2:=h.len
 have h3:=h.pk.bits
 unfold SD at h2
 omega
theorem z8J:((Ug p g E).drop 0).take 28=hdT (Sr p g E):=by
 unfold Ug
 rw[List.drop_zero,List.append_assoc,<-TC (Sr p g E)]
 exact List.take_left
theorem Py.index (h:Py p g E):((Ug p g E).drop (SD p g E)).take (Yk p g E).size=Up (SH p g E g.length) (Yk p g E):=by
 have h1:(hdT (Sr p g E)++Ms (Nn p g E g.length)).length=SD p g E:=by
  rw[List.length_append,TC,MF];rfl
 have h2:=h.ef.len
 unfold Ug
 show((hdT (Sr p g E)++Ms (Nn p g E g.length)++Up (SH p g E g.length) (Yk p g E)).drop _).take _=_
 rw[<-h1,List.drop_left,<-h2,List.take_length]
theorem z9k (h:Py p g E)(a n:Nat)(hn:8*(a+n)<=(Nn p g E g.length).length+7):((Ug p g E).drop (28+a)).take n=((Ms (Nn p g E g.length)).drop a).take n:=by
 unfold Ug
 exact piece (by rw[TC]) (by rw[MF];omega)
end
def gwC (h:PHd)(t:TypeId)(u:Value)(x:Nat):List Value:=[I (h.n:Int),I (h.m:Int),I (h.p.Mq:Int),I (h.p.chain:Int),I (h.p.interval:Int),I (h.p.zeta:Int),I (h.p.most:Int),I (h.bits:Int),.iface t u,ptr x 0]
theorem z3b {t:TypeId}{u:Value}{p:Nb}{g:List (List Nat)}{E:List (Nat×Nat)}(hp:Py p g E)(R:Src t u (Ug p g E)){X:Nat->Prop}{w:World}(hI:R.inv X w)(hX:∀k,X k->k<w.heap.size):
  Mw Tryz.prog 100 [.iface t u] w λv w'=>∃k x,v= .tuple #[ptr k 0,I 0]/\M7 w' k (gwC (Sr p g E) t u x) 154/\M7 w' x (elC (Yk p g E) 251 (Wx t u (SD p g E) (Yk p g E).size)) 294/\w.heap.size<=x/\w.heap.size<=k/\x≠k/\R.inv (λj=>X j\/j=x\/j=k) w'/\Kp (λj=>¬X j) w w':=by
 have aA:=hp.len
 obtain⟨dW,cY⟩:=hp.small
 have hn:=hp.gr.n
 have cU:=hp.n1
 have qB:=hp.pk.bits
 have hg:=Ext.Mm w
 have ri:=hp.head
 have xL:(Sr p g E).bits=(Nn p g E g.length).length:=rfl
 have Lm:SD p g E=28+((Sr p g E).bits+7) / 8:=rfl
 have Ln:(Sr p g E).n=g.length:=rfl
 refine It (e:=[(0,_)]) Tryz.func100 O Tryz.ntmps100 O O$ qN O$ Me O$ M4 O$ run_seq$ qN O$ LW O$ qV (zaa z1z O O)$ LX$ An O$ py$ run_seq$ NV (λw'=>R.inv X w'/\Kp (λk=>¬X k) w w') O$ Mj 0 O O (⟨R.ext hI hg (λk hk=> .inl hk),hg.kp⟩) ?_
 refine Mj 1 O O (⟨R.ext hI hg (λk hk=> .inl hk),hg.kp⟩)$ M3 4 O (ymm O) (⟨R.ext hI hg (λk hk=> .inl hk),hg.kp⟩)$ M3 5 O (zfB R.mr O) (⟨R.ext hI hg (λk hk=> .inl hk),hg.kp⟩)$ Mj 6 O O (⟨R.ext hI hg (λk hk=> .inl hk),hg.kp⟩)$ qO 2$ SJ (i:=2) O O O (yci R.cl R.ml O O) (R.len (R.ext hI hg (λk hk=> .inl hk))) ?_
 rintro _ w1 ⟨rfl,ad⟩
 refine⟨⟨R.ext hI (hg.trans ad) (λk hk=> .inl hk),(hg.trans ad).kp⟩,?_⟩
 have ce:=hg.trans ad
 rw[aA]
 refine M3 3 O (ymi O O) (⟨R.ext hI (hg.trans ad) (λk hk=> .inl hk),(hg.trans ad).kp⟩) ?_
 rw[show min (28:Int) ((SD p g E+(Yk p g E).size:Nat):Int)=((28:Nat):Int) by omega]
 have m5:=R.ext hI ce (λk hk=> .inl hk)
 have kZ:∀k,X k->k<w1.heap.size:=λk hk=>by have:=hX k hk;have:=ce.size;omega
 refine qO 7$ SJ (i:=7) O O O (yci R.cr R.mr O O) (R.rd 0 28 m5 kZ (by omega)) ?_
 rintro _ w2 ⟨rfl,cF,ao⟩
 refine⟨⟨cF,ce.kp.trans ao⟩,?_⟩
 rw[z8J]
 have dE:Kp (λk=>¬X k) w w2:=ce.kp.trans ao
 have gB:∀k,X k->k<w2.heap.size:=λk hk=>by have:=kZ k hk;have:=ao.size;omega
 refine Mj 8 O O (⟨cF,ce.kp.trans ao⟩)$ M3 9 O (O6 O O) (⟨cF,ce.kp.trans ao⟩)$ M3 10 O (O6 O O) (⟨cF,ce.kp.trans ao⟩)$ M3 11 O (NX O) (⟨cF,ce.kp.trans ao⟩)$ M3 12 O (NX O) (⟨cF,ce.kp.trans ao⟩)$ qE$ run_seq$ qN O$ LW O$ N9 O O$ LX$ An O$ py$ qN O ?_
 refine LW O$ Mn zdW O (z5Z (Sr p g E) ri w2) ?_
 rintro _ w3 ⟨rfl,ai⟩
 refine LW O$ qV (O6 (v:=hdV (Sr p g E)) O O)$ qV (O6 (v:=I 0) O O)$ M5 O O (Oo (cs:=[_,_,_,_,_,_,_,_]) Qv O) ?_
 rintro _ w4 ⟨b6,rfl,mn,ay,aS⟩
 refine Mb O (MO (news:=hdC (Sr p g E)) Qv O O O O aS (by simp)) ?_
 rintro w5 ⟨er,ak⟩
 replace er:M7 w5 b6 (hdC (Sr p g E)) 149:=er
 have co:Ext w3 w5:=ay.LS ak (λi e=>by omega)
 have im:=ai.trans co
 refine M4 O$ Mz.qb (e:=[(0,_),(2,_),(3,_),(5,_),(6,_)]) ?_
 refine run_seq$ qN O$ LW O$ N9 O O$ LX$ An O$ py$ run_seq$ qN O$ qV (Mv (news:=hdC (Sr p g E)) z2R O Qv O (er.cells (n:=8) O) O)$ Mn zdb O (z5p (Sr p g E) ri (by show g.length<=_;omega) _) ?_
 rintro _ w6 ⟨rfl,aJ⟩
 have io:=im.trans aJ
 have p5:=R.ext cF io (λk hk=> .inl hk)
 have ta:=aJ.LY er
 refine LW O$ qV (O6 (v:=I ((SD p g E+(Yk p g E).size:Nat):Int)) O O)$ qV (O6 (v:=I 0) O O)$ Me O$ Me O$ qM O$ LW O$ N9 O O$ ML$ Md O O$ LW O$ Ny O O (yci R.cl R.ml O O) (R.len p5) ?_
 rintro _ w7 ⟨rfl,ck⟩
 rw[aA]
 have CY:=io.trans ck
 have pQ:=ck.LY ta
 refine N9 O O$ ML$ MN O O ?_
 replace pQ:M7 w7 b6 [I ((Sr p g E).n:Int),I ((Sr p g E).m:Int),I ((Sr p g E).p.Mq:Int),I ((Sr p g E).p.chain:Int),I ((Sr p g E).p.interval:Int),I ((Sr p g E).p.zeta:Int),I ((Sr p g E).p.most:Int),I ((Sr p g E).bits:Int)] 149:=pQ
 refine LX$ An O$ py$ qN O$ Ma RA O$ qV (M1 U3 O O pQ O)$ MT O O$ qV (Te O O (by omega))$ MT O O ?_
 rw[show 28+((((Sr p g E).bits:Nat):Int)+7) / 8=(SD p g E:Int) by omega]
 refine M4 O$ Mz.qb (e:=[(0,_),(2,_),(3,_),(5,_),(6,_),(9,_)]) ?_
 refine qN O$ Md O O$ LW O ?_
 have jq:=R.ext p5 ck (λk hk=> .inl hk)
 refine Ny O O (yci R.cl R.ml O O) (R.len jq) ?_
 rintro _ w8 ⟨rfl,dw⟩
 rw[aA]
 have j5:=CY.trans dw
 have Cs:=R.ext jq dw (λk hk=> .inl hk)
 have iy:=dw.LY pQ
 have z28:=j5.size
 refine LW O$ Oa O O ?_
 rw[show((SD p g E+(Yk p g E).size:Nat):Int)-(SD p g E:Int)=((Yk p g E).size:Int) by omega]
 refine qV (OO (cs:=[_,_,_]) zcH O zeD O O)$ qV (zfh zfU (λ_ h=>by cases h) rfl) ?_
 have lb6:=iy.lt
 have IE:=R.ext (Y:=λk=>X k\/k=b6) cF j5 (λk hk=>hk.imp id λe=>by have:=ai.size;omega)
 have m6:∀k,(X k\/k=b6)->k<w8.heap.size:=λk hk=>by
  rcases hk with hk| e
  ·have:=gB k hk;have:=j5.size;omega
  ·omega
 refine Mn zcD O (z3c hp.ef (za3 R (SD p g E) (Yk p g E).size (Up (SH p g E g.length) (Yk p g E)) (by omega) (by omega) hp.index) (X:=λk=>X k\/k=b6) IE m6) ?_
 rintro _ w9 ⟨x,rfl,gC,hx,jr,aO⟩
 have iz:=aO.LY iy (λhh=>hh (.inr O))
 have CZ:Kp (λk=>¬X k) w2 w9:=j5.kp.trans (aO.Mc λk hk e=>hk (.inl e))
 have z9:=aO.size
 refine LW O$ qV (O6 (v:=ptr x 0) O O)$ qV (O6 (v:=I 0) O O)$ Me O$ M4 O$ run_seq$ LU$ qN O$ LW O$ N9 O O$ M4 O$ An O$ run_seq ?_
 have iA:=Ext.Mm w9
 refine NV (λw'=>Ext w9 w') O$ Mj 0 O O (iA)$ M3 2 O (My QJ O) iA$ qT 3 O (λ_ h=>M1 U3 O O (h.LY iz) O) iA$ M3 4 O (R4 O O (by omega)) iA$ Pm 1 O zeG O (z6i (iA.LY gC)) ?_
 rintro _ w10 ⟨rfl,rfl⟩
 refine⟨iA,?_⟩
 rw[show(Yk p g E).n=(Sr p g E).n+1 from rfl]
 refine M3 5 O (yne O O) iA$ M3 6 O (NX O) iA$ qE$ Mz.qb (e:=[(0,_),(2,_),(3,_),(6,_),(10,_),(69,_)]) ?_
 have gZ:=iA.LY iz
 have xM:=iA.LY gC
 refine M8 O (λh9=>?_)$ λh9=>?_
 ·exact absurd (by omega) h9
 ·refine py$ LV$ qN O$ qV (Mv (news:=hdC (Sr p g E)) z2R O Qv O (M7.cells (n:=8) gZ O) O)$ Md O O$ qV (OO (cs:=[_,_,_,_,_,_,_,_,_,_]) zc3 O zc9 O O)$ M5 O O (O2 O (cs:=gwC (Sr p g E) t u x) O) ?_;rintro _ w11 ⟨k,rfl,hk,aQ,aL⟩;refine Me O$ M4 O$ LZ Tryz.func100 O ?_;have D2:=iA.trans aQ;have z02:=dE.size;have z28:=j5.size;have zdd:=iA.size;have lbx:=xM.lt;refine⟨_,rfl,k,x,rfl,aL,D2.LY gC,by omega,by omega,by omega,R.ext jr D2 (λj hj=>?_),(dE.trans CZ).trans D2.kp⟩;rcases hj with hj|hj|hj
  ·exact .inl (.inl (.inl hj))
  ·exact .inl (.inr hj)
  ·exact .inr (by omega)
structure Rn {t:TypeId}{u:Value}{p:Nb}{g:List (List Nat)}{E:List (Nat×Nat)}(R:Src t u (Ug p g E))(k x:Nat)(X:Nat->Prop)(w:World):Prop where
 ok:Py p g E
 LY:M7 w k (gwC (Sr p g E) t u x) 154
 ix:M7 w x (elC (Yk p g E) 251 (Wx t u (SD p g E) (Yk p g E).size)) 294
 xk:X k
 xx:X x
 inv:R.inv X w
 lt:∀j,X j->j<w.heap.size
 x1:X 0
 x2:X 1
 gam:M7 w 0 (OZ .gamma) 260
 una:M7 w 1 (OZ .unary) 260
section
variable {t:TypeId}{u:Value}{p:Nb}{g:List (List Nat)}{E:List (Nat×Nat)}{R:Src t u (Ug p g E)}{k x:Nat}{X Y S:Nat->Prop}{w w':World}
theorem Rn.grow (h:Rn R k x X w)(hx:Ext w w')(hY:∀j,Y j->X j\/(w.heap.size<=j/\j<w'.heap.size))(bM:∀j,X j->Y j):Rn R k x Y w':=
 ⟨h.ok,hx.LY h.LY,hx.LY h.ix,bM _ h.xk,bM _ h.xx,R.ext h.inv hx (λj hj=>(hY j hj).imp id And.left),λj hj=>by
  rcases hY j hj with e| e
  ·have:=h.lt j e;have:=hx.size;omega
  ·exact e.2,bM _ h.x1,bM _ h.x2,hx.LY h.gam,hx.LY h.una⟩
theorem Rn.ext (h:Rn R k x X w)(hx:Ext w w'):Rn R k x X w':=h.grow hx (λj hj=> .inl hj) λj hj=>hj
theorem Rn.less (h:Rn R k x Y w)(bM:∀j,X j->Y j)(hk:X k)(hx:X x)(h1:X 0)(h2:X 1):Rn R k x X w:=
 ⟨h.ok,h.LY,h.ix,hk,hx,R.ext h.inv (Ext.refl w) (λj hj=> .inl (bM j hj)),λj hj=>h.lt j (bM j hj),h1,h2,h.gam,h.una⟩
theorem Rn.step (h:Rn R k x X w)(hk:Kp S w w')(hS:∀j,S j->X j/\j≠k/\j≠x/\j≠0/\j≠1)(hY:∀j,Y j->X j\/(w.heap.size<=j/\j<w'.heap.size))(bM:∀j,X j->Y j):Rn R k x Y w':=
 ⟨h.ok,hk.LY h.LY (λe=>(hS _ e).2.1 O),hk.LY h.ix (λe=>(hS _ e).2.2.1 O),bM _ h.xk,bM _ h.xx,R.step h.inv hk (λj hj=>(hS j hj).1) (λj hj=>(hY j hj).imp id And.left),λj hj=>by
  rcases hY j hj with e| e
  ·have:=h.lt j e;have:=hk.size;omega
  ·exact e.2,bM _ h.x1,bM _ h.x2,hk.LY h.gam (λe=>(hS _ e).2.2.2.1 O),hk.LY h.una (λe=>(hS _ e).2.2.2.2 O)⟩
theorem Rn.own (h:Rn R k x X w)(hk:Kp S w w')(hS:∀j,S j->X j/\j≠k/\j≠x/\j≠0/\j≠1):Rn R k x X w':=
 ⟨h.ok,hk.LY h.LY (λe=>(hS _ e).2.1 O),hk.LY h.ix (λe=>(hS _ e).2.2.1 O),h.xk,h.xx,R.own h.inv hk (λj hj=>(hS j hj).1),λj hj=>by have:=h.lt j hj;have:=hk.size;omega,h.x1,h.x2,hk.LY h.gam (λe=>(hS _ e).2.2.2.1 O),hk.LY h.una (λe=>(hS _ e).2.2.2.2 O)⟩
theorem Rn.src (h:Rn R k x X w)(hk:Kp (λj=>¬X j) w w')(hI:R.inv X w'):Rn R k x X w':=
 ⟨h.ok,hk.LY h.LY (λe=>e h.xk),hk.LY h.ix (λe=>e h.xx),h.xk,h.xx,hI,λj hj=>by have:=h.lt j hj;have:=hk.size;omega,h.x1,h.x2,hk.LY h.gam (λe=>e h.x1),hk.LY h.una (λe=>e h.x2)⟩
def Rn.R2 (R:Src t u (Ug p g E))(h:Py p g E):Src 251 (Wx t u (SD p g E) (Yk p g E).size) (Up (SH p g E g.length) (Yk p g E)):=
 za3 R (SD p g E) (Yk p g E).size _ (by have:=h.len;omega) (by have:=h.small;omega) h.index
theorem Rn.cells (h:Rn R k x X w):M7 w k [I ((Sr p g E).n:Int),I ((Sr p g E).m:Int),I ((Sr p g E).p.Mq:Int),I ((Sr p g E).p.chain:Int),I ((Sr p g E).p.interval:Int),I ((Sr p g E).p.zeta:Int),I ((Sr p g E).p.most:Int),I ((Sr p g E).bits:Int),.iface t u,ptr x 0] 154:=h.LY
theorem z9p (h:Rn R k x X w):Mw Tryz.prog 34 [ptr k 0] w λv w'=>v=I (g.length:Int)/\w'=w:=by
 have hB:=h.cells
 refine It (e:=[(0,_)]) Tryz.func34 O Tryz.ntmps34 O O$ qN O$ M4 O$ run_seq$ qN O$ LW O$ qV (N7 Ze O O)$ LX$ An O$ py$ qN O$ LW O$ MC O$ Ma Tg O ?_
 refine Ma QJ O$ qV (M1 U3 O O hB O)$ M4 O$ LZ Tryz.func34 O ?_
 exact⟨_,rfl,rfl,rfl⟩
theorem Xl (h:Rn R k x X w){b v c:Nat}(hv:v<g.length)(hr:Rd w (.slice (some ⟨b,0,none⟩) 1 c) 1 1 [I (v:Int)]):Mw Tryz.prog 66 [ptr k 0,.slice (some ⟨b,0,none⟩) 1 c] w λv w'=>v=I 0/\w'=w:=by
 have hB:=h.cells
 have hn:(Sr p g E).n=g.length:=rfl
 refine It (e:=[(0,_),(1,_)]) Tryz.func66 O Tryz.ntmps66 O O$ qN O$ M4 O$ run_seq$ qN O$ LW O$ qV (N7 Ze O O)$ LX$ An O$ py$ run_seq$ qN O$ LW O$ O9 O8 O ?_
 refine LW O$ LX$ LU$ Oh (α:=Nat) (0) (λi=>[(0,ptr k 0),(9,.slice (some ⟨b,0,none⟩) 1 c),(10,I 1),(11,I (i:Int))]) (λi w'=>w'=w/\i<=1) (λi=>1-i) ?hI ?hround
 case hI=>exact⟨rfl,Nat.zero_le _⟩
 case hround=>
  rintro i w2 ⟨rfl,hi⟩ ih
  try dsimp only
  refine qN O$ Ni O O$ LX$ run_seq$ M8 O (λh0=>?_)$ λh0=>?_
  ·have jS:i=0:=by omega
   subst jS;refine py$ run_seq$ LU$ qN O$ qV (MS O8 MV O O (by omega))$ qV (MA U3 O O (Na hr O))$ Me O$ qM O$ LW O$ Ni O O$ ML$ Md O O$ LW O$ MC O ?_;refine Ma Tg O$ Ma QJ O$ qV (M1 U3 O O hB O)$ PD O O$ ML$ MN O O$ LX$ An O$ py$ LV$ M0 O$ MT O O$ LW O$ LX ?_;exact(ih 1 _ ⟨rfl,by omega⟩ (by omega)).qb
  ·refine M6 O$ qN O$ M4 O$ LZ Tryz.func66 O ?_;exact⟨_,rfl,rfl,rfl⟩
theorem z5I {p:Nb}{g:List (List Nat)}{E:List (Nat×Nat)}{v a n:Nat}{s:Bytes}(hs:((Ms (Nn p g E g.length)).drop (a / 8)).take n=s)(ha:(Nn p g E v).length=a)(hv:v<g.length)(hn:a+(U0 p g E v).length<=8*(a / 8+n)):∃rest,(Ml s).drop (a%8)=U0 p g E v++rest:=by
 have gO:∃r,Nn p g E g.length=Nn p g E (v+1)++r:=by
  have key:∀d i,∃r,Nn p g E (i+d)=Nn p g E i++r:=λd i=>by
   induction d with
   |zero=>exact⟨[],by simp⟩
   | succ d ih =>
     obtain⟨r,hr⟩:=ih;exact⟨r++U0 p g E (i+d),by rw[<-Nat.add_assoc,PJ,hr,List.append_assoc]⟩
  obtain⟨r,hr⟩:=key (g.length-(v+1)) (v+1);rw[show v+1+(g.length-(v+1))=g.length by omega] at hr;exact⟨r,hr⟩
 obtain⟨r,hr⟩:=gO
 obtain⟨z,hz,-,-⟩:=OQ (Nn p g E g.length)
 rw[<-hs,QZ,Qj,hz,hr,PJ,List.drop_take,List.drop_drop,show 8*(a / 8)+a%8=a by omega,List.append_assoc,List.append_assoc,List.drop_left' ha,List.take_append,List.take_of_length_le (by omega)]
 exact⟨_,rfl⟩
theorem z1Y (h:Rn R k x X w){v:Nat}(hv:v<g.length):Mw Tryz.prog 105 [ptr k 0,I (v:Int)] w λr w'=>∃(b a e:Nat) (s:Bytes) (rest:List Bool),r= .tuple #[ptr b 0,I (e:Int),I 0]/\Ql w' b s a/\(Ml s).drop a=U0 p g E v++rest/\a+(U0 p g E v).length=e/\w.heap.size<=b/\Rn R k x (λj=>X j\/j=b) w'/\Kp (λj=>¬X j) w w':=by
 have hn:=h.ok.gr.n
 have qB:=h.ok.pk.bits
 have hB:=h.cells
 have D3:=WS p g E (n:=g.length) (i:=v) (by omega)
 have xN:=WS p g E (n:=g.length) (i:=v+1) (by omega)
 have oF:=T8 p g E (g.length-(v+1)) (v+1)
 rw[show v+1+(g.length-(v+1))=g.length by omega] at oF
 have dD:=PJ p g E v
 have kX:=congrArg List.length dD
 rw[List.length_append] at kX
 refine It (e:=[(0,_),(1,_)]) Tryz.func105 O Tryz.ntmps105 O O$ qN O$ Me O$ Me O$ Me O$ qM O$ LW O$ MC O$ Ma z44 O$ qV (M1 UH O O hB O)$ LW O$ Mn z9P O (YV h.ok.ef (Rn.R2 R h.ok) h.inv h.lt h.xx h.ix D3) ?_
 rintro _ w1 ⟨rfl,m5,aK⟩
 have h1:=h.src aK m5
 have aj:=h1.cells
 refine LW O$ N5 O O$ N5 O O$ Me O$ M4 O$ run_seq$ qN O$ LW O$ N9 O O$ LX$ An O$ py$ qN O$ LW O ?_
 refine MC O$ Ma z44 O$ qV (M1 UH O O aj O)$ LW O$ MT O O ?_
 rw[show(v:Int)+1=((v+1:Nat):Int) by omega]
 refine Mn z9P O (YV h1.ok.ef (Rn.R2 R h1.ok) h1.inv h1.lt h1.xx h1.ix xN) ?_
 rintro _ w2 ⟨rfl,cF,ao⟩
 have h2:=h1.src ao cF
 have am:=h2.cells
 have dE:=aK.trans ao
 obtain⟨al,zT⟩:∃n,(Nn p g E v).length=n:=⟨_,rfl⟩
 obtain⟨bl,fj⟩:∃n,(Nn p g E (v+1)).length=n:=⟨_,rfl⟩
 rw[zT,fj]
 have xL:(Sr p g E).bits=(Nn p g E g.length).length:=rfl
 refine LW O$ N5 O O$ N5 O O$ Me O$ M4 O$ Mz.qb (e:=[(0,_),(4,_),(5,_),(6,_),(7,_),(8,_),(9,_)]) ?_
 refine run_seq$ LU$ qN O$ LW O$ N9 O O$ M4 O$ An O$ qN O$ Md O O$ Ng O O$ ML$ Md O O$ LW O$ MC O ?_
 refine Ma Tg O$ Ma RA O$ qV (M1 U3 O O am O)$ qV ((by first|exact MQ O U3 Nv (by omega)|exact Ob O U3 Nv)) ?_
 refine Ng O O$ ML$ MN O O$ M4 O$ An O$ py$ LV$ qN O$ LW O$ qV (zey O O O (by simp only[IntKind.bits];omega) (by omega)) ?_
 refine qV (MK O Nv U3 (by omega))$ M4 O$ Mz.qb (e:=[(0,_),(4,_),(5,_),(6,_),(7,_),(8,_),(9,_),(10,_)]) ?_
 refine qN O$ LW O$ MC O$ Ma z8t O$ qV (M1 z1z O O am O)$ LW O$ MT O O$ LW O$ qV (RD O O)$ qV (MK O Nv U3 (by omega))$ qV (Te O O (by omega))$ LW O$ Oa O O ?_
 have ux:28+al / 8+((bl+7) / 8-al / 8)<=(Ug p g E).length:=by have:=h.ok.len;unfold SD at this;omega
 rw[show 28+((al / 8:Nat):Int)=((28+al / 8:Nat):Int) by omega]
 rw[show((((bl+7)%18446744073709551616:Nat):Int)) / 8-((al / 8:Nat):Int)=(((bl+7) / 8-al / 8:Nat):Int) by omega]
 refine Ny O O (yci R.cr R.mr O O) (R.rd (28+al / 8) ((bl+7) / 8-al / 8) h2.inv h2.lt ux) ?_
 rintro _ w3 ⟨rfl,CH,au⟩
 have h3:=h2.src au CH
 rw[z9k h.ok (al / 8) ((bl+7) / 8-al / 8) (by omega)]
 obtain⟨s,hs⟩:∃s,((Ms (Nn p g E g.length)).drop (al / 8)).take ((bl+7) / 8-al / 8)=s:=⟨_,rfl⟩
 rw[hs]
 refine LW O$ N5 O O$ N5 O O$ Me O$ M4 O$ Mz.qb (e:=[(4,_),(5,_),(6,_),(7,_),(8,_),(9,_),(10,_),(11,_)]) ?_
 refine run_seq$ qN O$ LW O$ N9 O O ?_
 have fT:s.length=(bl+7) / 8-al / 8:=by
  rw[<-hs,List.length_take,List.length_drop,MF];omega
 obtain⟨rest,nx⟩:∃rest,(Ml s).drop (al%8)=U0 p g E v++rest:=z5I hs zT hv (by omega)
 refine LX$ An O$ py$ qN O$ LW O$ Mn z4k O (Tu s (by omega) w3) ?_
 rintro _ w4 ⟨b,rfl,fD,ay,hb⟩
 have lb:=fD.1.lt
 have h4:Rn R k x (λj=>X j\/j=b) w4:=h3.grow ay (λj hj=>hj.imp id λe=>by omega) (λj hj=> .inl hj)
 have eZ:¬X b:=λe=>by have:=h3.lt b e;omega
 refine Me O$ qM O$ Md O O$ qV (MK O Nv U3 (by omega))$ LW O$ qV (SB O O (by omega))$ Oa O O ?_
 rw[show(al:Int)-8*((al / 8:Nat):Int)=((al%8:Nat):Int) by omega]
 refine Mn z7F O (VN fD (al%8) (by omega)) ?_
 rintro _ w5 ⟨rfl,rL,ak⟩
 have h5:=h4.own ak (λj e=>by
  subst e
  exact⟨.inr O,λe=>eZ (e▸h.xk),λe=>eZ (e▸h.xx),λe=>eZ (e▸h.x1),λe=>eZ (e▸h.x2)⟩)
 refine qM O$ Md O O$ qV (MK O Nv U3 (by omega))$ LW O$ qV (SB O O (by omega))$ Oa O O ?_
 rw[show(bl:Int)-8*((al / 8:Nat):Int)=((bl-8*(al / 8):Nat):Int) by omega]
 refine Me O$ Me O$ M4 O$ Mz.qb (e:=[(4,_),(5,_),(6,_)]) ?_
 refine LZ Tryz.func105 O ?_
 have z03:=(dE.trans au).size
 exact⟨_,rfl,b,al%8,bl-8*(al / 8),s,rest,rfl,rL,nx,by omega,by omega,h5,((dE.trans au).trans ay.kp).LS ak (λj e=> .inl (by omega))⟩
end
def Mg (g:List (List Nat))(v:Nat):List Nat:=(g[v]?).getD []
def MB (g:List (List Nat))(E:List (Nat×Nat))(v:Nat):Nat:=if Mg g v=[] then 0 else((E[v]?).getD (0,0)).1
def PM (p:Nb)(g:List (List Nat))(E:List (Nat×Nat))(v:Nat):List (Cd×Nat):=if Mg g v=[] then [] else R6 p.list v (Mg g v) (Nt g v (MB g E v)) (MB g E v)
theorem z5f (p:Nb)(g:List (List Nat))(E:List (Nat×Nat))(v:Nat):U0 p g E v=Mp (Nl p.list (Mg g v).length (MB g E v))++Mp (PM p g E v):=by
 unfold U0 PM MB
 rw[<-OU]
 by_cases h:Mg g v=[]
 ·have h':(g[v]?).getD []=[]:=h;rw[if_pos h,if_pos h,h',h]
  rfl
 ·rw[if_neg h,if_neg h];have:=Xt p.list v (ref:=Nt g v ((E[v]?).getD (0,0)).1) ((E[v]?).getD (0,0)).1 h;rw[<-this];rfl
section
variable {t:TypeId}{u:Value}{p:Nb}{g:List (List Nat)}{E:List (Nat×Nat)}{R:Src t u (Ug p g E)}{k x:Nat}{X Y S:Nat->Prop}{w w':World}
theorem Py.ent (h:Py p g E){v:Nat}(hv:v<g.length):Wr p g E v (Mg g v).length ((E[v]?).getD (0,0)):=by
 have hl:=h.pk.el
 obtain⟨e,he⟩:∃e,E[v]? =some e:=⟨_,List.getElem?_eq_getElem (by omega)⟩
 have:=h.pk.ok.ent v e he
 rw[he];exact this
theorem Py.z08 (h:Py p g E){v:Nat}(hv:v<g.length):MB g E v<=p.Mq/\MB g E v<=v:=by
 unfold MB
 split
 ·omega
 ·rcases h.ent hv with e| e
  ·rw[e];exact⟨Nat.zero_le _,Nat.zero_le _⟩
  ·exact⟨e.2.1,e.2.2.1⟩
theorem Py.suc (h:Py p g E){v:Nat}(hv:v<g.length):MG (Mg g v)/\(Mg g v).length<=g.length/\∀y∈Mg g v,y<g.length:=by
 have hm:Mg g v∈g:=by
  unfold Mg;rw[List.getElem?_eq_getElem hv];exact List.getElem_mem hv
 exact⟨h.gr.ok _ hm,h.gr.len hm,h.gr.lt _ hm⟩
theorem Y7 (h:Rn R k x X w){v:Nat}(hv:v<g.length):Mw Tryz.prog 67 [ptr k 0,I (v:Int)] w λr w'=>∃(b a:Nat) (s:Bytes) (rest:List Bool),r= .tuple #[.agg #[I ((Mg g v).length:Int),I (MB g E v:Int)],ptr b 0,I ((a+(Mp (PM p g E v)).length:Nat):Int),I 0]/\Ql w' b s a/\(Ml s).drop a=Mp (PM p g E v)++rest/\w.heap.size<=b/\Rn R k x (λj=>X j\/j=b) w'/\Kp (λj=>¬X j) w w':=by
 have hn:=h.ok.gr.n
 obtain⟨dW,cY,oy⟩:=h.ok.suc hv
 have gy:=h.ok.z08 hv
 have pK:=z5f p g E v
 have rj:(Mg g v).length=0->MB g E v=0:=λe=>by unfold MB;rw[if_pos (List.eq_nil_of_length_eq_zero e)]
 refine It (e:=[(0,_),(1,_)]) Tryz.func67 O Tryz.ntmps67 O O$ qN O$ M5 O O (Oo (cs:=[_,_]) OG O) ?_
 rintro _ w1 ⟨b4,rfl,f9,ad,aH⟩
 have l4:=aH.lt
 have h1:Rn R k x (λj=>X j\/j=b4) w1:=h.grow ad (λj hj=>hj.imp id λe=>by omega) (λj hj=> .inl hj)
 have ay:∀j,X j->j≠b4:=λj hj e=>by have:=h.lt j hj;omega
 refine Me O$ Me O$ Me O$ qM O$ Md O O$ Mn zcT O (z1Y h1 hv) ?_
 rintro _ w2 ⟨b,a,e,s,rest,rfl,cI,hd,he,hb,h2,ao⟩
 have bA:=ao.LY aH (λe=>e (.inr O))
 have IF:=h2.cells
 have lb:=cI.1.lt
 have eZ:∀j,X j->j≠b:=λj hj e=>by have:=h.lt j hj;have:=ad.size;omega
 have ll:∀j,j=b->(X j\/j=b4)\/j=b:=λj e=> .inr e
 refine LW O$ qV (O6 (v:=ptr b 0) O O)$ qV (O6 (v:=I (e:Int)) O O)$ qV (O6 (v:=I 0) O O)$ Me O$ Me O$ M4 O$ run_seq$ qN O$ LW O$ N9 O O$ LX$ An O$ py ?_
 refine qN O$ Md O O$ MC O$ Ma Tg O$ Ma Vh O$ qV (Mv (news:=RR p) Y4 O Oi O (M7.cells (i:=2) (n:=5) IF O) O)$ Mn Y0 O (PA p w2) ?_
 rintro _ w3 ⟨rfl,ai⟩
 have h3:=h2.ext ai
 have ld:Ql w3 b s a:=⟨ai.LY cI.1,cI.2⟩
 rw[pK,List.append_assoc] at hd
 refine Mn z9J O (YQ ld p.list h.ok.Nj.1 h3.gam h3.una (λe=>eZ 0 h.x1 e) (λe=>eZ 1 h.x2 e) (Mg g v).length (MB g E v) (by omega) gy.1 rj _ hd) ?_
 rintro _ w4 ⟨rfl,fD,av⟩
 have FH:=OR hd
 have h4:=h3.own av (λj e=>⟨.inr e,λe'=>eZ k h.xk (e'▸e),λe'=>eZ x h.xx (e'▸e),λe'=>eZ 0 h.x1 (e'▸e),λe'=>eZ 1 h.x2 (e'▸e)⟩)
 have cw:=av.LY (ai.LY bA) (λe=>by omega)
 have fT:=congrArg List.length pK
 rw[List.length_append] at fT
 refine LW O$ qV (O6 (v:= .agg #[I ((Mg g v).length:Int),I (MB g E v:Int)]) O O)$ qV (O6 (v:=I 0) O O)$ M5 O O (Oo (cs:=[_,_]) OG O) ?_
 rintro _ w5 ⟨b11,rfl,iU,aW,aL⟩
 refine Mb O (MO (news:=[I ((Mg g v).length:Int),I (MB g E v:Int)]) OG O O O O aL (by simp)) ?_
 rintro w6 ⟨ny,aR⟩
 replace ny:M7 w6 b11 [I ((Mg g v).length:Int),I (MB g E v:Int)] 157:=ny
 have cP:Ext w4 w6:=aW.LS aR (λj e=>by omega)
 have h6:=h4.ext cP
 have kU:Ql w6 b s (a+(Mp (Nl p.list (Mg g v).length (MB g E v))).length):=⟨cP.LY fD.1,fD.2⟩
 refine M4 O$ Mz.qb (e:=[(4,_),(5,_),(6,_),(7,_),(8,_),(9,_),(10,_),(11,_)]) ?_
 refine run_seq$ qN O$ LW O$ N9 O O$ ML$ Md O O$ Mn Uz O (QH kU) ?_
 rintro _ w6 ⟨rfl,rfl⟩
 refine LW O$ Ng O O$ ML$ MN O O$ LX$ An O$ py$ qN O$ qV (Mv (news:=[I ((Mg g v).length:Int),I (MB g E v:Int)]) z0m O OG O (M7.cells (n:=2) ny O) O)$ Md O O ?_
 have bV:=cP.LY cw
 refine Mb O (MO (news:=[I ((Mg g v).length:Int),I (MB g E v:Int)]) OG O O O O bV (by simp)) ?_
 rintro w7 ⟨bu,aD⟩
 replace bu:M7 w7 b4 [I ((Mg g v).length:Int),I (MB g E v:Int)] 157:=bu
 have h7:=(h6.own aD (λj e=>⟨.inl (.inr e),λe'=>ay k h.xk (e'▸e),λe'=>ay x h.xx (e'▸e),λe'=>ay 0 h.x1 (e'▸e),λe'=>ay 1 h.x2 (e'▸e)⟩)).less (X:=λj=>X j\/j=b) (λj hj=>hj.imp .inl id) (.inl h.xk) (.inl h.xx) (.inl h.x1) (.inl h.x2)
 have IG:Ql w7 b s (a+(Mp (Nl p.list (Mg g v).length (MB g E v))).length):=⟨aD.LY kU.1 (by omega),kU.2⟩
 refine Me O$ Me O$ M4 O$ Mt Tryz.func67 (.cell z0m O OG O (M7.cells (n:=2) bu (news:=[_,_]) O) O (.tmp O (.tmp O (.tmp O .nil)))) (⟨_,rfl,b,a+(Mp (Nl p.list (Mg g v).length (MB g E v))).length,s,rest,?_,IG,FH,by have:=ad.size;omega,h7,?_⟩)
 ·rw[show a+(Mp (Nl p.list (Mg g v).length (MB g E v))).length+(Mp (PM p g E v)).length=e by omega]
  rfl
 ·have ou:Kp (λj=>¬X j) w w4:=((ad.kp.trans (ao.Mc λj e e'=>e (.inl e'))).trans ai.kp).LS av (λj e=> .inl (by have:=ad.size;omega));exact(ou.trans cP.kp).LS aD (λj e=> .inl (by omega))
end
section
variable {t:TypeId}{u:Value}{p:Nb}{g:List (List Nat)}{E:List (Nat×Nat)}{R:Src t u (Ug p g E)}{k x gb pb fb:Nat}{X Y S:Nat->Prop}{w w':World}
abbrev z0o (w:World)(vv:Value)(l:List Nat):Prop:=Sl w vv 46 1 l.length (l.map Mx)
def Qm (E:List (Nat×Nat))(v:Nat):Nat:=((E[v]?).getD (0,0)).2
structure TdM (R:Src t u (Ug p g E))(k x gb pb fb:Nat)(X:Nat->Prop)(w:World):Prop where
 gw:Rn R k x X w
 bg:M7 w gb [ptr k 0] 29
 bp:M7 w pb [I (p.Mq:Int),I (p.chain:Int),I (p.interval:Int),I (p.zeta:Int),I (p.most:Int)] 88
 bf:M7 w fb [.func (.func 153) #[] #[ptr gb 0,ptr pb 0,ptr fb 0]] 269
 xg:X gb
 xp:X pb
 xf:X fb
theorem TdM.step (h:TdM R k x gb pb fb X w)(hk:Kp S w w')(hS:∀j,S j->X j->False)(h2:Rn R k x Y w')(bM:∀j,X j->Y j):TdM R k x gb pb fb Y w':=
 ⟨h2,hk.LY h.bg (λe=>hS _ e h.xg),hk.LY h.bp (λe=>hS _ e h.xp),hk.LY h.bf (λe=>hS _ e h.xf),bM _ h.xg,bM _ h.xp,bM _ h.xf⟩
def Tr (R:Src t u (Ug p g E))(k x gb pb fb v behind:Nat)(X:Nat->Prop)(w:World):Prop:=
 Mw Tryz.prog 153 [I (v:Int),I (behind:Int),ptr gb 0,ptr pb 0,ptr fb 0] w λr w'=>∃vv,r= .tuple #[vv,I 0]/\z0o w' vv (Mg g v)/\(∀b,vv.ownBlock=some b->w.heap.size<=b)/\Rn R k x (λj=>X j\/vv.ownBlock=some j) w'/\Kp (λj=>¬X j) w w'
theorem Py.back (h:Py p g E){v:Nat}(hv:v<g.length)(hq:0<MB g E v):MB g E v<=v/\Qm E v=Qm E (v-MB g E v)+1/\Nt g v (MB g E v)=Mg g (v-MB g E v)/\0<(Mg g (v-MB g E v)).length/\(Mg g (v-MB g E v)).length<=p.most/\(Mg g v).length<=p.most/\Mg g v≠[]/\Qm E v<=p.chain:=by
 have bO:Mg g v≠[]:=λe=>by unfold MB at hq;rw[if_pos e] at hq;omega
 have hb:MB g E v=((E[v]?).getD (0,0)).1:=by unfold MB;rw[if_neg bO]
 rcases h.ent hv with e|⟨h1,h2,h3,l,e',h4,h5,h6,h7⟩
 ·rw[hb,e] at hq;cases hq
 ·rw[<-hb] at h1 h2 h3 h4 h5;have IH:=of_decide_eq_true h7;have hs:Mg g (v-MB g E v)=l:=by unfold Mg;rw[h4];rfl
  refine⟨h3,?_,?_,by rw[hs];omega,by rw[hs];omega,by omega,bO,?_⟩
  ·unfold Qm;rw[h5];exact h6
  ·unfold Nt;rw[if_neg (by omega)];rfl
  ·show((E[v]?).getD (0,0)).2<=_;omega
theorem z5A (az:Py p g E)(j4:g.length<50){v:Nat}(hv:v<g.length){b a:Nat}{s:Bytes}{rest:List Bool}(hR:Ql w b s a)(hd:(Ml s).drop a=Mp (PM p g E v)++rest)(hG:M7 w 0 (OZ .gamma) 260)(hU:M7 w 1 (OZ .unary) 260)(h1:¬0=b)(h2:¬1=b)
  {vb:Value} (dh:MB g E v=0->vb= .slice none 0 0) (hS:0<MB g E v->z0o w vb (Mg g (v-MB g E v))) (zD:∀j,vb.ownBlock=some j->j≠b):
  Mw Tryz.prog 154 [ptr b 0,I (v:Int),I (g.length:Int),.agg #[I ((Mg g v).length:Int),I (MB g E v:Int)],vb,lpV p.list] w λr w'=>∃vv,r= .tuple #[vv,I 0]/\z0o w' vv (Mg g v)/\(∀j,vv.ownBlock=some j->w.heap.size<=j)/\Ql w' b s (a+(Mp (PM p g E v)).length)/\Kp (λj=>j=b) w w':=by
 obtain⟨dW,cY,oy⟩:=az.suc hv
 have gy:=az.z08 hv
 by_cases bO:Mg g v=[]
 ·have rj:MB g E v=0:=by unfold MB;rw[if_pos bO]
  have D4:PM p g E v=[]:=by unfold PM;rw[if_pos bO]
  rw[rj,dh rj,D4,bO];refine(z00 p.list az.Nj.1 v (by omega) g.length (by omega)).mono λr w' hr=>?_;obtain⟨rfl,hx⟩:=hr;exact⟨_,rfl,Sl.nil _ _ _,λj e=>(by cases e),⟨hx.LY hR.1,hR.2⟩,hx.kp⟩
 ·have D4:PM p g E v=R6 p.list v (Mg g v) (Nt g v (MB g E v)) (MB g E v):=by unfold PM;rw[if_neg bO]
  have js:MG (Nt g v (MB g E v))/\(Nt g v (MB g E v)).length<=60:=by
   have hn:=az.gr.n;rcases Tf g v (MB g E v) with e| e
   ·rw[e];exact⟨⟨List.Pairwise.nil,λy hy=>(by cases hy)⟩,by simp⟩
   ·exact⟨az.gr.ok _ e,by have:=az.gr.len e;omega⟩
  have GS:=Vr az.Nj.1 (x:=v) (by omega) dW js.1 gy.1 (by omega) js.2;rw[D4] at hd⊢;rcases Nat.eq_zero_or_pos (MB g E v) with h0|h0
  ·have lB:Nt g v (MB g E v)=[]:=by unfold Nt;rw[if_pos h0]
   rw[dh h0];have:=Wj hR p.list az.Nj.1 v (by omega) g.length (by omega) (ra:=none) (rc:=0) (Mg g v) (Nt g v (MB g E v)) dW bO (by omega) oy js.1 (MB g E v) gy.1 (λ_=>lB) hG hU h1 h2 (λw2 ao=>by rw[lB];exact(Sl.nil _ 46 1).rd) (by rw[lB];exact Nat.le_refl _) (by omega) rest hd;rw[lB] at this⊢;exact this
  ·obtain⟨q1,q2,q3,q4,q5,q6,q7,q8⟩:=az.back hv h0;have D5:=hS h0;rw[<-q3] at D5
   obtain⟨ga,gc,rfl,jA⟩:∃a c,vb= .slice a (Nt g v (MB g E v)).length c/\(Nt g v (MB g E v)).length<=c:=by
    rcases D5.shape with⟨-,e⟩|⟨b,c,e,hc⟩
    ·rw[q3] at e;omega
    ·exact⟨_,c,e,hc⟩
   exact Wj hR p.list az.Nj.1 v (by omega) g.length (by omega) (ra:=ga) (rc:=gc) (Mg g v) (Nt g v (MB g E v)) dW bO (by omega) oy js.1 (MB g E v) gy.1 (λe=>by omega) hG hU h1 h2 (λw2 ao=>(D5.kp ao λj e=>zD j e).rd) jA (by omega) rest hd
end
section
variable {t:TypeId}{u:Value}{p:Nb}{g:List (List Nat)}{E:List (Nat×Nat)}{R:Src t u (Ug p g E)}{k x gb pb fb:Nat}{X Y S:Nat->Prop}{w w':World}
theorem Wa (j4:g.length<50){v behind:Nat}(hv:v<g.length)(zW:behind+Qm E v<=p.chain)(ht:TdM R k x gb pb fb X w)
  (ih:0<MB g E v->∀(X':Nat->Prop) (w':World),TdM R k x gb pb fb X' w'->Tr R k x gb pb fb (v-MB g E v) (behind+1) X' w'):Tr R k x gb pb fb v behind X w:=by
 have az:=ht.gw.ok
 have hn:=az.gr.n
 have Lo:p.chain<=1000000:=by have:=az.Nj.2.1;omega
 obtain⟨dW,cY,oy⟩:=az.suc hv
 have gy:=az.z08 hv
 have wR:=ht.bg
 unfold Tr
 refine It (e:=[(0,_),(1,_),(2,_),(3,_),(4,_)]) Tryz.func153 O Tryz.ntmps153 O O$ qN O$ Me O$ Me O$ qM O$ qV (M1 Ze O O wR O)$ LW O$ Mn zbY O (Y7 ht.gw hv) ?_
 rintro _ w1 ⟨b,a,s,rest,rfl,kH,oB,bR,h1,aK⟩
 have lb1:=kH.1.lt
 have m6:∀j,X j->j≠b:=λj hj e=>by have:=ht.gw.lt j hj;omega
 refine LW O$ qV (O6 (v:= .agg #[I ((Mg g v).length:Int),I (MB g E v:Int)]) O O)$ qV (O6 (v:=ptr b 0) O O)$ qV (O6 (v:=I ((a+(Mp (PM p g E v)).length:Nat):Int)) O O)$ qV (O6 (v:=I 0) O O)$ M5 O O (Oo (cs:=[_,_]) OG O) ?_
 rintro _ w2 ⟨b9,rfl,mJ,af,cJ⟩
 refine Mb O (MO (news:=[I ((Mg g v).length:Int),I (MB g E v:Int)]) OG O O O O cJ (by simp)) ?_
 rintro w3 ⟨cm,au⟩
 replace cm:M7 w3 b9 [I ((Mg g v).length:Int),I (MB g E v:Int)] 157:=cm
 have aN:Ext w1 w3:=af.LS au (λj e=>by omega)
 have l93:=cm.lt
 have z13:=aN.size
 have h3:Rn R k x (λj=>(X j\/j=b)\/j=b9) w3:=h1.grow aN (λj hj=>hj.imp id λe=>by omega) (λj hj=> .inl hj)
 have cC:Kp (λj=>¬X j) w w3:=aK.trans aN.kp
 have pC:TdM R k x gb pb fb (λj=>(X j\/j=b)\/j=b9) w3:=ht.step cC (λj e e'=>e e') h3 (λj hj=> .inl (.inl hj))
 have ld:Ql w3 b s a:=⟨aN.LY kH.1,kH.2⟩
 refine Me O$ Me O$ M4 O$ run_seq$ qN O$ LW O$ N9 O O$ LX$ An O$ py$ qN O$ M4 O$ run_seq$ qN O ?_
 refine Ma OW O$ qV (M1 U3 O O cm O)$ Ng O O$ LX$ Mz.qb (e:=[(0,_),(1,_),(2,_),(3,_),(4,_),(7,_),(8,_),(9,_),(10,_),(11,_),(12,_),(13,_),(28,_)]) ?_
 refine MM (λe' w'=>∃vb,e'=[(0,I (v:Int)),(2,ptr gb 0),(3,ptr pb 0),(9,ptr b9 0),(10,ptr b 0),(11,I ((a+(Mp (PM p g E v)).length:Nat):Int)),(13,vb)]/\Rn R k x (λj=>(X j\/j=b)\/j=b9) w'/\Kp (λj=>¬((X j\/j=b)\/j=b9)) w3 w'/\(MB g E v=0->vb= .slice none 0 0)/\(0<MB g E v->z0o w' vb (Mg g (v-MB g E v)))/\(∀j,vb.ownBlock=some j->j≠b)) ?cA$ λcA=>?cS
 case cA=>
  rintro e' w4 ⟨vb,rfl,h4,av,mE,eT,D6⟩;have vR:TdM R k x gb pb fb (λj=>(X j\/j=b)\/j=b9) w4:=pC.step av (λj e e'=>e e') h4 (λj hj=>hj);have kk:=av.LY cm (λe=>e (.inr O));have fD:Ql w4 b s a:=⟨av.LY ld.1 (λe=>e (.inl (.inr O))),ld.2⟩;have xO:=vR.bg;have j9:=vR.bp;have xP:=vR.gw.cells;have ag:=Ext.Mm w4;refine run_seq ?_;have ngb:gb≠b:=m6 gb ht.xg;have nk:k≠b:=m6 k ht.gw.xk;have npb:pb≠b:=m6 pb ht.xp;have n9:b9≠b:=by omega
  refine NV (λw'=>Kp (λj=>j=b) w4 w') O$ Mj 0 O O (ag.kp)$ Mj 1 O O (ag.kp)$ qT 2 O (λ_ h=>(by first|exact M1 Ze O O (h.LY xO ngb) O|exact M1 Ze O O (h.LY xP nk) O)) (ag.kp) ?_;refine M3 3 O (N4 O) (ag.kp)$ M3 4 O (My Tg O) (ag.kp)$ M3 5 O (My QJ O) (ag.kp)$ qT 6 O (λ_ h=>(by first|exact M1 U3 O O (h.LY xO ngb) O|exact M1 U3 O O (h.LY xP nk) O)) (ag.kp) ?_;refine Mj 8 O O (ag.kp)$ qT 7 O (λ_ hS=>Mv (news:=[I ((Mg g v).length:Int),I (MB g E v:Int)]) z0m O OG O (M7.cells (n:=2) (hS.LY kk n9) O) O) (ag.kp)$ qT 9 O (λ_ h=>Mv (news:=RR p) Y4 O Oi O (M7.cells (n:=5) (h.LY j9 npb) O) O) (ag.kp)$ Pm 10 O Y0 O (PA p w4.drew) ?_;rintro _ w5 ⟨rfl,aW⟩;refine⟨(ag.trans aW).kp,?_⟩;have dr:=ag.trans aW;have h5:=h4.ext dr;have rL:Ql w5 b s a:=⟨dr.LY fD.1,fD.2⟩;have D7:¬0=b:=λe=>m6 0 ht.gw.x1 e;have D8:¬1=b:=λe=>m6 1 ht.gw.x2 e;refine Pm 11 O zef O (z5A az j4 hv rL oB h5.gam h5.una D7 D8 mE (λe=>(eT e).ext dr) D6) ?_;rintro _ w6 ⟨vv,rfl,eL,mD,kU,aR⟩;refine⟨dr.kp.trans aR,?_⟩;refine Mj 12 O O (dr.kp.trans aR)$ M3 13 O (O6 (v:=vv) O O) (dr.kp.trans aR)$ M3 15 O (NX O) (dr.kp.trans aR)$ M3 14 O (O6 (v:=I 0) O O) (dr.kp.trans aR)$ M3 16 O (NX O) (dr.kp.trans aR)$ qE$ run_seq$ qN O$ LW O$ N9 O O$ Md O O$ Mn Uz O (QH kU) ?_;rintro _ w6 ⟨rfl,rfl⟩;refine LW O$ N9 O O$ ML$ MN O O$ LX$ Mz.qb (e:=[(14,_),(92,_)]) ?_;refine An O$ py$ qN O$ LW O$ Me O$ M4 O$ LZ Tryz.func153 O ?_;have z34:=av.size;have z45:=dr.size;have z03:=cC.size;have h6:=(h5.step (Y:=λj=>((X j\/j=b)\/j=b9)\/vv.ownBlock=some j) aR (λj e=>⟨.inl (.inr e),λe'=>m6 k ht.gw.xk (e'▸e),λe'=>m6 x ht.gw.xx (e'▸e),λe'=>m6 0 ht.gw.x1 (e'▸e),λe'=>m6 1 ht.gw.x2 (e'▸e)⟩) (λj hj=>hj.imp id λe=>⟨mD j e,eL.lt e⟩) (λj hj=> .inl hj)).less (X:=λj=>X j\/vv.ownBlock=some j) (λj hj=>hj.imp (λe=> .inl (.inl e)) id) (.inl ht.gw.xk) (.inl ht.gw.xx) (.inl ht.gw.x1) (.inl ht.gw.x2);exact⟨_,rfl,vv,rfl,eL,λj e=>by have:=mD j e;omega,h6,((cC.trans (av.Mc λj e e'=>e (.inl (.inl e')))).trans dr.kp).trans (aR.Mc λj e e'=>m6 j e' e)⟩
 case cS=>
  refine M8 O (λh0=>?_)$ λh0=>?_
  ·have rk:0<MB g E v:=by omega
   obtain⟨q1,q2,q3,q4,q5,q6,q7,q8⟩:=az.back hv rk;have m7:=pC.bp;have m8:=pC.bf;refine run_seq$ qN O$ Ma OW O$ qV ((by first|exact M1 U3 O O cm O|exact M1 U3 O O m7 O|exact M1 U3 O O m8 O)) ?_;refine LW O$ Ng O O$ ML$ Md O O$ Ma VH O$ qV ((by first|exact M1 U3 O O cm O|exact M1 U3 O O m7 O|exact M1 U3 O O m8 O)) ?_;refine PD O O$ ML$ MN O O$ LW O$ Ma Pu O$ qV ((by first|exact M1 U3 O O cm O|exact M1 U3 O O m7 O|exact M1 U3 O O m8 O)) ?_;refine Ma Qb O$ qV ((by first|exact M1 U3 O O cm O|exact M1 U3 O O m7 O|exact M1 U3 O O m8 O)) ?_;refine Ng O O$ ML$ MN O O$ LX$ Mz.qb (e:=[(0,_),(1,_),(2,_),(3,_),(4,_),(7,_),(8,_),(9,_),(10,_),(11,_),(12,_),(13,_),(45,_)]) ?_;refine An O$ py$ run_seq$ qN O$ qV ((by first|exact M1 z9u O O cm O|exact M1 z9u O O m7 O|exact M1 z9u O O m8 O)) ?_;refine LW O$ Ma OW O$ qV ((by first|exact M1 U3 O O cm O|exact M1 U3 O O m7 O|exact M1 U3 O O m8 O)) ?_;refine Oa O O ?_;rw[show(v:Int)-(MB g E v:Int)=((v-MB g E v:Nat):Int) by omega];refine LW O$ MT O O ?_;rw[show(behind:Int)+1=((behind+1:Nat):Int) by omega];have G7:=ih rk _ w3 pC;unfold Tr at G7;refine Ny O O (OK zaH O O) (G7) ?_;rintro _ w4 ⟨vb,rfl,dV,pj,h4,av⟩
   obtain⟨vo,vc,rfl,zF⟩:∃o c,vb= .slice (some ⟨o,0,none⟩) (Mg g (v-MB g E v)).length c/\w3.heap.size<=o:=by
    rcases dV.shape with⟨-,e⟩|⟨o,c,e,hc⟩
    ·omega
    ·exact⟨o,c,e,pj o (by rw[e];rfl)⟩
   refine LW O$ qV (O6 (v:= .slice (some ⟨vo,0,none⟩) (Mg g (v-MB g E v)).length vc) O O)$ qV (O6 (v:=I 0) O O)$ Me O$ Me O$ qM O$ LW O$ N9 O O ?_;have j9:=(pC.step av (λj e e'=>e e') h4 (λj hj=> .inl hj)).bp;refine LX$ Mz.qb (e:=[(0,_),(2,_),(3,_),(7,_),(8,_),(9,_),(10,_),(11,_),(12,_),(13,_),(58,_)]) ?_;refine An O$ py$ qN O$ LW O$ O9 Mr O$ O3 O O$ ML$ Md O O$ O9 Mr O$ Ma Qb O$ qV (M1 U3 O O j9 O)$ Ng O O$ ML$ MN O O ?_;refine LX$ An O$ py ?_;exact(cA _ _ ⟨_,rfl,h4.less (λj hj=> .inl hj) h3.xk h3.xx h3.x1 h3.x2,av,λe=>by omega,λ_=>dV,λj e=>by have e':vo=j:=NF e;omega⟩).qb
  ·refine py ?_;exact(cA _ _ ⟨_,rfl,h3,Kp.refl _ _,λ_=>rfl,λe=>by omega,λj e=>by cases e⟩).qb
theorem Xz (j4:g.length<50):∀(d:Nat) {v behind:Nat} {X:Nat->Prop} {w:World},Qm E v<=d->v<g.length->behind+Qm E v<=p.chain->TdM R k x gb pb fb X w->Tr R k x gb pb fb v behind X w
 | 0, v, behind, X, w, hd, hv, zW, ht => Wa j4 hv zW ht λh0 => by
   obtain⟨q1,q2,-⟩:=ht.gw.ok.back hv h0
   omega
 | d + 1, v, behind, X, w, hd, hv, zW, ht => Wa j4 hv zW ht λh0 X' w' II => by
   obtain⟨q1,q2,-⟩:=ht.gw.ok.back hv h0;exact Xz j4 d (by omega) (by omega) (by omega) II
theorem Py.z6M (h:Py p g E){v:Nat}(hv:v<g.length):Qm E v<=p.chain:=by
 rcases h.ent hv with e|⟨h1,h2,h3,l,e',h4,h5,h6,h7⟩
 ·unfold Qm;rw[e];exact Nat.zero_le _
 ·have IH:=of_decide_eq_true h7;unfold Qm;omega
theorem z26 (j4:g.length<50){v:Nat}(hv:v<g.length)(h:Rn R k x X w):Mw Tryz.prog 114 [ptr k 0,I (v:Int)] w λr w'=>∃vv,r= .tuple #[vv,I 0]/\z0o w' vv (Mg g v)/\(∀b,vv.ownBlock=some b->w.heap.size<=b)/\Rn R k x (λj=>X j\/vv.ownBlock=some j) w'/\Kp (λj=>¬X j) w w':=by
 refine It (e:=[(0,_),(1,_)]) Tryz.func114 O Tryz.ntmps114 O O$ qN O$ M5 O O (O2 O (cs:=[ptr k 0]) O) ?_
 rintro _ w1 ⟨gb,rfl,IJ,ad,wR⟩
 refine Me O$ M4 O$ run_seq$ qN O$ qV (M1 Ze O O wR O)$ LW O$ M5 O O (SA (cs:=[_]) (zs:=[Value.int .i64 0]) O8 MV O (by kernel_rfl) O O O (by decide)) ?_
 rintro _ w2 ⟨vb,rfl,⟨dh,af,Lp⟩,IK⟩
 have h2:=(h.ext ad).ext af
 have tf:=af.LY wR
 have D9:=h2.cells
 have z1:=ad.size
 have z2:=af.size
 refine Mn ze3 O (Xl h2 hv IK.rd) ?_
 rintro _ w2 ⟨rfl,rfl⟩
 refine Me O$ qM O$ LW O$ N9 O O$ LX$ An O$ py$ qN O$ qV (M1 Ze O O tf O)$ MC O$ Ma Tg O$ Ma Vh O$ qV (Mv (news:=RR p) Y4 O Oi O (M7.cells (i:=2) (n:=5) D9 O) O)$ M5 O O (Oo (cs:=[_,_,_,_,_]) Oi O) ?_
 rintro _ w3 ⟨pb,rfl,qB,ai,pi⟩
 refine Mb O (MO (news:=RR p) Oi O O O O pi (by simp)) ?_
 rintro w4 ⟨j9,av⟩
 replace j9:M7 w4 pb [I (p.Mq:Int),I (p.chain:Int),I (p.interval:Int),I (p.zeta:Int),I (p.most:Int)] 88:=j9
 have cQ:Ext w2 w4:=ai.LS av (λj e=>by omega)
 refine qM O$ M5 O O (Oo (cs:=[_]) zaM O) ?_
 rintro _ w5 ⟨fb,rfl,Lq,aW,da⟩
 refine qM O$ qV (Zm (first:=[]) (caps:=[.tmp 2,.tmp 7,.tmp 8]) O O)$ Mb O (NT zaM O O O da (by simp)) ?_
 rintro w6 ⟨xQ,aR⟩
 have cP:Ext w4 w6:=aW.LS aR (λj e=>by omega)
 have io:=cQ.trans cP
 have z6:=io.size
 have lg:=tf.lt
 have lp:=j9.lt
 have lf:=xQ.lt
 have z24:=cQ.size
 have z3:=ai.size
 have z46:=cP.size
 have iq:=(ad.trans af).trans io
 have h6:Rn R k x (λj=>X j\/j=gb\/j=pb\/j=fb) w6:=h.grow iq (λj hj=>hj.imp id λe=>by omega) (λj hj=> .inl hj)
 have vp:TdM R k x gb pb fb (λj=>X j\/j=gb\/j=pb\/j=fb) w6:=⟨h6,io.LY tf,cP.LY j9,xQ,.inr (.inl O),.inr (.inr (.inl O)),.inr (.inr (.inr O))⟩
 have xR:=vp.bf
 have eM:=Xz j4 _ (behind:=0) (Nat.le_refl _) hv (by have:=h.ok.z6M hv;omega) vp
 unfold Tr at eM
 refine qM O$ qV (M1 z9u O O xR O)$ LW O$ Ny O O (OK zaH O O) (eM) ?_
 rintro _ w7 ⟨vv,rfl,i9,ol,h7,aD⟩
 refine qV (O6 (v:=vv) O O)$ qV (O6 (v:=I 0) O O)$ Me O$ M4 O$ Mz.qb (e:=[(4,_),(5,_)]) ?_
 refine LZ Tryz.func114 O ?_
 exact⟨_,rfl,vv,rfl,i9,λj e=>by have:=ol j e;omega,h7.less (λj hj=>hj.imp .inl id) (.inl h.xk) (.inl h.xx) (.inl h.x1) (.inl h.x2),iq.kp.trans (aD.Mc λj e e'=>e (.inl e'))⟩
end
def stV (b:Bool):Value:= .int .u8 (if b then 1 else 0)
structure TW (w:World)(m gi:Nat)(L:List Bool):Prop where
 LY:M7 w m [I 2,.slice (some ⟨gi,0,none⟩) L.length L.length,.slice none 0 0,.bool false] 126
 sl:Sl w (.slice (some ⟨gi,0,none⟩) L.length L.length) 174 1 L.length (L.map stV)
 ne:gi≠m
 n:L.length<=4096
 n2:2<=L.length
section
variable {w w':World}{m gi:Nat}{L:List Bool}{S:Nat->Prop}
theorem TW.kp (h:TW w m gi L)(hk:Kp S w w')(h1:¬S m)(h2:¬S gi):TW w' m gi L:=
 ⟨hk.LY h.LY h1,h.sl.kp hk λg e=>by cases e;exact h2,h.ne,h.n,h.n2⟩
theorem TW.ext (h:TW w m gi L)(hx:Ext w w'):TW w' m gi L:=h.kp (S:=λ_=>False) hx id id
theorem TW.ltm (h:TW w m gi L):m<w.heap.size:=h.LY.lt
theorem TW.ltg (h:TW w m gi L):gi<w.heap.size:=h.sl.lt O
theorem TW.get (h:TW w m gi L){i:Nat}{b:Bool}(hi:L[i]? =some b):w.cell? ⟨gi,0+i*1,none⟩=some (stV b):=
 Na h.sl.rd (by rw[List.getElem?_map,hi];rfl)
theorem z4V (B:Nat)(hB:2<=B/\B<=4096)(w:World):Mw Tryz.prog 28 [I 2,I (B:Int)] w λv w'=>∃m gi,v= .tuple #[ptr m 0,I 0]/\TW w' m gi (List.replicate B false)/\w.heap.size<=m/\w.heap.size<=gi/\Ext w w':=by
 refine It (e:=[(0,_),(1,_)]) Tryz.func28 O Tryz.ntmps28 O O$ qN O$ Me O$ M4 O$ run_seq$ qN O$ LW O$ Ni O O$ ML$ Md O O$ LW O$ Ng O O$ ML$ MN O O ?_
 refine Md O O$ Ng O O$ ML$ MN O O$ LX$ An O$ py$ qN O$ Md O O$ M5 O O (pmk (c:=B) (n:=B) Qh YU O O O (Nat.le_refl _) (by omega) (by simp only[maxLen];omega)) ?_
 rintro _ w1 ⟨gi,rfl,⟨sR,ad,aj⟩,iM⟩
 refine qV (OO (cs:=[_,_,_,_]) zeS O zeo O O)$ M5 O O (O2 O (cs:=[I 2,.slice (some ⟨gi,0,none⟩) B B,.slice none 0 0,.bool false]) O) ?_
 rintro _ w2 ⟨m,rfl,hm,af,am⟩
 refine Me O$ M4 O$ LZ Tryz.func28 O ?_
 have:=ad.size
 have lg:=iM.lt (g:=gi) O
 refine⟨_,rfl,m,gi,rfl,⟨by rw[List.length_replicate];exact am,?_,by omega,by rw[List.length_replicate];omega,by rw[List.length_replicate];omega⟩,by omega,by omega,ad.trans af⟩
 rw[List.length_replicate,List.map_replicate]
 exact iM.ext af
def NU (L:List Bool)(s n:Nat)(b:Bool):List Bool:=L.take s++(List.replicate n b++L.drop (s+n))
theorem NP {L:List Bool}{s n:Nat}{b:Bool}(h:s+n<=L.length):(NU L s n b).length=L.length:=by
 unfold NU
 rw[List.length_append,List.length_append,List.length_take,List.length_replicate,List.length_drop];omega
theorem z5Q (L:List Bool)(s:Nat)(b:Bool):NU L s 0 b=L:=by simp[NU]
theorem z5M {L:List Bool}{s n:Nat}{b:Bool}(h:s+n<L.length):(NU L s n b).set (s+n) b=NU L s (n+1) b:=by
 have h1:(L.take s++List.replicate n b).length=s+n:=by rw[List.length_append,List.length_take,List.length_replicate];omega
 unfold NU
 rw[<-List.append_assoc,List.set_append_right _ _ (by omega),h1,Nat.sub_self,List.drop_eq_getElem_cons h,List.set_cons_zero,List.replicate_succ',List.append_assoc,List.append_assoc]
 rfl
theorem YJ (h:TW w m gi L)(s n:Nat)(b:Bool)(hs:s+n<=L.length):Mw Tryz.prog 128 [ptr m 0,.agg #[I (s:Int),I (n:Int)],stV b] w λv w'=>v= .tuple #[]/\TW w' m gi (NU L s n b)/\Kp (λk=>k=gi) w w':=by
 have hn:=h.n
 refine It (e:=[(0,_),(1,_),(2,_)]) Tryz.func128 O Tryz.ntmps128 O O$ qN O$ M5 O O (O2 O (cs:=[I (s:Int),I (n:Int)]) O) ?_
 rintro _ w1 ⟨b4,rfl,f9,ad,aH⟩
 have lg:=h.ltg
 have l4:=aH.lt
 have h1:=h.ext ad
 refine qM O$ Ma NQ O$ qV (M1 U3 O O aH O)$ LW O$ LX$ LU$ Oh (α:=Nat) (0) (λi=>[(0,ptr m 0),(2,stV b),(4,ptr b4 0),(8,I (n:Int)),(9,I (i:Int))]) (λi w'=>TW w' m gi (NU L s i b)/\Kp (λk=>k=gi) w1 w'/\i<=n) (λi=>n-i) ?hI ?hround
 case hI=>exact⟨by rw[z5Q];exact h1,Kp.refl _ _,Nat.zero_le _⟩
 case hround=>
  rintro i w2 ⟨h2,ao,hi⟩ ih
  try dsimp only
  refine qN O$ Ni O O$ LX$ run_seq$ M8 O (λh0=>?_)$ λh0=>?_
  ·have aU:i<n:=by omega
   have hl:=NP (L:=L) (s:=s) (n:=i) (b:=b) (by omega);have am:=h2.LY;have bA:=ao.LY aH (by omega);have hg:=Ext.Mm w2;refine py$ run_seq$ LU$ qN O$ LW O$ M4 O$ Mo [10] (λw'=>Ext w2 w') (by kernel_rfl) O$ qL [1,2,3,9,10] 0 O (λ_ h=>MH O) hg$ qL [2,3,9,10] 1 O (λ_ h=>N4 O) hg$ qL [3,9,10] 2 O (λ_ h=>My RI O) hg$ qL [9,10] 3 O (λ_ h=>(by first|exact M1 Qh O O (h.LY am) O|exact M1 Qh O O (h.LY bA) O)) hg ?_;refine qL [5,7,9,10] 4 O (λ_ h=>My NK O) hg$ qL [7,9,10] 5 O (λ_ h=>(by first|exact M1 U3 O O (h.LY am) O|exact M1 U3 O O (h.LY bA) O)) hg ?_;refine qL [7,9,10] 6 O (λ_ h=>MH O) hg$ qL [9,10] 7 O (λ_ h=>R4 O O (by omega)) hg$ qL [9,10] 8 O (λ_ h=>MH O) hg$ qL [10] 9 O (λ_ h=>MS Qh YU O O (by omega)) hg$ PH [10]$ qO 10$ MI (i:=10) O O (Ox YU O O O (h2.ext hg).sl (by rw[List.length_map,hl];omega)) ?_;rintro w3 ⟨cE,au⟩;refine⟨trivial,?_⟩
   have h3:TW w3 m gi (NU L s (i+1) b):=by
    refine⟨?_,?_,h2.ne,by rw[NP (by omega)];exact h.n,by rw[NP (by omega)];exact h.n2⟩
    ·rw[NP (by omega),<-hl];exact au.LY (hg.LY am) (λe=>h2.ne e.symm)
    ·rw[show 0+(s+i)*1=s+i by omega,<-List.map_set,z5M (by omega)] at cE;rw[NP (by omega),<-hl];exact cE
   refine qE$ LV$ M0 O$ MT O O$ LW O$ LX ?_;exact(ih (i+1) _ ⟨h3,ao.trans (hg.kp.trans au),by omega⟩ (by omega)).qb
  ·have aU:i=n:=by omega
   subst aU;refine M6 O$ Nq Tryz.func128 O ?_;exact⟨_,rfl,rfl,h2,ad.kp.trans ao⟩
end
structure Pre (L:List Bool)(a:Nat):Prop where
 a2:2<=a
 le:a<=L.length
 tk:∀i,2<=i->i<a->L[i]? =some true
 fr:∀i,a<=i->i<L.length->L[i]? =some false
section
variable {w w':World}{m gi a:Nat}{L:List Bool}{S:Nat->Prop}
theorem UI {l bm : Nat}(hm : TW w m gi L)(hp : Pre L a)(ha : a < L.length)(kD : M7 w bm [ptr m 0] 48)(J : World -> Prop)(hJ : ∀ w w', J w -> Ext w w' -> J w')
  (hround:∀w',Ext w w'->z05 Tryz.prog l [.agg #[I (a:Int),I ((L.length-a:Nat):Int)]] w' λv w''=>(v= .bool true/\J w''/\M7 w'' bm [ptr m 0] 48/\TW w'' m gi L)\/(v= .bool false/\J w'')):
  Mw Tryz.prog 77 [.func (.yield l) #[] #[],ptr bm 0] w λv w'=>v= .tuple #[]/\J w':=by
 have hn:=hm.n
 have oz:=hp.a2
 have hB:=hm.LY
 refine It (e:=[(0,_),(1,_)]) Tryz.func77 O Tryz.ntmps77 O O$ qN O$ qV ((by first|exact M1 Yn O O kD O|exact M1 Yn O O hB O)) ?_
 refine MC O$ Ma z3Z O$ qV ((by first|exact M1 U3 O O kD O|exact M1 U3 O O hB O)) ?_
 refine M4 O$ LU$ Oh (α:=Nat) (2) (λi=>[(0,.func (.yield l) #[] #[]),(1,ptr bm 0),(3,I (i:Int))]) (λi w'=>M7 w' bm [ptr m 0] 48/\TW w' m gi L/\((2<=i/\i<=a/\Ext w w')\/(i=L.length+1/\J w'))) (λi=>L.length+1-i) ?hI ?hround
 case hI=>exact⟨kD,hm,.inl ⟨Nat.le_refl _,oz,Ext.refl _⟩⟩
 case hround=>
  rintro i w1 ⟨pR,oF,g9⟩ ih;have aj:=oF.LY
  try dsimp only
  refine run_seq$ qN O$ LW O$ qV ((by first|exact M1 Yn O O pR O|exact M1 Yn O O aj O)) ?_;refine MC O$ Ma RI O$ qV ((by first|exact M1 Qh O O pR O|exact M1 Qh O O aj O)) ?_;refine O9 Qh O$ Ni O O$ LX$ M8 O (λh0=>?_)$ λh0=>?_
  ·have th : 2 <= i /\ i <= a /\ Ext w w1 := by
    rcases g9 with h| h
    ·exact h
    ·omega
   obtain⟨dA,Lr,ad⟩:=th;refine py$ run_seq$ LU$ qN O$ LW O$ qV (OO (cs:=[_,_]) NO O zbT O O)$ M5 O O (Oo (cs:=[_,_]) NO O) ?_;rintro _ w2 ⟨b4,rfl,f9,af,aH⟩;refine Mb O (MO (news:=[I (i:Int),I 0]) NO O O O O aH (by simp)) ?_;rintro w3 ⟨dR,au⟩;replace dR:M7 w3 b4 [I (i:Int),I 0] 108:=dR;have aN:Ext w1 w3:=af.LS au (λj e=>by omega);have m9:=aN.LY pR;have kX:=oF.ext aN;have ar:=kX.LY;refine LX$ run_seq$ LU$ Oh (α:=Nat) (i) (λj=>[(0,.func (.yield l) #[] #[]),(1,ptr bm 0),(3,I (j:Int)),(4,ptr b4 0)]) (λj w'=>w'=w3/\i<=j/\j<=L.length/\(i<j->i=a)) (λj=>L.length-j) ?hI ?hround
   case hI=>exact⟨rfl,Nat.le_refl _,by omega,λh=>absurd h (by omega)⟩
   case hround =>
    rintro j w4 ⟨rfl,i7,Ls,Da⟩ ih2
    try dsimp only
    rcases Nat.lt_or_ge j L.length with hj|hj
    ·obtain⟨b,hb⟩:∃b,L[j]? =some b:=⟨_,List.getElem?_eq_getElem hj⟩;have aV:=kX.get hb;refine run_seq$ qN O$ LW O$ qV ((by first|exact M1 Yn O O m9 O|exact M1 Yn O O ar O)) ?_;refine MC O$ Ma RI O$ qV ((by first|exact M1 Qh O O m9 O|exact M1 Qh O O ar O)) ?_;refine O9 Qh O$ Ni O O$ O4$ LW O$ qV ((by first|exact M1 Yn O O m9 O|exact M1 Yn O O ar O)) ?_;refine MC O$ Ma RI O$ qV ((by first|exact M1 Qh O O m9 O|exact M1 Qh O O ar O)) ?_;refine LW O$ qV (MS Qh YU O O (by omega)) ?_
     cases b with
     | true =>
       refine qV (MA (v:= .int .u8 1) z7v O O aV) ?_
       have IL:i<a:=by
        rcases Nat.lt_or_ge i a with h| h
        ·exact h
        ·have:=hp.fr j (by omega) hj;rw[this] at hb;cases hb
       have qY:j=i:=by
        rcases Nat.lt_or_ge i j with h| h
        ·have:=Da h;omega
        ·omega
       subst qY;refine O3 O O$ ML$ NC O O$ LX$ An O$ M6 O$ qN O$ LW O$ Ma NK O$ qV (M1 U3 O O dR O)$ Oa O O$ Ma NQ O$ Mb O (NT MV O O O dR (by simp)) ?_;rintro w5 ⟨aM,ak⟩;rw[show(j:Int)-(j:Int)=0 by omega] at aM;replace aM:M7 w5 b4 [I (j:Int),I 0] 108:=aM;have co:Ext w1 w5:=aN.LS ak (λq e=>by have:=af.size;omega);refine qM O$ Ma NQ O$ qV (M1 U3 O O aM O)$ Ng O O$ LW O$ qS$ qS$ qS$ qS$ MN O O$ LX$ An O$ py$ LV ?_;refine M0 O$ LW O$ MT O O$ M4 O ?_
       exact(ih (j+1) w5 ⟨co.LY pR,oF.ext co,.inl ⟨by omega,by omega,ad.trans co⟩⟩ (by omega)).qb
     | false =>
       refine qV (MA (v:= .int .u8 0) z7v O O aV)$ O3 O O$ O4$ NC O O ?_
       have ti:i=a:=by
        rcases Nat.lt_or_ge i a with h| h
        ·rcases Nat.lt_or_ge i j with h2|h2
         ·exact Da h2
         ·have e:j=i:=by omega
          subst e;have:=hp.tk j dA h;rw[this] at hb;cases hb
        ·omega
       refine LX$ M9 O$ py$ LU$ M0 O$ LW O$ MT O O$ M4 O$ LV ?_;exact(ih2 (j+1) _ ⟨rfl,by omega,by omega,λ_=>ti⟩ (by omega)).qb
    ·have IM:j=L.length:=by omega
     subst IM;have ti:=Da (by omega);subst ti;refine run_seq$ qN O$ LW O$ qV ((by first|exact M1 Yn O O m9 O|exact M1 Yn O O ar O)) ?_;refine MC O$ Ma RI O$ qV ((by first|exact M1 Qh O O m9 O|exact M1 Qh O O ar O)) ?_;refine O9 Qh O$ Ni O O$ ML$ LW O$ qS$ qS$ qS$ qS$ qS$ qS$ qS$ qS$ MN O O$ LX ?_;refine An O$ M6 O$ qN O$ LW O$ Ma NK O$ qV (M1 U3 O O dR O)$ Oa O O$ Ma NQ O$ Mb O (NT MV O O O dR (by simp)) ?_;rintro w5 ⟨aM,ak⟩;rw[show(L.length:Int)-(i:Int)=((L.length-i:Nat):Int) by omega] at aM;replace aM:M7 w5 b4 [I (i:Int),I ((L.length-i:Nat):Int)] 108:=aM;have co:Ext w1 w5:=aN.LS ak (λq e=>by have:=af.size;omega);refine qM O$ Ma NQ O$ qV (M1 U3 O O aM O)$ Ng O O$ O4$ Md O O$ qV (Mv (news:=[I (i:Int),I ((L.length-i:Nat):Int)]) SO O NO O (M7.cells (n:=2) aM O) O)$ z2D O O (yy O O) (hround w5 (ad.trans co)) ?_;rintro v w6 hv;rcases hv with⟨rfl,xS,Db,IN⟩|⟨rfl,xS⟩
     ·refine qV ((by first|exact MX O|exact Oy O)) ?_;refine NC O O$ LX$ An O$ py$ LV$ M0 O$ LW O$ MT O O$ M4 O ?_;exact(ih (L.length+1) w6 ⟨Db,IN,.inr ⟨rfl,xS⟩⟩ (by omega)).qb
     ·refine qV ((by first|exact MX O|exact Oy O)) ?_;refine NC O O$ LX$ M9 O$ LZ Tryz.func77 O ?_;exact⟨_,rfl,rfl,xS⟩
  ·rcases g9 with⟨-,h,-⟩|⟨-,xS⟩
   ·omega
   ·refine M6 O$ Nq Tryz.func77 O ?_;exact⟨_,rfl,rfl,xS⟩
theorem UB (w:World)(m:Nat):Mw Tryz.prog 41 [ptr m 0] w λv w'=>∃bm,v= .func (.func 77) #[] #[ptr bm 0]/\M7 w' bm [ptr m 0] 48/\w.heap.size<=bm/\Ext w w':=by
 refine It (e:=[(0,_)]) Tryz.func41 O Tryz.ntmps41 O O$ qN O$ M5 O O (O2 O (cs:=[ptr m 0]) O) ?_
 rintro _ w1 ⟨bm,rfl,kD,ad,aj⟩
 refine Me O$ qM O$ qV (Zm (first:=[]) (caps:=[.tmp 1]) O O)$ M4 O$ LZ Tryz.func41 O ?_
 exact⟨_,rfl,bm,rfl,aj,by omega,ad⟩
theorem z2s (h:TW w m gi L)(hp:Pre L a)(ha:a<L.length):Mw Tryz.prog 14 [ptr m 0] w λv w'=>v=I ((L.length-a:Nat):Int)/\Ext w w':=by
 have hn:=h.n
 refine It (e:=[(0,_)]) Tryz.func14 O Tryz.ntmps14 O O$ qN O$ Me O$ qM O$ M5 O O (Oo (cs:=[_]) MV O) ?_
 rintro _ w1 ⟨b3,rfl,ek,ad,ar⟩
 refine Mb O (NT MV O O O ar (by simp)) ?_
 rintro w2 ⟨cV,ao⟩
 replace cV:M7 w2 b3 [I 0] 3:=cV
 have af:Ext w w2:=ad.LS ao (λj e=>by omega)
 refine LX$ run_seq$ qN O$ LW O$ qV (z1H Yn O O)$ LX$ M9 O$ qN O$ LW O$ Mn zdm O (UB w2 m) ?_
 rintro _ w3 ⟨bm,rfl,kD,ll,ai⟩
 have db:=af.trans ai
 have dl:=ai.LY cV
 have kX:=h.ext db
 have l3:=dl.lt
 have l32:=cV.lt
 have lm:=kD.lt
 have lmm:=h.ltm
 have lmg:=h.ltg
 have z1:=ad.size
 refine LX$ LU$ Qk (ps:=[9]) (p:=[]) (q:=[_]) O zbZ ?_
 rintro l wl dz fd cG hD Rc dM eW
 have Dc:=z7D dM eW
 have zl:=dz.size
 refine Mw.mono (UI (kX.ext dz) hp ha (dz.LY kD)
  (λw'=>Rc .ready none w'/\M7 w' b3 [I ((L.length-a:Nat):Int)] 3/\Kp (λk=>k=l\/k=b3) wl w')
  (λw w' h hx=>⟨hx.kp.rc (S:=λ_=>False) dM h.1 id,hx.LY h.2.1,h.2.2.trans hx.kp⟩) ?_) ?_
 ·intro w4 ay;have iJ:=Kp.rc (S:=λ_=>False) ay dM eW id;have dg:=ay.LY (dz.LY dl);have z4:=ay.size;refine Rz dM iJ O O$ M0 O$ M5 O O (Oo (cs:=[_,_]) NO O) ?_;rintro _ w5 ⟨b4,rfl,f9,aW,aH⟩;refine Mb O (MO (news:=[I (a:Int),I ((L.length-a:Nat):Int)]) NO O O O O aH (by simp)) ?_;rintro w6 ⟨bV,aR⟩;replace bV:M7 w6 b4 [I (a:Int),I ((L.length-a:Nat):Int)] 108:=bV;have cP:Ext w4 w6:=aW.LS aR (λj e=>by omega);have IP:=Kp.rc (S:=λ_=>False) cP dM iJ id;have z46:=cP.size;have l4:=bV.lt;refine LX$ run_beginRound O dM IP ?_;rintro w7 h7 aD;have lz:=aD.LY (cP.LY dg) (by omega);have bu:=aD.LY bV (by omega);refine LU$ M0 O$ qV ((by first|exact M1 U3 O O lz O|exact M1 U3 O O bu O)) ?_;refine Ma NQ O$ qV ((by first|exact M1 U3 O O lz O|exact M1 U3 O O bu O)) ?_;refine MT O O ?_;rw[show(0:Int)+((L.length-a:Nat):Int)=((L.length-a:Nat):Int) by omega];refine Mb O (NT MV O O O lz (by simp)) ?_;rintro w8 ⟨mG,bz⟩;have h8:=Kp.rc bz dM h7 (by omega);refine LX$ LV$ S8 dM h8 ?_;intro w9 h9 aO;have gQ:Kp (λk=>k=l\/k=b3) w4 w9:=((cP.kp.trans (aD.Mc λk e=> .inl e)).trans (bz.Mc λk e=> .inr e)).trans (aO.Mc λk e=> .inl e);exact .inl ⟨rfl,⟨h9,aO.LY mG (by omega),ay.kp.trans gQ⟩,gQ.LY (ay.LY (dz.LY kD)) (by omega),((kX.ext dz).ext ay).kp gQ (by omega) (by omega)⟩
 ·rintro v wz ⟨rfl,iJ,IQ,eu⟩;refine⟨_,_,iJ,by simp,λwy iB=>?_⟩;have zz:=eu.size;have zy:=iB.size;have IR:=iB.LY IQ (by omega);have xT:=iB.heap (eu.heap hD (by omega)) (by omega);refine LV$ qN O$ qV (M1 U3 O O IR O)$ M4 O$ z6J (by simp) (UM xT) Tryz.func14 O ?_;have z3:=ai.size;have dm:Kp (λk=>k=w3.heap.size) wy (Q8 [.mk w3.heap.size] wy):=Nz wy w3.heap.size (.deferred none);have Dd:Kp (λk=>k=l\/k=b3\/k=w3.heap.size) w3 (Q8 [.mk w3.heap.size] wy):=((dz.kp.trans (eu.Mc λk e=>by omega)).trans (iB.Mc λk e=>by omega)).trans (dm.Mc λk e=>by omega);exact⟨_,rfl,rfl,db.LS Dd (λk e=>by omega)⟩
end
section
variable {w w':World}{m gi a:Nat}{L:List Bool}{S:Nat->Prop}
theorem z1N (h:TW w m gi L)(hp:Pre L a){n:Nat}(cU:1<=n)(oI:a+n<=L.length):Mw Tryz.prog 90 [ptr m 0,I (n:Int)] w λv w'=>v= .tuple #[.agg #[I (a:Int),I (n:Int)],I 0]/\TW w' m gi (NU L a n true)/\Kp (λk=>k=gi) w w':=by
 have hn:=h.n
 refine It (e:=[(0,_),(1,_)]) Tryz.func90 O Tryz.ntmps90 O O$ qN O$ M5 O O (O2 O (cs:=[ptr m 0]) O) ?_
 rintro _ w1 ⟨b2,rfl,bY,ad,am⟩
 refine M5 O O (O2 O (cs:=[I (n:Int)]) O) ?_
 rintro _ w2 ⟨b3,rfl,ek,af,ar⟩
 refine M5 O O (Oo (cs:=[_,_]) NO O) ?_
 rintro _ w3 ⟨b4,rfl,f9,ai,aH⟩
 refine M5 O O (Oo (cs:=[_]) z54 O) ?_
 rintro _ w4 ⟨b5,rfl,fE,ay,aI⟩
 have l2:=am.lt
 have l3:=ar.lt
 have l4:=aH.lt
 have l5:=aI.lt
 have z1:=ad.size
 have z2:=af.size
 have z3:=ai.size
 have z4:=ay.size
 have gG:=ay.LY (ai.LY (af.LY am))
 have dg:=ay.LY (ai.LY ar)
 have cw:=ay.LY aH
 refine LX$ run_seq$ LU$ qN O$ qV ((by first|exact M1 Yn O O gG O|exact M1 Yn O O dg O)) ?_
 refine qV (N7 Yn O O)$ M4 O$ An O$ qN O$ qV ((by first|exact M1 U3 O O gG O|exact M1 U3 O O dg O)) ?_
 refine Ni O O$ ML$ M4 O$ An O$ py$ LV$ run_seq$ qN O$ qV ((by first|exact M1 Yn O O gG O|exact M1 Yn O O dg O)) ?_
 refine Mn zdm O (UB w4 m) ?_
 rintro _ w5 ⟨bm,rfl,kD,ll,aW⟩
 have bG:=(((ad.trans af).trans ai).trans ay).trans aW
 have rl:=h.ext bG
 have lm:=kD.lt
 have lmm:=h.ltm
 have lmg:=h.ltg
 have z5:=aW.size
 refine LX$ LU$ Qk (ps:=[17]) (p:=[]) (q:=[_]) O zbZ ?_
 rintro l wl dz fd cG hD Rc dM eW
 have Dc:=z7D dM eW
 have zl:=dz.size
 have wM:=aW.trans dz
 refine Mw.mono (UI (rl.ext dz) hp (by omega) (dz.LY kD)
  (λw'=>Rc .done (some .ret) w'/\M7 w' b4 [I (a:Int),I (n:Int)] 108/\M7 w' b5 [I 0] 35/\TW w' m gi (NU L a n true)/\Kp (λk=>k=l\/k=b4\/k=b5\/k=gi) wl w')
  (λw w' h hx=>⟨hx.kp.rc (S:=λ_=>False) dM h.1 id,hx.LY h.2.1,hx.LY h.2.2.1,h.2.2.2.1.ext hx,h.2.2.2.2.trans hx.kp⟩) ?_) ?_
 ·intro w6 aJ;have iJ:=Kp.rc (S:=λ_=>False) aJ dM eW id;have z6:=aJ.size;refine Rz dM iJ O O$ M0 O$ M5 O O (Oo (cs:=[_,_]) NO O) ?_;rintro _ w7 ⟨b6,rfl,mn,ck,aS⟩;refine Mb O (MO (news:=[I (a:Int),I ((L.length-a:Nat):Int)]) NO O O O O aS (by simp)) ?_;rintro w8 ⟨iy,bz⟩;replace iy:M7 w8 b6 [I (a:Int),I ((L.length-a:Nat):Int)] 108:=iy;have ip:Ext w6 w8:=ck.LS bz (λj e=>by omega);have De:=Kp.rc (S:=λ_=>False) ip dM iJ id;have z8:=ip.size;have l6:=iy.lt;refine LX$ run_beginRound O dM De ?_;rintro w9 h9 aO;have pS:=(wM.trans aJ).trans ip;have nz:=aO.LY (pS.LY dg) (by omega);have pT:=aO.LY (pS.LY gG) (by omega);have iz:=aO.LY iy (by omega);have IS:=((((rl.ext dz).ext aJ).ext ip).kp aO (by omega) (by omega));refine LU$ qN O$ Ma NQ O$ qV ((by first|exact M1 U3 O O nz O|exact M1 U3 O O pT O|exact M1 U3 O O iz O)) ?_;refine qV ((by first|exact M1 U3 O O nz O|exact M1 U3 O O pT O|exact M1 U3 O O iz O)) ?_;refine PD O O$ O4$ LX$ M9 O$ qN O$ qV ((by first|exact M1 U3 O O nz O|exact M1 U3 O O pT O|exact M1 U3 O O iz O)) ?_;refine Ma NQ O$ Mb O (NT MV O O O iz (by simp)) ?_;rintro w10 ⟨gZ,aq⟩;replace gZ:M7 w10 b6 [I (a:Int),I (n:Int)] 108:=gZ;have xU:=aq.LY pT (by omega);have Df:=IS.kp aq (by omega) (by omega);have eI:=Kp.rc aq dM h9 (by omega);refine qM O$ qV (M1 Yn O O xU O)$ qV (Mv (news:=[I (a:Int),I (n:Int)]) SO O NO O (M7.cells (n:=2) gZ O) O)$ Mn zao O (YJ Df a n true oI) ?_;rintro _ w11 ⟨rfl,Dg,bC⟩;have xV:=bC.LY gZ (by omega);have xW:=bC.LY (aq.LY (aO.LY (pS.LY cw) (by omega)) (by omega)) (by omega);have xX:=bC.LY (aq.LY (aO.LY (pS.LY aI) (by omega)) (by omega)) (by omega);have oQ:=Kp.rc bC dM eI (by omega);refine LX$ Mz.qb (e:=[(4,_),(5,_),(6,_)]) ?_;refine qN O$ qV (Mv (news:=[I (a:Int),I (n:Int)]) SO O NO O (M7.cells (n:=2) xV O) O)$ Mb O (MO (news:=[I (a:Int),I (n:Int)]) NO O O O O xW (by simp)) ?_;rintro w12 ⟨xY,aY⟩;refine Mb O (NT z54 O O O (aY.LY xX (by omega)) (by simp)) ?_;rintro w13 ⟨xZ,df⟩;have Dh:=Kp.rc df dM (Kp.rc aY dM oQ (by omega)) (by omega);refine LX ?_
  -- AT: Code.ret
  refine Vc dM Dh ?_;intro w14 IT pU
  exact .inr ⟨rfl,IT,pU.LY (df.LY xY (by omega)) (by omega),pU.LY xZ (by omega),((Dg.kp aY (by omega) (by omega)).kp df (by omega) (by omega)).kp pU (by omega) (by omega),
   (((((((aJ.kp.trans ip.kp).trans (aO.Mc λk e=>by omega)).LS aq (λk e=>by omega)).trans (bC.Mc λk e=>by omega)).trans (aY.Mc λk e=>by omega)).trans (df.Mc λk e=>by omega)).trans (pU.Mc λk e=>by omega))⟩
 ·rintro v wz ⟨rfl,iJ,Di,Dj,IU,eu⟩;refine⟨_,_,iJ,by simp,λwy iB=>?_⟩;have zz:=eu.size;have zy:=iB.size;have Dk:=iB.LY Di (by omega);have Dl:=iB.LY Dj (by omega);have xT:=iB.heap (eu.heap hD (by omega)) (by omega);have dm:=Nz wy w5.heap.size (.deferred none);have IV:=dm.LY Dk (by omega);have IW:=dm.LY Dl (by omega);refine Tk (by simp) (UM xT) Tryz.func90 (.cell SO O NO O (M7.cells (n:=2) IV (news:=[_,_]) O) O (.cell1 U35 O O ((IW).cell _) .nil)) ?_;have Dm:Kp (λk=>k=gi) w (Q8 [.mk w5.heap.size] wy):=((((bG.kp.trans dz.kp).LS eu (λk e=>by omega)).LS iB (λk e=>by omega)).LS dm (λk e=>by omega));exact⟨_,rfl,rfl,(IU.kp iB (by omega) (by omega)).kp dm (by omega) (by omega),Dm⟩
end
end Go.Proofs.YtfgjaafcgghnoaaGreatDoor
