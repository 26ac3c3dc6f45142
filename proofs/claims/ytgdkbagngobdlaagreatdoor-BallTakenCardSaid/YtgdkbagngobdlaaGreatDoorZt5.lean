/- Merged by program. -/
import Derived.Test.YtgdkbagngobdlaaGreatDoorZt4
import Derived.WideLaws
set_option linter.all false
set_option maxRecDepth 1000000
set_option maxHeartbeats 16000000
namespace Go.Proofs.YtgdkbagngobdlaaGreatDoor
open Go Go.RowKit Go.Proofs.Tryz
structure PHd where
 n:Nat
 m:Nat
 p:Qr
 bits:Nat
def hdC (h:PHd):List Value:=[I (h.n:Int),I (h.m:Int),I (h.p.Pb:Int),I (h.p.chain:Int),I (h.p.interval:Int),I (h.p.zeta:Int),I (h.p.most:Int),I (h.bits:Int)]
abbrev hdV (h:PHd):Value:= .agg (hdC h).toArray
structure PHd.QA (h:PHd):Prop where
 n1:1<=h.n
 n2:h.n<=65536
 m:h.m<=1048576
 bits:h.bits<=134217728
 p:h.p.QA
def Za (h:PHd):List (Nat×Nat):=[(h.n,32),(h.m,32),(h.p.Pb,8),(h.p.chain,8),(h.p.interval,8),(h.p.zeta,8),(h.p.most,32),(h.bits,64)]
def Rs (l:List (Nat×Nat)):List Bool:=l.flatMap λq=>Pc q.2 q.1
def z8y:OG:=[119,116,108,49]
def hdT (h:PHd):OG:=z8y++Ph (Rs (Za h))
theorem UK (h:PHd):(Rs (Za h)).length=192:=by
 simp[Rs,Za]
theorem WK (h:PHd):(hdT h).length=28:=by
 unfold hdT
 rw[List.length_append,PD,UK];rfl
def XW (h:PHd)(hh:h.QA)(w:World):Pm prog 135 [hdV h] w λu w'=>u=I 0/\Ext w w':=by
 obtain⟨g1,g2,g3,g4,g5⟩:=hh
 refine py (e:=[(0,_)]) func135 O ntmps135 O O$ qN O$ OM O O (Rm O (cs:=hdC h) O) ?_
 rintro _ w1 ⟨b1,rfl,bU,ad,aj⟩
 replace aj:OR w1 b1 [I (h.n:Int),I (h.m:Int),I (h.p.Pb:Int),I (h.p.chain:Int),I (h.p.interval:Int),I (h.p.zeta:Int),I (h.p.most:Int),I (h.bits:Int)] 160:=aj
 refine OU O$ Qx$ It$ qN O$ OX Uj O$ qV (OO U3 O O aj O)$ Qq O$ PF$ OK O$ OX Uj O$ qV (OO U3 O O aj O)$ Qu O$ PF$ PK O ?_
 refine OU O$ OJ O$ qN O$ OX z3o O$ qV (OO U3 O O aj O)$ Qq O$ PF$ OK O$ OX z3o O$ qV (OO U3 O O aj O)$ Qu O$ PF$ PK O$ OU O ?_
 refine OJ O$ qN O$ OX UT O$ qV (OO U3 O O aj O)$ Qq O$ PF$ OK O$ OX UT O$ qV (OO U3 O O aj O)$ Qu O$ PF$ PK O$ OU O$ Pn.qb (e:=[(1,_),(2,_),(3,_)]) ?_
 refine OJ O$ OL O$ OX Uj O$ qV (OO U3 O O aj O)$ Ri O$ PF$ OK O$ QG$ QG$ QG$ PK O$ OU O$ Tu O$ OA ?_
 refine qN O$ OX Yj O$ qV (Pt (news:=Vn h.p) U94 O RK O (aj.cells (i:=2) (n:=5) O) O)$ P4 zed O (z05 h.p g5 _) ?_
 rintro _ w2 ⟨rfl,ae⟩
 refine OU O$ OB func135 O ?_
 exact⟨_,rfl,rfl,ad.trans ae⟩
def zaB (h:PHd)(hh:h.QA)(w:World):Pm prog 98 [hdV h] w λu w'=>u= .tuple #[S (hdT h),I 0]/\Ext w w':=by
 obtain⟨g1,g2,g3,g4,g5⟩:=id hh
 obtain⟨q1,q2,q3⟩:=id g5
 obtain⟨r1,r2,r3,r4⟩:=id q1
 have r1':h.p.Pb<=16:=r1
 have r2':h.p.interval<=64:=by
  have:h.p.interval=0\/2<=h.p.interval/\h.p.interval<=64:=r2;omega
 have r4':h.p.zeta<=16:=r4
 refine py (e:=[(0,_)]) func98 O ntmps98 O O$ qN O$ OM O O (Rm O (cs:=hdC h) O) ?_
 rintro _ w1 ⟨b1,rfl,bU,ad,aj⟩
 replace aj:OR w1 b1 [I (h.n:Int),I (h.m:Int),I (h.p.Pb:Int),I (h.p.chain:Int),I (h.p.interval:Int),I (h.p.zeta:Int),I (h.p.most:Int),I (h.bits:Int)] 160:=aj
 refine PU O$ It$ qN O$ qV (Pt (news:=hdC h) z6v O U7 O (aj.cells (n:=8) O) O)$ P4 zcI O (XW h hh _) ?_
 rintro _ w2 ⟨rfl,ae⟩
 refine Qt O$ Qf O$ PW O$ qN O$ P4 z1e O (UF w2) ?_
 rintro _ w3 ⟨wp,F,rfl,kr,ai,pO⟩
 have aO:=ae.trans ai
 have eM:=aO.OC aj
 refine Qw O$ OX Yj O$ qV (Pt (news:=Vn h.p) U94 O RK O (eM.cells (i:=2) (n:=5) O) O)$ OM O O (RN (cs:=[_,_,_,_,_]) RK O) ?_
 rintro _ w4 ⟨b6,rfl,jQ,aD,aQ⟩
 refine OW O (PO (news:=Vn h.p) RK O O O O aQ (by simp)) ?_
 rintro w5 ⟨fQ,ak⟩
 replace fQ:OR w5 b6 [I (h.p.Pb:Int),I (h.p.chain:Int),I (h.p.interval:Int),I (h.p.zeta:Int),I (h.p.most:Int)] 94:=fQ
 have bV:Ext w3 w5:=aD.An ak (λi e=>by omega)
 have gC:=bV.OC eM
 refine OD$ It$ qN O$ OX Uj O$ qV ((OO U3 O O gC O))$ qV (Sk (cs:=[_,_]) Vu O ZU O O)$ OX z3o O$ qV ((OO U3 O O gC O))$ qV (Sk (cs:=[_,_]) Vu O ZU O O)$ OX z0T O$ qV ((OO U3 O O fQ O))$ qV (Sk (cs:=[_,_]) Vu O ZU O O)$ OX Zm O$ qV ((OO U3 O O fQ O)) ?_
 refine qV (Sk (cs:=[_,_]) Vu O ZU O O)$ OX zcP O$ qV ((OO U3 O O fQ O))$ qV (Sk (cs:=[_,_]) Vu O ZU O O)$ OX zbd O$ qV ((OO U3 O O fQ O))$ qV (Sk (cs:=[_,_]) Vu O ZU O O)$ OX TM O$ qV ((OO U3 O O fQ O))$ qV (Sk (cs:=[_,_]) Vu O ZU O O)$ OX UT O$ qV ((OO U3 O O gC O))$ qV (Sk (cs:=[_,_]) Vu O ZU O O)$ OM O O (Wj (cs:=[_,_,_,_,_,_,_,_,_,_,_,_,_,_,_,_]) (zs:=[Value.int .i64 0,Value.int .i64 0,Value.int .i64 0,Value.int .i64 0,Value.int .i64 0,Value.int .i64 0,Value.int .i64 0,Value.int .i64 0,Value.int .i64 0,Value.int .i64 0,Value.int .i64 0,Value.int .i64 0,Value.int .i64 0,Value.int .i64 0,Value.int .i64 0,Value.int .i64 0]) zg3 Vu O (by kernel_rfl) O O O (by decide)) ?_
 rintro _ w6 ⟨b43,rfl,⟨CI,aI,dT⟩,ni⟩
 have xT:=bV.trans aI
 have iq:=kr.ext xT
 have z3:=ai.size
 have hL:(Za h).length=8:=rfl
 replace ni:Sl w6 (.slice (some ⟨b43,0,none⟩) 8 8) 229 2 8 ((Za h).flatMap λq=>[I (q.1:Int),I (q.2:Int)]):=ni
 refine Rv zg3 O$ OK O$ OD$ Pn.qb (e:=[(2,_),(3,_),(5,_),(43,_),(44,_),(45,_)]) ?_
 refine OH$ Rq (α:=Nat) (0) (λi=>[(5,ptr wp 0),(43,.slice (some ⟨b43,0,none⟩) 8 8),(44,I 8),(45,I (i:Int))]) (λi w'=>WrR wp F w6 w' (Rs ((Za h).take i))/\i<=8) (λi=>8-i) ?hI ?hround
 case hI=>exact⟨⟨F,iq,Kp.refl _ _,λk hk=> .inl hk⟩,Nat.zero_le _⟩
 case hround=>
  rintro i w7 ⟨⟨F7,oE,aC,lO⟩,hi⟩ ih
  try dsimp only
  refine qN O$ Qq O$ OD$ It$ OQ O (λh0=>?_)$ λh0=>?_
  ·obtain⟨⟨v,c⟩,hq⟩:∃q,(Za h)[i]? =some q:=⟨_,List.getElem?_eq_getElem (by rw[hL];omega)⟩
   have Bb:v<2^c/\c<=64/\v<=134217728:=by
    have hm:=List.mem_of_getElem? hq;simp only[Za,List.mem_cons,List.not_mem_nil,or_false,Prod.mk.injEq] at hm;rcases hm with⟨rfl,rfl⟩|⟨rfl,rfl⟩|⟨rfl,rfl⟩|⟨rfl,rfl⟩|⟨rfl,rfl⟩|⟨rfl,rfl⟩|⟨rfl,rfl⟩|⟨rfl,rfl⟩<;>refine⟨by omega,by omega,by omega⟩
   have fD:(Rs ((Za h).take i)).length+c<=192:=by
    have e:Rs ((Za h).take (i+1))=Rs ((Za h).take i)++Pc c v:=by rw[PQ hq];simp[Rs]
    have e2:=congrArg List.length e;rw[List.length_append,bitsN_length] at e2
    have e3:(Rs (Za h)).length=(Rs ((Za h).take (i+1))).length+(Rs ((Za h).drop (i+1))).length:=by
     conv=>lhs;rw[<-List.take_append_drop (i+1) (Za h)]
     unfold Rs;rw[List.flatMap_append,List.length_append]
    have e4:=UK h;omega
   have gP:=ni.kp aC (λg hg e=>by have e1:b43=g:=QU hg;have:=iq.lt e;have:=kr.lt e;have:=bV.size;omega);have kq:=z1y (f:=λq:Nat×Nat=>[I (q.1:Int),I (q.2:Int)]) (λ_=>rfl) gP.rd hq;refine OE$ Qx$ qN O$ qV (PX zg3 Vu O O (by omega))$ qV (Pt (news:=[I (v:Int),I (c:Int)]) zlC O Vu O kq O)$ OM O O (RN (cs:=[_,_]) Vu O) ?_;rintro _ w8 ⟨b8,rfl,gV,dy,ce⟩;refine OW O (PO (news:=[I (v:Int),I (c:Int)]) Vu O O O O ce (by simp)) ?_;rintro w9 ⟨pZ,aM⟩;replace pZ:OR w9 b8 [I (v:Int),I (c:Int)] 229:=pZ;have iJ:Ext w7 w9:=dy.An aM (λi e=>by omega);refine OD$ Rh O$ OX zcV O$ qV (OO U3 O O pZ O)$ qV ((PZ O U3 Rr (by omega)))$ OX zcQ O$ qV (OO U3 O O pZ O)$ P4 WI O (Sm (oE.ext iJ) v c Bb.2.1 Bb.1 (by omega)) ?_;rintro _ w10 ⟨rfl,F10,DU,ar,bc⟩;refine OD$ OA$ OL O$ PV O$ OK O$ OD ((ih (i+1) _ ⟨⟨F10,?_,(aC.trans iJ.kp).An ar (λk hk=>(lO k hk).symm),λk hk=>?_⟩,by omega⟩ (by omega)).qb)
   ·rw[PQ hq,show Rs ((Za h).take i++[(v,c)])=Rs ((Za h).take i)++Pc c v by simp[Rs]];exact DU
   ·rcases bc k hk with e| e
    ·exact lO k e
    ·have:=aC.size;have:=iJ.size;exact .inr (by omega)
  ·have bQ:i=8:=by omega
   subst bQ;rw[show(Za h).take 8=Za h from rfl] at oE;refine ON O$ Pf O$ P4 z81 O (Xf oE) ?_;rintro _ w8 ⟨rfl,rfl⟩;have fL:(Ph (Rs (Za h))).length=24:=by rw[PD,UK]
   refine OK O$ RA O$ RT O$ Qt O$ qV (V7 O O (by first|omega|(simp;done)|(simp;omega))) ?_;refine OK O$ PU O$ OB func98 O (⟨_,rfl,?_,((ad.trans aO).trans xT).An aC (λk hk=>by have:=pO k hk;have:=ae.size;have:=ad.size;omega)⟩);simp[Qc,hdT,z8y]
def z6A {w:World}{ga:Option Addr}{gc:Nat}{g:List (List Nat)}(h:GrM w (.slice ga g.length gc) g)(hg:Se g):Pm prog 97 [.slice ga g.length gc] w λu w'=>u=I (Qy g:Int)/\w'=w:=by
 have hn:=hg.n
 obtain⟨vs,eU,jX⟩:=h.ex
 refine py (e:=[(0,_)]) func97 O ntmps97 O O$ qN O$ Qw O$ OU O$ PG O$ Rv WR O$ OK O$ OD$ OH$ Rq (α:=Nat) (0) (λi=>[(3,I (Qy (g.take i):Int)),(6,.slice ga g.length gc),(7,I (g.length:Int)),(8,I (i:Int))]) (λi w'=>w'=w/\i<=g.length) (λi=>g.length-i) ?hI ?hround
 case hI=>exact⟨rfl,Nat.zero_le _⟩
 case hround=>
  rintro i w4 ⟨rfl,hi⟩ ih;have oR:=U8 hg i
  try dsimp only
  refine qN O$ Qq O$ OD$ It$ OQ O (λh0=>?_)$ λh0=>?_
  ·obtain⟨l,hl⟩:∃l,g[i]? =some l:=⟨_,List.getElem?_eq_getElem (by omega)⟩;have fS:=hg.len (List.mem_of_getElem? hl);obtain⟨a,c,e1,e2,e3⟩:=jX i l hl
   obtain⟨gb,go,gc',e4⟩:∃b o c',Value.slice ga g.length gc= .slice (some ⟨b,o,none⟩) g.length c':=by
    rcases eU.2 with⟨c,hc,h0⟩|⟨b,off,c',hc,-⟩
    ·omega
    ·exact⟨b,off,c',hc⟩
   cases e4;have vK:=Y7 (g.take i) l;rw[<-PQ hl] at vK;refine OE$ Qx$ qN O$ qV (PX WR SO O O (by omega))$ qV (Pr Ps O O (Qo eU e1))$ OU O$ OL O$ P8 O$ Rv Ps O$ PV O$ OU O$ OA$ OL O$ PV O ?_;refine OK O$ OD ?_;rw[show(Qy (g.take i):Int)+(l.length:Int)=(Qy (g.take (i+1)):Int) by omega];exact(ih (i+1) _ ⟨rfl,by omega⟩ (by omega)).qb
  ·have bQ:i=g.length:=by omega
   subst bQ;rw[List.take_length];refine ON O$ Pf O$ OU O$ OB func97 O ?_;exact⟨_,rfl,rfl,rfl⟩
def WO (p:Qr)(g:List (List Nat))(E:List (Nat×Nat)):∀(d i:Nat),(QD p g E i).length<=(QD p g E (i+d)).length
 |0,i=>Nat.le_refl _
 | d + 1, i => by
   have h:=WO p g E d i;rw[<-Nat.add_assoc,Tb,List.length_append];omega
def z8u (p:Qr)(g:List (List Nat))(E:List (Nat×Nat))(n:Nat):Nof (Wn p g E n):=by
 unfold Wn Nof
 rw[List.pairwise_map]
 refine List.pairwise_lt_range.imp fun {i j} gU=>?_
 have:=WO p g E (j-i) i
 rwa [show i+(j-i)=j by omega] at this
def z0G (p:Qr)(g:List (List Nat))(E:List (Nat×Nat)){n i:Nat}(h:i<=n):(Wn p g E n)[i]? =some (QD p g E i).length:=by
 unfold Wn
 rw[List.getElem?_map,List.getElem?_range (by omega)];rfl
def zfH (p:Qr)(g:List (List Nat))(E:List (Nat×Nat))(n:Nat):∀v∈Wn p g E n,v<=(QD p g E n).length:=λv hv=>by
 unfold Wn at hv
 obtain⟨j,hj,rfl⟩:=List.mem_map.1 hv
 have h1:=List.mem_range.1 hj
 have:=WO p g E (n-j) j
 rwa [show j+(n-j)=n by omega] at this
def z4d {l:List Nat}(cX:1<=l.length)(hn:l.length<=64)(mh:Nof l){z:Nat}(hz:l[l.length-1]? =some z):(YQ l (U1 l.length (z+1))).length=(U1 l.length (z+1)).size:=by
 have h1:=z1E (U1 l.length (z+1)).width mh hz
 have h2:=UL (U1 l.length (z+1)).width l
 have h3:(Sg (U1 l.length (z+1)).width l).length=32:=by
  cases l with
  |nil=>simp at cX
  |cons v l=>simp[Sg]
 have h4:(U1 l.length (z+1)).bits=z / 2^(U1 l.length (z+1)).width+l.length:=by
  show(z+1-1) / _+_=_;rw[Nat.add_sub_cancel]
  rfl
 unfold YQ Fm.size Fm.UO Fm.high
 rw[List.length_append,List.length_append,List.length_append,PD,PD,PD,PD,List.length_append,bitsN_length,bitsN_length,h1,h2,h3,h4]
 show _=12+(l.length*_+7) / 8+_+4*((l.length+63) / 64)
 have h5:(l.length+63) / 64=1:=by omega
 rw[h5]
def XY (p:Qr)(g:List (List Nat))(E:List (Nat×Nat)):OG:=
 hdT ⟨g.length,Qy g,p,(QD p g E g.length).length⟩++Ph (QD p g E g.length)++YQ (Wn p g E g.length) (U1 (g.length+1) ((QD p g E g.length).length+1))
structure zbZ (p:Qr)(g:List (List Nat))(E:List (Nat×Nat)):Prop where
 el:E.length=g.length
 ok:zfh p g E
 bits:(QD p g E g.length).length<=2688000
def z7h {w:World}{p:Qr}(hp:p.QA){g:List (List Nat)}(hg:Se g)(aG:1<=g.length){ga:Option Addr}{gc:Nat}(lu:GrM w (.slice ga g.length gc) g)(hG:OR w 2 (Sy .gamma) 317)(hU:OR w 3 (Sy .unary) 317):
  Pm prog 64 [.slice ga g.length gc,bpV p] w λu w'=>∃E,zbZ p g E/\u= .tuple #[S (XY p g E),I 0]/\Ext w w':=by
 have hn:=hg.n
 have tN:=U8 hg g.length
 rw[List.take_length] at tN
 refine py (e:=[(0,_),(1,_)]) func64 O ntmps64 O O$ qN O$ OM O O (Rm O (cs:=Vn p) O) ?_
 rintro _ w1 ⟨b3,rfl,eG,ad,au⟩
 refine RT O$ Qt O$ qV (Pt (news:=Vn p) U94 O RK O (au.cells (n:=5) O) O)$ P4 zl5 O (zab hp hg (lu.ext ad) (ad.OC hG) (ad.OC hU)) ?_
 rintro _ w2 ⟨E,v,rfl,rB,KW,xC,cH,oD,ae⟩
 have aJ:=ad.trans ae
 have aa:=Ext.OT w2
 obtain⟨va,vc,rfl,-⟩:=cH.rd.shape
 have xU:=z8u p g E g.length
 have j7:=zfH p g E g.length
 have az:=z3p p g E g.length
 have rF:=z0G p g E (Nat.le_refl g.length)
 obtain⟨vb,vc2,e5⟩:∃b c,Value.slice va (g.length+1) vc= .slice (some ⟨b,0,none⟩) (g.length+1) c:=by
  rcases cH.shape with⟨-,h0⟩|⟨b,c,e,hc⟩
  ·omega
  ·exact⟨b,c,e⟩
 cases e5
 refine OK O$ qV (Rw (v:=S (Ph (QD p g E g.length))) O O)$ qV (Rw (v:= .slice (some ⟨vb,0,none⟩) (g.length+1) vc) O O)$ qV (Rw (v:=I 0) O O)$ RT O$ PU O$ PG O$ Qf O$ PW O$ It ?_
 have KX:PHd.QA ⟨g.length,Qy g,p,(QD p g E g.length).length⟩:=⟨aG,(by show g.length<=_;omega),(by show Qy g<=_;omega),(by show(QD p g E g.length).length<=_;omega),hp⟩
 refine R5 (λw'=>Ext w2 w') O$ OZ 0 O O (aa)$ OI 1 O (SF WR O) aa$ OZ 2 O O (aa)$ OZ 5 O O (aa)$ OZ 6 O O (aa)$ OI 7 O (SF WR O) aa$ OI 8 O (PX U70 Tf O O (by omega)) aa$ qT 4 O (λ_ hS=>Pt (news:=Vn p) U94 O RK O ((hS.OC (ae.OC au)).cells (n:=5) O) O) aa$ qT 9 O (λ_ hS=>Pr Rr O O (Qo (cH.ext hS).rd (show((Wn p g E g.length).map u64v)[g.length]? =some (u64v (QD p g E g.length).length) by rw[List.getElem?_map,rF];rfl))) aa ?_
 refine OI 10 O (PJ O Rr U3 (by omega)) aa$ SK 3 O zl1 O (z6A ((lu.ext aJ).ext aa) hg) ?_
 rintro _ w3 ⟨rfl,rfl⟩
 refine⟨aa,?_⟩
 refine OI 11 O (Sk (cs:=[_,_,_,_,_,_,_,_]) U7 O zfu O O) aa$ SK 12 O zlj O (zaB ⟨g.length,Qy g,p,(QD p g E g.length).length⟩ KX _) ?_
 rintro _ w3 ⟨rfl,ai⟩
 refine⟨aa.trans ai,?_⟩
 have dE:=aa.trans ai
 refine OZ 13 O O (aa.trans ai)$ qT 14 O (λ_ hS=>Rw (v:=S (hdT ⟨g.length,Qy g,p,(QD p g E g.length).length⟩)) O O) (aa.trans ai)$ OI 16 O (R7 O) (aa.trans ai)$ OI 15 O (Rw (v:=I 0) O O) (aa.trans ai)$ OI 17 O (R7 O) (aa.trans ai)$ qE$ Pn.qb (e:=[(4,_),(5,_),(6,_),(7,_),(8,_),(9,_)]) ?_
 refine PG O$ Qf O ?_
 have DV:Rd w3 (.slice (some ⟨vb,0,none⟩) (Wn p g E g.length).length vc) 1 (Wn p g E g.length).length ((Wn p g E g.length).map u64v):=by rw[az];exact(cH.ext dE).rd
 have hz:(Wn p g E g.length)[(Wn p g E g.length).length-1]? =some (QD p g E g.length).length:=by rw[az];exact rF
 have Cm:=z47 (by omega) (by omega) xU (λv hv=>by have:=j7 v hv;omega) DV hz
 have oR:=z4d (by omega) (by omega) xU hz
 have KY:(U1 (Wn p g E g.length).length ((QD p g E g.length).length+1)).size<=40000000:=by
  have h1:=z3U (n:=(Wn p g E g.length).length) (u:=(QD p g E g.length).length+1) (by omega) (by omega) (by omega) (by omega);have h2:=Fm.Xg h1;obtain⟨h3,h4,h5⟩:=h1;unfold Fm.size Fm.UO;omega
 rw[az] at Cm oR KY
 have oT:=WK ⟨g.length,Qy g,p,(QD p g E g.length).length⟩
 have fL:=PD (QD p g E g.length)
 refine PW O$ Pf O$ P4 zko O (Cm) ?_
 rintro _ w4 ⟨rfl,aD⟩
 refine OK O$ qV (Rw (v:=S (YQ (Wn p g E g.length) (U1 (g.length+1) ((QD p g E g.length).length+1)))) O O)$ qV (Rw (v:=I 0) O O)$ RT O$ Qw O$ P8 O$ qV (V7 O O (by first|omega|(simp;done)|(simp;omega))) ?_
 refine OK O$ qV (V7 O O (by first|omega|(simp;done)|(simp;omega))) ?_
 refine OK O$ PU O$ OB func64 O ?_
 exact⟨_,rfl,E,⟨rB,KW,xC⟩,rfl,(aJ.trans dE).trans aD⟩
/-! ### Bytes of a word, the least first -/
def Q0:List Nat->Nat
 |[]=>0
 |b::r=>b+256*Q0 r
def Vv {s a b c d:Nat}(hb:b<2^s)(hd:d<2^s):(b+2^s*a)&&&(d+2^s*c)=(b&&&d)+2^s*(a&&&c):=by
 apply Nat.eq_of_testBit_eq
 intro j
 have xC:b&&&d<2^s:=Nat.lt_of_le_of_lt Nat.and_le_left hb
 rw[Nat.testBit_and,Nat.add_comm b,Nat.add_comm d,Nat.add_comm (b&&&d),Nat.testBit_two_pow_mul_add _ hb,Nat.testBit_two_pow_mul_add _ hd,Nat.testBit_two_pow_mul_add _ xC]
 by_cases h:j<s
 ·simp only[if_pos h,Nat.testBit_and]
 ·simp only[if_neg h,Nat.testBit_and]
theorem zdn {s a b m:Nat}(hb:b<2^s)(hm:m<2^s):(b+2^s*a)&&&m=b&&&m:=by
 have:=Vv (a:=a) (c:=0) hb hm
 simpa using this
def z1d (m:Nat)(hm:m<256):∀L:List Nat,(∀b∈L,b<256)->Q0 L&&&Q0 (List.replicate L.length m)=Q0 (L.map (·&&&m))
 |[],_=>by simp[Q0]
 | b :: r, h => by
   have ih:=z1d m hm r (λx hx=>h x (List.mem_cons_of_mem b hx));rw[List.length_cons,List.replicate_succ,Q0,Q0,List.map_cons,Q0,<-ih];exact Vv (s:=8) (h b List.mem_cons_self) hm
def z3V (s m:Nat)(hs:s<=8)(hm:m<2^(8-s)):∀L:List Nat,(∀b∈L,b<256)->Q0 L / 2^s&&&Q0 (List.replicate L.length m)=Q0 (L.map λb=>b / 2^s&&&m)
 |[],_=>by simp[Q0]
 | b :: r, h => by
   have ih:=z3V s m hs hm r (λx hx=>h x (List.mem_cons_of_mem b hx));have hb:=h b List.mem_cons_self;have e256:256=2^s*2^(8-s):=by rw[<-Nat.pow_add,show s+(8-s)=8 by omega]
   have hp:0<2^s:=Nat.two_pow_pos s;have tO:b / 2^s<2^(8-s):=by rw[Nat.div_lt_iff_lt_mul hp,Nat.mul_comm,<-e256];exact hb
   have e1:(b+256*Q0 r) / 2^s=b / 2^s+2^(8-s)*Q0 r:=by
    rw[e256,Nat.mul_assoc,Nat.add_mul_div_left _ _ hp]
   have e2:b / 2^s+2^(8-s)*Q0 r=(b / 2^s+2^(8-s)*(Q0 r%2^s))+2^8*(Q0 r / 2^s):=by
    have h1:=Nat.div_add_mod (Q0 r) (2^s);have e3:2^8=2^(8-s)*2^s:=by rw[Nat.mul_comm];exact e256
    rw[e3,Nat.mul_assoc,Nat.add_assoc,<-Nat.mul_add,Nat.add_comm (Q0 r%2^s),h1]
   have h3:b / 2^s+2^(8-s)*(Q0 r%2^s)<2^8:=by
    have h4:Q0 r%2^s+1<=2^s:=Nat.mod_lt _ hp;have h5:=Nat.mul_le_mul_left (2^(8-s)) h4;rw[Nat.mul_add,Nat.mul_one] at h5;have e3:2^8=2^(8-s)*2^s:=by rw[Nat.mul_comm];exact e256
    omega
   have jI:m<2^8:=Nat.lt_of_lt_of_le hm (Nat.pow_le_pow_right (by decide) (by omega));rw[List.length_cons,List.replicate_succ,Q0,Q0,List.map_cons,Q0,<-ih,e1,e2];have:=Vv (s:=8) (a:=Q0 r / 2^s) (c:=Q0 (List.replicate r.length m)) h3 jI;rw[show m+256*Q0 (List.replicate r.length m)=m+2^8*Q0 (List.replicate r.length m) from rfl,this,zdn tO hm]
theorem z1c (f g:Nat->Nat):∀L:List Nat,Q0 (L.map f)+Q0 (L.map g)=Q0 (L.map λb=>f b+g b)
 |[]=>rfl
 | b :: r => by
   rw[List.map_cons,List.map_cons,List.map_cons,Q0,Q0,Q0,<-z1c f g r,Nat.mul_add];omega
def z4D:∀L:List Nat,(∀c∈L,c / 16<=4/\c%16<=4)->(Q0 L / 16+Q0 L)&&&Q0 (List.replicate L.length 15)=Q0 (L.map λc=>c / 16+c%16)/\Q0 L%16<=4
 |[],_=>⟨by simp[Q0],by simp[Q0]⟩
 | c :: r, h => by
   obtain⟨ih,ih2⟩:=z4D r (λx hx=>h x (List.mem_cons_of_mem c hx));obtain⟨h1,h2⟩:=h c List.mem_cons_self;have e:(c+256*Q0 r) / 16+(c+256*Q0 r)=(c / 16+16*(Q0 r%16)+c)+2^8*(Q0 r / 16+Q0 r):=by omega
   have aZ:c / 16+16*(Q0 r%16)+c<2^8:=by omega
   have KZ:(c / 16+16*(Q0 r%16)+c)&&&15=c / 16+c%16:=by
    have:=Nat.and_two_pow_sub_one_eq_mod (c / 16+16*(Q0 r%16)+c) 4;rw[show(2:Nat)^4-1=15 from rfl,show(2:Nat)^4=16 from rfl] at this;rw[this];omega
   refine⟨?_,by rw[Q0];omega⟩;rw[List.length_cons,List.replicate_succ,Q0,Q0,List.map_cons,Q0,<-ih,e];have:=Vv (s:=8) (a:=Q0 r / 16+Q0 r) (c:=Q0 (List.replicate r.length 15)) aZ (by decide:15<2^8);rw[show 15+256*Q0 (List.replicate r.length 15)=15+2^8*Q0 (List.replicate r.length 15) from rfl,this,KZ]
def z4b:∀L:List Nat,(∀b∈L,b<256)->(Pc (8*L.length) (Q0 L)).count true=(L.map λb=>(Pc 8 b).count true).sum
 |[],_=>rfl
 | b :: r, h => by
   have ih:=z4b r (λx hx=>h x (List.mem_cons_of_mem b hx));have hb:=h b List.mem_cons_self;rw[List.length_cons,Nat.mul_add,Nat.mul_one,S5,List.count_append,Q0];have e1:(b+256*Q0 r) / 2^8=Q0 r:=by omega
   rw[List.map_cons,List.sum_cons,show(Pc 8 (b+256*Q0 r))=Pc 8 b from WD (by omega),e1,ih];omega
def s1B (b:Nat):Nat:=(b / 2&&&85)+(b&&&85)
def s2B (b:Nat):Nat:=(b / 4&&&51)+(b&&&51)
def z8R:∀b:Fin 256,s1B b<256/\s2B (s1B b)<256/\s2B (s1B b) / 16<=4/\s2B (s1B b)%16<=4/\s2B (s1B b) / 16+s2B (s1B b)%16=(Pc 8 b).count true:=by decide+kernel
def Ye {b:Nat}(h:b<256):s1B b<256/\s2B (s1B b)<256/\s2B (s1B b) / 16<=4/\s2B (s1B b)%16<=4/\s2B (s1B b) / 16+s2B (s1B b)%16=(Pc 8 b).count true:=z8R ⟨b,h⟩
def ZG (x:Nat):List Nat:=[x%256,x / 256%256,x / 65536%256,x / 16777216%256,x / 4294967296%256,x / 1099511627776%256,x / 281474976710656%256,x / 72057594037927936%256]
def z6z {x:Nat}(h:x<18446744073709551616):Q0 (ZG x)=x:=by
 simp only[ZG,Q0]
 omega
def z9j (x:Nat):∀b∈ZG x,b<256:=λb hb=>by
 simp only[ZG,List.mem_cons,List.not_mem_nil,or_false] at hb
 rcases hb with rfl|rfl|rfl|rfl|rfl|rfl|rfl|rfl<;>exact Nat.mod_lt _ (by decide)
def z5T {x:Nat}(h:x<18446744073709551616):∃D:List Nat,D.length=8/\(∀d∈D,d<=8)/\
  ((((x / 2&&&6148914691236517205)+(x&&&6148914691236517205)) / 4&&&3689348814741910323)+(((x / 2&&&6148914691236517205)+(x&&&6148914691236517205))&&&3689348814741910323)) / 16+((((x / 2&&&6148914691236517205)+(x&&&6148914691236517205)) / 4&&&3689348814741910323)+(((x / 2&&&6148914691236517205)+(x&&&6148914691236517205))&&&3689348814741910323))&&&1085102592571150095=Q0 D/\D.sum=(Pc 64 x).count true:=by
 have hv:=z6z h
 have hl:=z9j x
 have hL:(ZG x).length=8:=rfl
 generalize ZG x=L at hv hl hL
 have m0:6148914691236517205=Q0 (List.replicate L.length 85):=by rw[hL];rfl
 have m1:3689348814741910323=Q0 (List.replicate L.length 51):=by rw[hL];rfl
 have m2:1085102592571150095=Q0 (List.replicate L.length 15):=by rw[hL];rfl
 have f1:=z3V 1 85 (by decide) (by decide) L hl
 have f2:=z1d 85 (by decide) L hl
 rw[show(2:Nat)^1=2 from rfl] at f1
 have iK:∀b∈L.map s1B,b<256:=λb hb=>by
  obtain⟨y,hy,rfl⟩:=List.mem_map.1 hb;exact(Ye (hl y hy)).1
 have e1:(x / 2&&&6148914691236517205)+(x&&&6148914691236517205)=Q0 (L.map s1B):=by
  rw[m0,<-hv,f1,f2,z1c];rfl
 have f3:=z3V 2 51 (by decide) (by decide) (L.map s1B) iK
 have f4:=z1d 51 (by decide) (L.map s1B) iK
 rw[show(2:Nat)^2=4 from rfl] at f3
 rw[List.length_map] at f3 f4
 have e2:(Q0 (L.map s1B) / 4&&&3689348814741910323)+(Q0 (L.map s1B)&&&3689348814741910323)=Q0 ((L.map s1B).map s2B):=by
  rw[m1,f3,f4,z1c];rfl
 rw[e1,e2]
 have f9:∀c∈(L.map s1B).map s2B,c / 16<=4/\c%16<=4:=λc hc=>by
  obtain⟨z,hz,rfl⟩:=List.mem_map.1 hc;obtain⟨y,hy,rfl⟩:=List.mem_map.1 hz;have:=Ye (hl y hy);exact⟨this.2.2.1,this.2.2.2.1⟩
 have f5:=(z4D _ f9).1
 rw[List.length_map,List.length_map] at f5
 refine⟨((L.map s1B).map s2B).map λc=>c / 16+c%16,by rw[List.length_map,List.length_map,List.length_map];exact hL,λd hd=>?_,by rw[m2];exact f5,?_⟩
 ·obtain⟨c,hc,rfl⟩:=List.mem_map.1 hd;have:=f9 c hc;omega
 ·have tP:=z4b L hl;rw[hL,hv] at tP;rw[show 8*8=64 from rfl] at tP;rw[tP,List.map_map,List.map_map]
  congr 1
  refine List.map_congr_left λb hb=>?_;exact(Ye (hl b hb)).2.2.2.2
def zcw {D:List Nat}(h8:D.length=8)(hd:∀d∈D,d<=8):let x4:=Q0 D+Q0 D / 256;let x5:=x4+x4 / 65536;let x6:=x5+x5 / 4294967296;Q0 D<1152921504606846976/\x6%128=D.sum/\D.sum<=64:=by
 obtain⟨d0,d1,d2,d3,d4,d5,d6,d7,rfl⟩:∃d0 d1 d2 d3 d4 d5 d6 d7,D=[d0,d1,d2,d3,d4,d5,d6,d7]:=by
  match D,h8 with
  |[a,b,c,d,e,f,g,i],_=>exact⟨a,b,c,d,e,f,g,i,rfl⟩
 have k0:=hd d0 (by simp)
 have k1:=hd d1 (by simp)
 have k2:=hd d2 (by simp)
 have k3:=hd d3 (by simp)
 have k4:=hd d4 (by simp)
 have k5:=hd d5 (by simp)
 have k6:=hd d6 (by simp)
 have k7:=hd d7 (by simp)
 have h3:Q0 [d0,d1,d2,d3,d4,d5,d6,d7] / 256=Q0 [d1,d2,d3,d4,d5,d6,d7]:=by
  rw[Q0,Nat.add_mul_div_left _ _ (by decide),Nat.div_eq_of_lt (by omega),Nat.zero_add]
 have h4:Q0 [d0,d1,d2,d3,d4,d5,d6,d7]+Q0 [d1,d2,d3,d4,d5,d6,d7]=(d0+d1+256*(d1+d2))+65536*((d2+d3)+256*(d3+d4)+65536*((d4+d5)+256*(d5+d6)+65536*((d6+d7)+256*d7))):=by
  simp only[Q0];omega
 have h5:(Q0 [d0,d1,d2,d3,d4,d5,d6,d7]+Q0 [d1,d2,d3,d4,d5,d6,d7]) / 65536=(d2+d3)+256*(d3+d4)+65536*((d4+d5)+256*(d5+d6)+65536*((d6+d7)+256*d7)):=by
  rw[h4,Nat.add_mul_div_left _ _ (by decide),Nat.div_eq_of_lt (by omega),Nat.zero_add]
 dsimp only
 rw[h3,h5,h4]
 have h6:(d0+d1+256*(d1+d2))+65536*((d2+d3)+256*(d3+d4)+65536*((d4+d5)+256*(d5+d6)+65536*((d6+d7)+256*d7)))+((d2+d3)+256*(d3+d4)+65536*((d4+d5)+256*(d5+d6)+65536*((d6+d7)+256*d7)))=
   ((d0+d1+d2+d3)+256*(d1+d2+d3+d4)+65536*((d2+d3+d4+d5)+256*(d3+d4+d5+d6)))+4294967296*((d4+d5+d6+d7)+256*(d5+d6+d7)+65536*(d6+d7+256*d7)):=by omega
 rw[h6,Nat.add_mul_div_left _ _ (by decide),Nat.div_eq_of_lt (by omega),Nat.zero_add]
 refine⟨by simp only[Q0];omega,?_,by simp only[List.sum_cons,List.sum_nil];omega⟩
 simp only[List.sum_cons,List.sum_nil]
 have h7:(d0+d1+d2+d3)+256*(d1+d2+d3+d4)+65536*((d2+d3+d4+d5)+256*(d3+d4+d5+d6))+4294967296*((d4+d5+d6+d7)+256*(d5+d6+d7)+65536*(d6+d7+256*d7))+((d4+d5+d6+d7)+256*(d5+d6+d7)+65536*(d6+d7+256*d7))=
   (d0+d1+d2+d3+d4+d5+d6+d7)+128*(2*(d1+d2+d3+d4)+512*((d2+d3+d4+d5)+256*(d3+d4+d5+d6))+33554432*((d4+d5+d6+d7)+256*(d5+d6+d7)+65536*(d6+d7+256*d7))+(2*(d5+d6+d7)+512*(d6+d7+256*d7))):=by omega
 rw[h7,Nat.add_mul_mod_self_left,Nat.mod_eq_of_lt (by omega)]
 omega
def zcu (x:Nat)(hx:x<18446744073709551616)(w:World):Pm prog 264 [u64v x] w λv w'=>v=I ((Pc 64 x).count true:Int)/\w'=w:=by
 obtain⟨D,h1,h2,h3,h4⟩:=z5T hx
 obtain⟨f1,f2,f3⟩:=zcw h1 h2
 have a1:x / 2&&&6148914691236517205<=6148914691236517205:=Nat.and_le_right
 have a2:x&&&6148914691236517205<=6148914691236517205:=Nat.and_le_right
 rw[<-h4]
 refine py (e:=[(0,_)]) func264 O ntmps264 O O$ qN O$ Qt O$ qV (Sc 1 2 O O (by decide) O)$ qV (Tk O O (by omega) (by omega))$ OK O$ qV (Tk O O (by omega) (by omega))$ qV (RQ O O)$ Qw O ?_
 rw[Nat.mod_eq_of_lt (show(x / 2&&&6148914691236517205)+(x&&&6148914691236517205)<18446744073709551616 by omega)]
 generalize hy:(x / 2&&&6148914691236517205)+(x&&&6148914691236517205)=y at h3
 have nJ:y<18446744073709551616:=by omega
 have a3:y / 4&&&3689348814741910323<=3689348814741910323:=Nat.and_le_right
 have a4:y&&&3689348814741910323<=3689348814741910323:=Nat.and_le_right
 refine OK O$ qV (Sc 2 4 O O (by decide) O)$ qV (Tk O O (by omega) (by omega))$ OK O$ qV (Tk O O (by omega) (by omega))$ qV (RQ O O)$ Qw O ?_
 rw[Nat.mod_eq_of_lt (show(y / 4&&&3689348814741910323)+(y&&&3689348814741910323)<18446744073709551616 by omega)]
 generalize hz:(y / 4&&&3689348814741910323)+(y&&&3689348814741910323)=z at h3
 have mz:z<=7378697629483820646:=by omega
 refine OK O$ qV (Sc 4 16 O O (by decide) O)$ OK O$ qV (RQ O O) ?_
 rw[Nat.mod_eq_of_lt (show z / 16+z<18446744073709551616 by omega)]
 refine qV (Tk O O (by omega) (by omega))$ Qw O ?_
 rw[h3]
 generalize Q0 D=x3 at f1 f2
 refine P8 O$ qV (Sc 8 256 O O (by decide) O)$ qV (RQ O O)$ Qw O ?_
 rw[Nat.mod_eq_of_lt (show x3+x3 / 256<18446744073709551616 by omega)]
 generalize aD:x3+x3 / 256=x4 at f2
 have xV:x4<=1157495777000000000:=by omega
 refine P8 O$ qV (Sc 16 65536 O O (by decide) O)$ qV (RQ O O)$ OU O$ Pn.qb (e:=[(0,_),(2,_)]) ?_
 refine qN O ?_
 rw[Nat.mod_eq_of_lt (show x4+x4 / 65536<18446744073709551616 by omega)]
 generalize aT:x4+x4 / 65536=x5 at f2
 have L3:x5<=1160000000000000000:=by omega
 refine P8 O$ qV (Sc 32 4294967296 O O (by decide) O)$ qV (RQ O O)$ Qw O ?_
 rw[Nat.mod_eq_of_lt (show x5+x5 / 4294967296<18446744073709551616 by omega)]
 generalize aI:x5+x5 / 4294967296=x6 at f2
 have L4:x6<=1170000000000000000:=by omega
 refine OK O$ qV (PJ O Rr U3 (by omega))$ qV (XJ O O (by omega) (by omega)) ?_
 rw[show x6&&&127=D.sum by rw[<-f2];exact Nat.and_two_pow_sub_one_eq_mod x6 7]
 refine OU O$ OB func264 O ?_
 exact⟨_,rfl,rfl,rfl⟩
def z90 {x:Nat}(hx:x<18446744073709551616):PR x<=64:=R9 (by omega)
def z60 (x:Nat)(hx:x<18446744073709551616)(w:World):Pm prog 120 [u64v x] w λv w'=>v=I ((64-PR x:Nat):Int)/\w'=w:=by
 have sx:=z90 hx
 refine py (e:=[(0,_)]) func120 O ntmps120 O O$ qN O$ Qt O$ P4 z35 O (Us x hx w) ?_
 rintro _ w ⟨rfl,rfl⟩
 refine Ro O ?_
 rw[show(64:Int)-(PR x:Int)=((64-PR x:Nat):Int) by omega]
 refine OU O$ OB func120 O ?_
 exact⟨_,rfl,rfl,rfl⟩
def methT (P:Program)(t:TypeId)(name:String):Option FuncId:=match P.info? t with
 | some i => match i.methods.toList.find? (·.name == name) with
   | some m => match m.path.toList, m.func with
     | [], some (f, pr) => match P.underlying t with
       |some (.pointer _)=>cond pr (some f) none
       |some _=>cond pr none (some f)
       |none=>none
     |_,_=>none
   |none=>none
 |none=>none
section
variable {P:Program}{e:Env}{d:Option Nat}{ty t t':TypeId}{pos:String}{aft:Array Edge}{g:Option (Nat×Bool)}{x y:Operand}{w:World}{m n:Nat}
theorem TR {i:TypeInfo}(h:P.info? t=some i):(typeInfo t).run P w= .ok i w:=by simp[typeInfo,program,Sem.run,h]
theorem zao {f:FuncId}{name:String}{u:Value}(h:methT P t name=some f)(n:Nat):(method (n+1) t u name).run P w= .ok (f,u) w:=by
 unfold methT at h
 split at h<;>try cases h
 rename_i i hi
 split at h<;>try cases h
 rename_i m hm
 split at h<;>try cases h
 rename_i f' pr jh ji
 have ny:i.methods.find? (·.name==name)=some m:=by rw[<-hm,Array.find?_toList]
 split at h<;>try cases h
 ·rename_i el hu
  cases pr<;>simp at h;subst h;simp[method,TR hi,ny,jh,follow,ji,receiverAt,run_underlying hu,Place.get]
 ·rename_i td Ij hu
  cases pr<;>simp at h;subst h;unfold method;simp only[Sem.run_bind,TR hi,Result.andThen_ok,ny,jh,follow,Sem.run_pure,ji,receiverAt,run_underlying hu,Place.get]
def yci {f:FuncId}{nm:String}{args:List Operand}{ts:Array TypeId}{vs:List Value}{u:Value}(hf:CF P f)(hm:methT P t nm=some f)(hx:look e x=some (.iface t u))(ha:looks e args=some vs):
  Yc P e ⟨d,.call ⟨.invoke x nm,args.toArray,ts⟩,ty,pos,aft,g⟩ f (u::vs) w:=fun ρ hρ=>by
 have Bl:=λw=>zao (P:=P) (w:=w) (u:=u) hm (P.types.size+(Made.depth-1))
 rw[show P.types.size+(Made.depth-1)+1=P.types.size+Made.depth from rfl] at Bl
 have sX:(program).run P w= .ok P w:=rfl
 have ny:=TK hρ _ _ ha
 have h0:=hρ _ _ hx
 simp[execOp,resolve,ny,h0,Deferred.ofValue,invoke,callMethod,sX,Bl,Tr hf]
def zfZ (hx:look e x=some (I (m:Int)))(hy:look e y=some (I 7))(hm:m<2^62):Y P e ⟨d,.binOp .andNot t x y t',ty,pos,aft,g⟩ (I ((m / 8*8:Nat):Int)) w w:=fun ρ hρ=>by
 have h1:m<2^IntKind.i64.bits:=by simp only[IntKind.bits];omega
 have h3:m&&&18446744073709551608=m / 8*8:=by
  have h4:=Vv (s:=3) (a:=m / 8) (b:=m%8) (c:=2305843009213693951) (d:=0) (Nat.mod_lt _ (by decide)) (by decide);rw[Nat.and_zero,Nat.zero_add,Nat.zero_add] at h4;have h5:=Nat.and_two_pow_sub_one_eq_mod (m / 8) 61;rw[show(2:Nat)^61-1=2305843009213693951 from rfl,Nat.mod_eq_of_lt (by omega)] at h5;rw[h5,show(2:Nat)^3=8 from rfl,show 8*2305843009213693951=18446744073709551608 from rfl,show m%8+8*(m / 8)=m by omega] at h4;rw[h4];omega
 have h6:(BitVec.ofInt IntKind.i64.bits (m:Int)&&&~~~(BitVec.ofInt IntKind.i64.bits 7)).toNat=m / 8*8:=by
  rw[BitVec.toNat_and,QO h1,show(~~~(BitVec.ofInt IntKind.i64.bits 7)).toNat=18446744073709551608 by decide,h3]
 simp only[execOp,eqGuard_andNot,binOp_andNot,intBits_andNot,hρ _ _ hx,hρ _ _ hy,pure_bind,Sem.run_pure,bits,h6]
 rw[wrap_i64 ⟨by omega,by omega⟩]
def zl0 {r v q:Nat}(hr:r<=63)(hv:v<2^r)(hq:2^r=q)(hx:look e x=some (.int .u64 ((q+v:Nat):Int)))(hy:look e y=some (.int .u64 (q:Int))):Y P e ⟨d,.binOp .andNot t x y t',ty,pos,aft,g⟩ (.int .u64 (v:Int)) w w:=fun ρ hρ=>by
 subst hq
 have hp:2^r<=2^63:=Nat.pow_le_pow_right (by decide) hr
 have sx:2^64=2^r*2^(64-r):=by rw[<-Nat.pow_add,show r+(64-r)=64 by omega]
 have h2:2^(64-r)=2*2^(63-r):=by rw[<-Nat.pow_succ',show 64-r=(63-r)+1 by omega]
 have CC:0<2^(63-r):=Nat.two_pow_pos _
 have h1:2^r+v<2^IntKind.u64.bits:=by simp only[IntKind.bits];omega
 have h3:2^r<2^IntKind.u64.bits:=by simp only[IntKind.bits];omega
 have h4:(2^r+v)&&&(2^64-1-2^r)=v:=by
  have h5:=Vv (s:=r) (a:=1) (b:=v) (c:=2^(64-r)-2) (d:=2^r-1) hv (by have:=Nat.two_pow_pos r;omega);rw[Nat.mul_one,Nat.and_two_pow_sub_one_eq_mod,Nat.mod_eq_of_lt hv,Nat.one_and_eq_mod_two,h2,show(2*2^(63-r)-2)%2=0 by omega,Nat.mul_zero,Nat.add_zero] at h5
  have h6:2^r-1+2^r*(2*2^(63-r)-2)=2^64-1-2^r:=by
   rw[Nat.mul_sub,<-h2,<-sx];have:=Nat.two_pow_pos r;omega
  rw[h6,Nat.add_comm v] at h5;exact h5
 have h6:(BitVec.ofInt IntKind.u64.bits ((2^r+v:Nat):Int)&&&~~~(BitVec.ofInt IntKind.u64.bits ((2^r:Nat):Int))).toNat=v:=by
  rw[BitVec.toNat_and,BitVec.toNat_not,QO h1,QO h3];exact h4
 simp only[execOp,eqGuard_andNot,binOp_andNot,intBits_andNot,hρ _ _ hx,hρ _ _ hy,pure_bind,Sem.run_pure,bits,h6]
 rw[z1Y (k:= .u64) O (by simp only[IntKind.bits];omega)]
end
structure Src (t:TypeId)(u:Value)(T:OG) where
 inv:(Nat->Prop)->World->Prop
 fl:FuncId
 fr:FuncId
 cl:CF prog fl
 cr:CF prog fr
 ml:methT prog t "Length"=some fl
 mr:methT prog t "ReadAt"=some fr
 ext:∀{X Y:Nat->Prop} {w w':World},inv X w->Ext w w'->(∀k,Y k->X k\/w.heap.size<=k)->inv Y w'
 step:∀{X Y S:Nat->Prop} {w w':World},inv X w->Kp S w w'->(∀k,S k->X k)->(∀k,Y k->X k\/w.heap.size<=k)->inv Y w'
 len:∀{X:Nat->Prop} {w:World},inv X w->Pm prog fl [u] w λv w'=>v=I (T.length:Int)/\Ext w w'
 rd:∀{X:Nat->Prop} {w:World} (off n:Nat),inv X w->(∀k,X k->k<w.heap.size)->off+n<=T.length->Pm prog fr [u,I (off:Int),I (n:Int)] w λv w'=>v= .tuple #[S ((T.drop off).take n),I 0]/\inv X w'/\Kp (λk=>¬X k) w w'
def Src.own {t:TypeId}{u:Value}{T:OG}(R:Src t u T){X S:Nat->Prop}{w w':World}(h:R.inv X w)(hk:Kp S w w')(hS:∀k,S k->X k):R.inv X w':=R.step h hk hS λ_ e=> .inl e
def Yw {s:OG}{i:Nat}{c:UInt8}(h:s[i]? =some c):Pv (P3 (s.take (i+1)))=Pv (P3 (s.take i))*256+c.toNat:=by
 rw[PQ h,YJ,S0,show P3 [c]=Pc 8 c.toNat by simp[P3],Qb,bitsN_length]
 have:=c.toNat_lt
 omega
def WN (s:OG)(hs:s.length<=8)(w:World):Pm prog 184 [S s] w λv w'=>v=u64v (Pv (P3 s))/\Ext w w':=by
 refine py (e:=[(0,_)]) func184 O ntmps184 O O$ qN O$ Qw O$ OU O$ PG O$ OM O O (z6G U9 Q5 U5 O) ?_
 rintro _ w1 ⟨b7,c7,rest,rfl,⟨jS,ad,aj⟩,Be⟩
 refine Rv Q5 O$ OK O$ OD$ OH$ Rq (α:=Nat) (0) (λi=>[(3,u64v (Pv (P3 (s.take i)))),(7,.slice (some ⟨b7,0,none⟩) s.length c7),(8,I (s.length:Int)),(9,I (i:Int))]) (λi w'=>w'=w1/\i<=s.length) (λi=>s.length-i) ?hI ?hround
 case hI=>exact⟨rfl,Nat.zero_le _⟩
 case hround=>
  rintro i w2 ⟨rfl,hi⟩ ih
  try dsimp only
  refine qN O$ Qq O$ OD$ It$ OQ O (λh0=>?_)$ λh0=>?_
  ·obtain⟨c,hc⟩:∃c,s[i]? =some c:=⟨_,List.getElem?_eq_getElem (by omega)⟩;have cN:=c.toNat_lt;have eW:=Yw hc
   have aZ:Pv (P3 (s.take i))<72057594037927936:=by
    have h1:=QF (P3 (s.take i));rw[bitsT_length,List.length_take] at h1;have h2:2^(8*min i s.length)<=2^56:=Nat.pow_le_pow_right (by decide) (by omega);omega
   have aW:w2.cell? ⟨b7,0+i*1,none⟩=some (S8 c):=by
    rw[aj.cell,Nat.zero_add,Nat.mul_one,List.getElem?_append_left (by rw[List.length_map];omega),List.getElem?_map,hc];rfl
   refine OE$ Qx$ qN O$ qV (PX Q5 VK O O (by omega))$ qV (Pr U5 O O aW) ?_
   generalize Pv (P3 (s.take i))=q at eW aZ
   refine OU O$ Rh O$ qV (QP 8 256 O O (by decide) O)$ OK O$ qV ((z2f O U5 Rr (by decide)))$ qV (Zv O O (by omega) (by omega)) ?_
   have mB:(q*256%18446744073709551616 |||c.toNat)=Pv (P3 (s.take (i+1))):=by
    rw[eW,Nat.mod_eq_of_lt (by omega),Nat.mul_comm q];exact(Nat.two_pow_add_eq_or_of_lt (i:=8) cN q).symm
   rw[mB];refine OU O$ OA$ OL O$ PV O$ OK O$ OD ?_;exact(ih (i+1) _ ⟨rfl,by omega⟩ (by omega)).qb
  ·have bQ:i=s.length:=by omega
   subst bQ;rw[List.take_length];refine ON O$ Pf O$ OU O$ OB func184 O ?_;exact⟨_,rfl,rfl,ad⟩
section
variable {P:Program}{e:Env}{d:Option Nat}{ty t t':TypeId}{pos:String}{aft:Array Edge}{g:Option (Nat×Bool)}{x y:Operand}{w:World}
theorem zdR {ms:Array (String×TypeId)}{tx:TypeId}{v:Value}(ht:P.underlying t=some (.interface ms)):(binOp .eql t (.iface tx v) .nilIface).run P w= .ok (.bool false) w:=by
 have h:P.methodsAt t=ms:=by unfold Program.methodsAt;rw[ht]
 exact run_eql_held_nil w t tx v (by rw[h];exact ht)
def zew {ms:Array (String×TypeId)}{tx:TypeId}{v:Value}(ht:P.underlying t=some (.interface ms))(hx:look e x=some (.iface tx v))(hy:look e y=some .nilIface):Y P e ⟨d,.binOp .eql t x y t',ty,pos,aft,g⟩ (.bool false) w w:=fun ρ hρ=>by
 have hg:∀a b,(eqGuard .eql t a b (.iface tx v) .nilIface).run P w= .ok () w:=λa b=>rfl
 simp only[execOp,hρ _ _ hx,hρ _ _ hy,Sem.run_bind,hg,Result.andThen_ok,zdR ht,Sem.run_pure]
def ziN {tx:TypeId}{v:Value}(hx:look e x=some (.iface tx v)):Y P e ⟨d,.nilCheck x,ty,pos,aft,g⟩ (.iface tx v) w w:=fun ρ hρ=>by simp[execOp,hρ _ _ hx]
end
structure Vt (l:List Nat)(f:Fm)(z:Nat):Prop where
 n1:1<=l.length
 n2:l.length<=64
 nof:Nof l
 last:l[l.length-1]? =some z
 zb:z<=999999998
 fe:f=U1 l.length (z+1)
def Vt.small {l:List Nat}{f:Fm}{z:Nat}(h:Vt l f z):f.small:=by
 rw[h.fe]
 exact z3U h.n1 (by have:=h.n2;omega) (by omega) (by have:=h.zb;omega)
theorem Vt.len {l:List Nat}{f:Fm}{z:Nat}(h:Vt l f z):(YQ l f).length=f.size:=by
 rw[h.fe]
 exact z4d h.n1 h.n2 h.nof h.last
theorem Vt.n {l:List Nat}{f:Fm}{z:Nat}(h:Vt l f z):f.n=l.length:=by rw[h.fe];rfl
theorem Vt.u {l:List Nat}{f:Fm}{z:Nat}(h:Vt l f z):f.u=z+1:=by rw[h.fe];rfl
def Vt.size_le {l:List Nat}{f:Fm}{z:Nat}(h:Vt l f z):f.size<=40000000/\12<=f.size:=by
 have h1:=h.small
 have h2:=Fm.Xg h1
 obtain⟨h3,h4,h5⟩:=h1
 unfold Fm.size Fm.UO
 have:12<=f.high:=by unfold Fm.high;omega
 omega
def piece {A B C:OG}{off n o:Nat}(h:off=A.length+o)(hn:o+n<=B.length):((A++B++C).drop off).take n=(B.drop o).take n:=by
 rw[h,List.append_assoc,List.drop_length_add_append,List.drop_append_of_le_length (by omega),List.take_append_of_le_length (by rw[List.length_drop];omega)]
def T9 (f:Fm):List Bool:=Pc 32 f.n++Pc 64 f.u
theorem z2T (f:Fm):P3 (Ph (T9 f))=T9 f:=by
 obtain⟨z,h1,h2,h3⟩:=Sn (T9 f)
 have hl:(T9 f).length=96:=by simp[T9]
 have hz:z=0:=by omega
 rw[h1,hz,List.replicate_zero,List.append_nil]
theorem UA (f:Fm):(Ph (T9 f)).length=12:=by
 rw[PD];simp[T9]
def zfy (f:Fm)(hn:f.n<4294967296):Pv (P3 ((Ph (T9 f)).take 4))=f.n:=by
 rw[UE,z2T]
 unfold T9
 rw[List.take_left' (by simp),Qb]
 exact Nat.mod_eq_of_lt hn
def zg2 (f:Fm)(hu:f.u<18446744073709551616):Pv (P3 ((Ph (T9 f)).drop 4))=f.u:=by
 rw[TO,z2T]
 unfold T9
 rw[List.drop_left' (by simp),Qb]
 exact Nat.mod_eq_of_lt hu
theorem zbn (l:List Nat)(f:Fm):((YQ l f).drop 0).take 12=Ph (T9 f):=by
 have h:=piece (A:=[]) (B:=Ph (T9 f)) (C:=Ph (SD f.width l)++(Ph (hiB f.width 0 0 l)++Ph (Sg f.width l))) (off:=0) (n:=12) (o:=0) O (by rw[UA];omega)
 rw[List.nil_append] at h
 unfold YQ
 rw[List.append_assoc,List.append_assoc]
 refine h.trans ?_
 rw[List.drop_zero,List.take_of_length_le (by rw[UA];omega)]
def elC (f:Fm)(t:TypeId)(u:Value):List Value:=[I (f.n:Int),u64v f.u,I (f.width:Int),I (f.bits:Int),.iface t u]
def z6s {t:TypeId}{u:Value}{l:List Nat}{f:Fm}{z:Nat}(he:Vt l f z)(R:Src t u (YQ l f)){X:Nat->Prop}{w:World}(hI:R.inv X w)(hX:∀k,X k->k<w.heap.size):
  Pm prog 149 [.iface t u] w λv w'=>∃x,v= .tuple #[ptr x 0,I 0]/\OR w' x (elC f t u) 295/\w.heap.size<=x/\R.inv (λk=>X k\/k=x) w'/\Kp (λk=>¬X k) w w':=by
 obtain⟨dA,df⟩:=he.size_le
 have az:=he.len
 have oP:=he.n
 have Bj:=he.u
 have iu:=he.n2
 have cX:=he.n1
 have wc:=he.zb
 refine py (e:=[(0,_)]) func149 O ntmps149 O O$ qN O$ PU O$ Qx$ Pf O$ qV (zew z6B O O)$ OU O$ OJ O$ Pf O$ Qz O O (yci R.cl R.ml O O) (R.len hI) ?_
 rintro _ w1 ⟨rfl,ad⟩
 rw[az]
 have mn:=R.ext hI ad (λk hk=> .inl hk)
 have iL:∀k,X k->k<w1.heap.size:=λk hk=>by have:=hX k hk;have:=ad.size;omega
 refine Qq O$ PF$ OU O$ Tu O$ OA$ Pf O$ Qz O O (yci R.cr R.mr O O) (R.rd 0 12 mn iL (by rw[az];omega)) ?_
 rintro _ w2 ⟨rfl,cR,aq⟩
 rw[zbn]
 have dG:Kp (λk=>¬X k) w w2:=ad.kp.trans aq
 have gR:∀k,X k->k<w2.heap.size:=λk hk=>by have:=iL k hk;have:=aq.size;omega
 have oT:=UA f
 have tC:((Ph (T9 f)).take 4).length<=8:=by rw[List.length_take];omega
 have lQ:((Ph (T9 f)).drop 4).length<=8:=by rw[List.length_drop];omega
 have Bm:=zfy f (by omega)
 have Ik:=zg2 f (by omega)
 generalize Ph (T9 f)=hb at oT tC lQ Bm Ik
 have aa:=Ext.OT w2
 refine OK O$ RA O$ PU O$ PG O$ Qf O$ PW O$ It$ R5 (λw'=>Ext w2 w') O$ OZ 0 O O (aa)$ OI 1 O (YI U9 O O (by omega)) aa$ OZ 3 O O (aa)$ OI 4 O (Yv U9 O O (by omega)) aa$ SK 2 O z7X O (WN (hb.take 4) tC _) ?_
 rintro _ w3 ⟨rfl,ai⟩
 refine⟨aa.trans ai,?_⟩
 refine SK 5 O z7X O (WN (hb.drop 4) lQ _) ?_
 rintro _ w4 ⟨rfl,aD⟩
 refine⟨(aa.trans ai).trans aD,?_⟩
 have dh:=(aa.trans ai).trans aD
 rw[Bm,Ik]
 have ly:=R.ext cR dh (λk hk=> .inl hk)
 refine OI 6 O (R7 O) ((aa.trans ai).trans aD)$ OI 7 O (R7 O) ((aa.trans ai).trans aD)$ qE$ Pn.qb (e:=[(0,_),(2,_),(3,_),(6,_),(7,_)]) ?_
 refine PG O$ Qu O$ PF$ P8 O$ Qu O$ PF$ PK O$ P8 O$ Ri O$ PF$ OK O$ Ri O$ PF$ qV (zbJ O O U4) ?_
 refine PK O$ PW O$ Pf O$ qV (PJ O Rr U3 (by omega))$ OK O ?_
 have L5:U1 f.n f.u=f:=by rw[oP,Bj];exact he.fe.symm
 have kR:=Y4 f.n f.u (by omega) (by omega) (by omega) (by omega) w4
 rw[L5] at kR
 refine P4 zaD O (kR) ?_
 rintro _ w5 ⟨rfl,aT⟩
 refine OM O O (RN (cs:=[_,_,_,_]) Ti O) ?_
 rintro _ w6 ⟨b8,rfl,gV,aI,ce⟩
 refine OW O (PO (news:=fmC f) Ti O O O O ce (by simp)) ?_
 rintro w7 ⟨q9,aC⟩
 replace q9:OR w7 b8 (fmC f) 234:=q9
 have pS:Ext w5 w7:=aI.An aC (λi e=>by omega)
 have xW:=aT.trans pS
 have jE:=R.ext ly xW (λk hk=> .inl hk)
 refine OD$ It$ qN O$ qV (Pt (news:=fmC f) z5x O Ti O (q9.cells (n:=4) O) O)$ P4 zeL O (z2X f he.small _) ?_
 rintro _ w8 ⟨rfl,dy⟩
 have nK:=R.ext jE dy (λk hk=> .inl hk)
 refine OK O$ Qz O O (yci R.cl R.ml O O) (R.len nK) ?_
 rintro _ w9 ⟨rfl,fg⟩
 rw[az]
 have gQ:=R.ext nK fg (λk hk=> .inl hk)
 have iJ:=dy.trans fg
 have xX:=(dh.trans xW).trans iJ
 refine Qf O$ PF$ OD$ Pn.qb (e:=[(0,_),(2,_),(3,_),(8,_),(51,_)]) ?_
 refine Tu O$ qN O$ qV (Pt (news:=fmC f) z5x O Ti O ((iJ.OC q9).cells (n:=4) O) O)$ OK O$ qV (Sk (cs:=[_,_,_,_,_]) zjA O zj5 O O)$ OM O O (Rm O (cs:=elC f t u) O) ?_
 rintro _ w10 ⟨x,rfl,hx,bG,fM⟩
 refine PU O$ OB func149 O ?_
 exact⟨_,rfl,x,rfl,fM,by have:=dG.size;have:=xX.size;omega,R.ext gQ bG (λk hk=>hk.imp id λe=>by omega),dG.trans (xX.trans bG).kp⟩
def z8Z {t:TypeId}{u:Value}{f:Fm}{x:Nat}{w:World}(hB:OR w x (elC f t u) 295):Pm prog 150 [ptr x 0] w λv w'=>v=I (f.n:Int)/\w'=w:=by
 replace hB:OR w x [I (f.n:Int),u64v f.u,I (f.width:Int),I (f.bits:Int),.iface t u] 295:=hB
 refine py (e:=[(0,_)]) func150 O ntmps150 O O$ QB O$ PG O$ qV (Qi z3y O O)$ PW O$ Pf O$ Pu O$ OX Sw O$ OX Yx O$ qV (OO U3 O O hB O)$ OU O$ OB func150 O ?_
 exact⟨_,rfl,rfl,rfl⟩
theorem zco (k:Nat)(a b:List Nat):SD k (a++b)=SD k a++SD k b:=by simp[SD]
def zdu {k i v:Nat}{l:List Nat}(h:l[i]? =some v)(rest:List Bool):((SD k l++rest).drop (i*k)).take k=Pc k (v%2^k):=by
 have hi:=(List.getElem?_eq_some_iff.1 h).1
 have e:l=l.take i++(v::l.drop (i+1)):=by
  conv=>lhs;rw[<-List.take_append_drop i l]
  congr 1
  rw[List.drop_eq_getElem_cons hi,(List.getElem?_eq_some_iff.1 h).2]
 have hl:(SD k (l.take i)).length=i*k:=by rw[UL,List.length_take,Nat.min_eq_left (by omega)]
 rw[e,zco,List.append_assoc,List.drop_left' hl]
 show((Pc k (v%2^k)++SD k (l.drop (i+1)))++rest).take k=_
 rw[List.append_assoc,List.take_left' (by simp)]
def z26 {B:OG}{o n a m:Nat}(h:a+m<=8*n):((P3 ((B.drop o).take n)).drop a).take m=((P3 B).drop (8*o+a)).take m:=by
 rw[UE,TO,List.drop_take,List.drop_drop,List.take_take,Nat.min_eq_left (by omega)]
def zcW (l:List Nat)(f:Fm){o n:Nat}(h:o+n<=(Ph (SD f.width l)).length):((YQ l f).drop (12+o)).take n=((Ph (SD f.width l)).drop o).take n:=by
 unfold YQ
 rw[List.append_assoc (Ph (Pc 32 f.n++Pc 64 f.u)++Ph (SD f.width l))]
 exact piece (by rw[show Ph (Pc 32 f.n++Pc 64 f.u)=Ph (T9 f) from rfl,UA]) h
def z8S {t:TypeId}{u:Value}{l:List Nat}{f:Fm}{z:Nat}(he:Vt l f z)(R:Src t u (YQ l f)){X:Nat->Prop}{w:World}(hI:R.inv X w)(hX:∀k,X k->k<w.heap.size){x:Nat}(hx:X x)(hB:OR w x (elC f t u) 295){i v:Nat}(hv:l[i]? =some v):
  Pm prog 257 [ptr x 0,I (i:Int)] w λr w'=>r= .tuple #[u64v (v%2^f.width),I 0]/\R.inv X w'/\Kp (λk=>¬X k) w w':=by
 have bQ:=(List.getElem?_eq_some_iff.1 hv).1
 have az:=he.len
 obtain⟨wU,xY⟩:=he.size_le
 have iu:=he.n2
 have oS:f.width<=30:=by rw[he.fe];exact Zs (by have:=he.zb;omega)
 replace hB:OR w x [I (f.n:Int),u64v f.u,I (f.width:Int),I (f.bits:Int),.iface t u] 295:=hB
 refine py (e:=[(0,_),(1,_)]) func257 O ntmps257 O O$ qN O$ PU O$ PG O$ Pu O$ OX Sw O$ OX Tp O$ qV (OO U3 O O hB O)$ Ri O$ OD$ OQ O (λh0=>?_)$ λh0=>?_
 ·have mY:f.width=0:=by omega
  refine qN O$ PU O$ OB func257 O (⟨_,rfl,?_,hI,Kp.refl _ _⟩);rw[mY,Nat.pow_zero,Nat.mod_one]
  rfl
 ·have HY:1<=f.width:=by omega
  have L6:i*f.width<=64*30:=Nat.mul_le_mul (by omega) oS;have Il:(i+1)*f.width=i*f.width+f.width:=by rw[Nat.add_mul,Nat.one_mul]
  have eu:(i+1)*f.width<=l.length*f.width:=Nat.mul_le_mul_right _ bQ;have e1:((i*f.width:Nat):Int)=(i:Int)*(f.width:Int):=Int.natCast_mul _ _;have e2:(((i+1)*f.width:Nat):Int)=((i:Int)+1)*(f.width:Int):=Int.natCast_mul _ _;have hg:=Ext.OT w;refine OE$ It$ R5 (λw'=>Ext w w') O$ OZ 0 O O (hg)$ OZ 1 O O (hg)$ OI 2 O (Q4 O) hg$ OI 3 O (Pp Sw O) hg$ OI 4 O (Pp Tp O) hg$ qT 5 O (λ_ h=>OO U3 O O (h.OC hB) O) hg$ OZ 7 O O (hg)$ OI 8 O (Ud O O (by omega)) hg$ OZ 9 O O (hg)$ OI 10 O (Q4 O) hg$ OI 11 O (Pp Sw O) hg ?_;refine OI 12 O (Pp Tp O) hg$ qT 13 O (λ_ h=>OO U3 O O (h.OC hB) O) hg$ OI 6 O (Wm O O (by rw[<-e1];omega)) hg ?_;rw[<-e1];refine OI 15 O (R7 O) hg$ OI 14 O (Wm O O (by rw[<-e2];omega)) hg ?_;rw[<-e2,Il];refine OI 16 O (R7 O) hg$ qE$ Pn.qb (e:=[(0,_),(4,_),(5,_),(6,_),(7,_)]) ?_;refine Pf O$ Pu O$ OX z3C O$ qV (OO z6B O O hB O)$ OK O$ qV (VI O O (by omega))$ PV O$ OK O$ PV O$ qV (VI O O (by omega))$ OK O$ qV (VI O O (by omega))$ Ro O ?_;have xZ:=hg.OC hB;have L7:=R.ext hI hg (λk hk=> .inl hk);have L8:∀k,X k->k<w.drew.heap.size:=λk hk=>by have:=hX k hk;have:=hg.size;omega
  have DW:(Ph (SD f.width l)).length=(l.length*f.width+7) / 8:=by rw[PD,UL]
  have DX:=zdu (k:=f.width) hv;have pp:∀rest,((SD f.width l++rest).drop (i*f.width)).take f.width=Pc f.width (v%2^f.width):=DX;rw[Il] at eu
  generalize i*f.width=fr at L6 eu pp e1
  rw[show(12:Int)+(fr:Int) / 8=((12+fr / 8:Nat):Int) by omega,show((fr+f.width:Nat):Int)+7=((fr+f.width+7:Nat):Int) by omega,show((fr+f.width+7:Nat):Int) / 8-(fr:Int) / 8=(((fr+f.width+7) / 8-fr / 8:Nat):Int) by omega];have tQ:fr / 8+((fr+f.width+7) / 8-fr / 8)<=(Ph (SD f.width l)).length:=by rw[DW];omega
  have jA:=zcW l f tQ
  have tR:12+fr / 8+((fr+f.width+7) / 8-fr / 8)<=(YQ l f).length:=by
   have e:(YQ l f).length=12+(Ph (SD f.width l)).length+(Ph (hiB f.width 0 0 l)).length+(Ph (Sg f.width l)).length:=by
    unfold YQ;rw[List.length_append,List.length_append,List.length_append,show Ph (Pc 32 f.n++Pc 64 f.u)=Ph (T9 f) from rfl,UA]
   omega
  refine Qz O O (yci R.cr R.mr O O) (R.rd (12+fr / 8) ((fr+f.width+7) / 8-fr / 8) L7 L8 tR) ?_;rintro _ w1 ⟨rfl,mn,aL⟩;rw[jA];have iM:Kp (λk=>¬X k) w w1:=hg.kp.trans aL;have aj:=iM.OC hB (λe=>e hx)
  have fL:(((Ph (SD f.width l)).drop (fr / 8)).take ((fr+f.width+7) / 8-fr / 8)).length=(fr+f.width+7) / 8-fr / 8:=by
   rw[List.length_take,List.length_drop];omega
  obtain⟨zz,mz,-,-⟩:=Sn (SD f.width l);have cj:=z26 (B:=Ph (SD f.width l)) (o:=fr / 8) (n:=(fr+f.width+7) / 8-fr / 8) (a:=fr%8) (m:=f.width) (by omega);rw[show 8*(fr / 8)+fr%8=fr by omega,mz,pp] at cj
  generalize ((Ph (SD f.width l)).drop (fr / 8)).take ((fr+f.width+7) / 8-fr / 8)=pt at fL cj
  refine OK O$ RA O$ PU O$ PG O$ Qf O$ OD$ Pn.qb (e:=[(0,_),(4,_),(5,_),(6,_),(8,_),(9,_),(52,_)]) ?_;refine Tu O$ Pf O$ P4 z84 O (X8 pt (by omega) w1) ?_;rintro _ w2 ⟨r,rfl,cO,ae,dw⟩;refine Qw O$ P8 O$ qV (XJ O O (by omega) (by omega)) ?_;rw[show fr&&&7=fr%8 from Nat.and_two_pow_sub_one_eq_mod fr 3];refine P4 zaS O (ZI cO (fr%8) (by omega)) ?_;rintro _ w3 ⟨rfl,lz,av⟩;have aO:Ext w1 w3:=ae.An av (λi e=>by omega);have au:=aO.OC aj;refine qM O$ P8 O$ Pu O$ OX Sw O$ OX Tp O$ qV (OO U3 O O au O)$ P4 z43 O (VD lz f.width (by omega)) ?_;rintro v4 w4 pf
  have gd:v4= .tuple #[u64v (v%2^f.width),I 0]/\Kp (λk=>k=r) w3 w4:=by
   rcases pf with⟨-,e,-,hk⟩|⟨e,-,-⟩
   ·rw[cj,Qb,Nat.mod_mod] at e;exact⟨e,hk⟩
   ·omega
  obtain⟨rfl,ao⟩:=gd;have bO:Ext w1 w4:=aO.An ao (λi e=>by omega);refine OK O$ RA O$ PU O$ Pn.qb (e:=[(4,_),(5,_),(11,_)]) ?_;refine Pf O$ PU O$ OB func257 O ?_;exact⟨_,rfl,rfl,R.ext mn bO (λk hk=> .inl hk),iM.trans bO.kp⟩
theorem z1W (n:Nat):Pv (List.replicate n false)=0:=by
 rw[<-VQ,Qb];simp
theorem z52 (b:List Bool)(k:Nat):Pv (b++List.replicate k false)=Pv b*2^k:=by
 rw[S0,z1W,List.length_replicate,Nat.add_zero]
theorem z2O (b:List Bool)(k:Nat):Pv (List.replicate k false++b)=Pv b:=by
 rw[S0,z1W];simp
theorem z1T {D:List Bool}{a b m:Nat}(ha:m<=D.length+a)(hb:m<=D.length+b):(D++List.replicate a false).take m=(D++List.replicate b false).take m:=by
 rw[List.take_append,List.take_append,List.take_replicate,List.take_replicate,Nat.min_eq_left (by omega),Nat.min_eq_left (by omega)]
def wdB (H:List Bool)(a:Nat):List Bool:=List.replicate (a%8) false++(H.drop a++List.replicate 64 false).take (64-a%8)
def z8i (H:List Bool)(a:Nat):(wdB H a).length=64:=by
 unfold wdB
 rw[List.length_append,List.length_replicate,List.length_take,List.length_append,List.length_replicate]
 omega
def zat {H:List Bool}{fq n:Nat}(hf:8*fq<H.length)(hn:n=min 8 ((H.length+7) / 8-fq)):
  P3 (((Ph H).drop fq).take n)++List.replicate (64-8*n) false=(H.drop (8*fq)++List.replicate 64 false).take 64:=by
 obtain⟨z,h1,h2,h3⟩:=Sn H
 rw[UE,TO,h1,List.drop_append_of_le_length (by omega)]
 have hD:(H.drop (8*fq)).length=H.length-8*fq:=List.length_drop
 generalize H.drop (8*fq)=D at hD
 rcases Nat.lt_or_ge n 8 with h| h
 ·have e:8*n=D.length+z:=by omega
  rw[List.take_of_length_le (by rw[List.length_append,List.length_replicate];omega),List.append_assoc,List.replicate_append_replicate];rw[z1T (a:=64) (b:=z+(64-8*n)) (by omega) (by omega),List.take_of_length_le (by rw[List.length_append,List.length_replicate];omega)]
 ·have e:n=8:=by omega
  subst e;rw[show 64-8*8=0 from rfl,List.replicate_zero,List.append_nil];exact z1T (by omega) (by omega)
def zaj {W:List Bool}(hW:W.length=64){d:Nat}(hd:d<=64):Pv W%2^(64-d)=Pv (List.replicate d false++W.drop d):=by
 have h1:=S0 (W.take d) (W.drop d)
 rw[List.take_append_drop,List.length_drop,hW] at h1
 have h2:=QF (W.drop d)
 rw[List.length_drop,hW] at h2
 rw[z2O,h1,Nat.add_comm,Nat.add_mul_mod_self_right,Nat.mod_eq_of_lt h2]
def zaA {H:List Bool}{a:Nat}(ha:a<H.length):List.replicate (a%8) false++((H.drop (8*(a / 8))++List.replicate 64 false).take 64).drop (a%8)=wdB H a:=by
 unfold wdB
 congr 1
 have hd:a%8<=(H.drop (8*(a / 8))).length:=by rw[List.length_drop];omega
 rw[List.drop_take,List.drop_append_of_le_length hd,List.drop_drop,show 8*(a / 8)+a%8=a by omega]
def zbj {H:List Bool}{a r:Nat}(ha:a<H.length)(hr:a / 8*8+64=H.length+r):∃q,Pv (wdB H a)=q*2^r:=by
 have hD:(H.drop a).length=H.length-a:=List.length_drop
 refine⟨Pv (List.replicate (a%8) false++H.drop a),?_⟩
 rw[<-z52]
 congr 1
 unfold wdB
 rw[List.append_assoc,z1T (a:=64) (b:=r) (by omega) (by omega),List.take_of_length_le (by rw[List.length_append,List.length_replicate];omega)]
theorem z9v {d:Nat}(hd:d<=64):18446744073709551615 / 2^d=2^(64-d)-1:=by
 have hp:0<2^d:=Nat.two_pow_pos d
 have h1:2^64=2^d*2^(64-d):=by rw[<-Nat.pow_add,show d+(64-d)=64 by omega]
 have h2:0<2^(64-d):=Nat.two_pow_pos _
 have h3:18446744073709551615=(2^d-1)+2^d*(2^(64-d)-1):=by
  rw[Nat.mul_sub,<-h1,Nat.mul_one];have h4:2^d<=2^64:=Nat.pow_le_pow_right (by decide) hd;omega
 rw[h3,Nat.add_mul_div_left _ _ hp,Nat.div_eq_of_lt (by omega),Nat.zero_add]
def z7D {b:List Bool}(h:b.length=64):Pv b<18446744073709551616:=by
 have:=QF b
 rw[h] at this
 exact this
def zfW (l:List Nat)(f:Fm)(hf:f.high=12+(Ph (SD f.width l)).length){o n:Nat}(h:o+n<=(Ph (hiB f.width 0 0 l)).length):((YQ l f).drop (f.high+o)).take n=((Ph (hiB f.width 0 0 l)).drop o).take n:=by
 unfold YQ
 exact piece (by rw[List.length_append,show Ph (Pc 32 f.n++Pc 64 f.u)=Ph (T9 f) from rfl,UA,hf]) h
theorem Vt.high {l:List Nat}{f:Fm}{z:Nat}(he:Vt l f z):f.high=12+(Ph (SD f.width l)).length:=by
 unfold Fm.high
 rw[PD,UL,he.n]
theorem Vt.bits {l:List Nat}{f:Fm}{z:Nat}(he:Vt l f z):f.bits=(hiB f.width 0 0 l).length:=by
 rw[z1E f.width he.nof he.last]
 rw[he.fe]
 show(z+1-1) / _+_=_
 rw[Nat.add_sub_cancel]
 rfl
def z6T {t:TypeId}{u:Value}{l:List Nat}{f:Fm}{z:Nat}(he:Vt l f z)(R:Src t u (YQ l f)){X:Nat->Prop}{w:World}(hI:R.inv X w)(hX:∀k,X k->k<w.heap.size){x b3 b8 v0:Nat}(hx:X x)(h3:X b3)(h8:X b8)(su:b8≠x/\b8≠b3)(hB:OR w x (elC f t u) 295)(au:OR w b3 [ptr x 0] 163)(ce:OR w b8 [u64v v0] 23){a:Nat}(ha:a<f.bits):
  Pm prog 263 [I (a:Int),ptr b3 0,ptr b8 0] w λr w'=>r=I 0/\R.inv X w'/\Kp (λk=>¬X k\/k=b8) w w'/\OR w' b8 [u64v (Pv (wdB (hiB f.width 0 0 l) a))] 23:=by
 have az:=he.len
 obtain⟨wU,xY⟩:=he.size_le
 have nL:=he.small
 have oT:=Fm.Xg nL
 have fD:=nL.2.2
 have cj:=he.bits
 have y8:=he.high
 have fL:(Ph (hiB f.width 0 0 l)).length=(f.bits+7) / 8:=by rw[PD,cj]
 replace hB:OR w x [I (f.n:Int),u64v f.u,I (f.width:Int),I (f.bits:Int),.iface t u] 295:=hB
 refine py (e:=[(0,_),(1,_),(2,_)]) func263 O ntmps263 O O$ qN O$ Qt O$ qV (zfZ O O (by omega))$ Qw O$ qV ((OO z3y O O au O))$ Pu O$ OX Sw O$ OX Z3 O$ qV ((OO U3 O O hB O))$ PV O$ qV (VI O O (by omega))$ OK O$ qV (VI O O (by omega)) ?_
 refine Ro O ?_
 rw[show((f.bits:Int)+7) / 8-((a / 8*8:Nat):Int) / 8=(((f.bits+7) / 8-a / 8:Nat):Int) by omega]
 refine qV (ymi O O) ?_
 rw[show min (8:Int) (((f.bits+7) / 8-a / 8:Nat):Int)=((min 8 ((f.bits+7) / 8-a / 8):Nat):Int) by omega]
 obtain⟨n,hn⟩:∃n,n=min 8 ((f.bits+7) / 8-a / 8):=⟨_,rfl⟩
 rw[<-hn]
 have hg:=Ext.OT w
 refine OU O$ It$ R5 (λw'=>Kp (λk=>¬X k) w w') O$ qT 0 O (λ_ hS=>(OO z3y O O (hS.OC au (λe=>e h3)) O)) (hg.kp)$ OI 1 O (Q4 O) (hg.kp)$ OI 2 O (Pp z3C O) (hg.kp)$ qT 3 O (λ_ hS=>(OO z6B O O (hS.OC hB (λe=>e hx)) O)) (hg.kp)$ qT 4 O (λ_ hS=>(OO z3y O O (hS.OC au (λe=>e h3)) O)) (hg.kp)$ OI 5 O (Q4 O) (hg.kp)$ OI 6 O (Pp Sw O) (hg.kp)$ OZ 9 O O (hg.kp)$ OI 10 O (VI O O (by omega)) (hg.kp)$ OZ 12 O O (hg.kp)$ qT 7 O (λ_ hS=>Pt (news:=fmC f) z5x O Ti O ((hS.OC hB (λe=>e hx)).cells (n:=4) O) O) (hg.kp) ?_
 refine OI 13 O (ziN O) (hg.kp)$ OZ 14 O O (hg.kp)$ SK 8 O zeJ O (z5f f nL _) ?_
 rintro _ w1 ⟨rfl,ad⟩
 refine⟨(hg.trans ad).kp,?_⟩
 have bH:=hg.trans ad
 refine OI 11 O (Ud O O (by omega)) ((hg.trans ad).kp) ?_
 rw[show(f.high:Int)+((a / 8*8:Nat):Int) / 8=((f.high+a / 8:Nat):Int) by omega]
 have mn:=R.ext hI bH (λk hk=> .inl hk)
 have iL:∀k,X k->k<w1.heap.size:=λk hk=>by have:=hX k hk;have:=bH.size;omega
 have tQ:a / 8+n<=(Ph (hiB f.width 0 0 l)).length:=by rw[fL];omega
 have tR:f.high+a / 8+n<=(YQ l f).length:=by
  rw[az];have e:f.size=f.UO+4*((f.n+63) / 64):=rfl;have e2:f.UO=f.high+(f.bits+7) / 8:=rfl;omega
 have jA:=zfW l f y8 tQ
 have nH:=zat (H:=hiB f.width 0 0 l) (fq:=a / 8) (n:=n) (by omega) (by rw[<-cj];exact hn)
 refine qO 15$ Wa (i:=15) O O O (yci R.cr R.mr O O) (R.rd (f.high+a / 8) n mn iL tR) ?_
 rintro _ w2 ⟨rfl,cR,aq⟩
 refine⟨bH.kp.trans aq,?_⟩
 rw[jA]
 have dG:Kp (λk=>¬X k) w w2:=bH.kp.trans aq
 have am:=dG.OC hB (λe=>e hx)
 have de:=dG.OC au (λe=>e h3)
 have tA:=dG.OC ce (λe=>e h8)
 have DY:(((Ph (hiB f.width 0 0 l)).drop (a / 8)).take n).length=n:=by rw[List.length_take,List.length_drop];omega
 generalize ((Ph (hiB f.width 0 0 l)).drop (a / 8)).take n=pt at nH DY
 refine OZ 16 O O (bH.kp.trans aq)$ OI 17 O (Rw O O) (bH.kp.trans aq)$ OI 18 O (Rw O O) (bH.kp.trans aq)$ OI 19 O (R7 O) (bH.kp.trans aq)$ OI 20 O (R7 O) (bH.kp.trans aq)$ qE$ Pn.qb (e:=[(0,_),(1,_),(2,_),(4,_),(5,_),(6,_),(7,_),(8,_)]) ?_
 refine Pf O$ P4 z7X O (WN pt (by omega) w2) ?_
 rintro _ w3 ⟨rfl,ai⟩
 refine OK O$ qV (Wm O O (by omega))$ Ro O ?_
 rw[show(64:Int)-8*(n:Int)=((64-8*n:Nat):Int) by omega]
 refine qV (QP (64-8*n) (2^(64-8*n)) O O (by omega) O) ?_
 have y9:=z52 (P3 pt) (64-8*n)
 rw[nH] at y9
 have L9:((hiB f.width 0 0 l).drop (8*(a / 8))++List.replicate 64 false).take 64=((hiB f.width 0 0 l).drop (8*(a / 8))++List.replicate 64 false).take 64:=rfl
 obtain⟨W0,ya⟩:∃W0,W0=((hiB f.width 0 0 l).drop (8*(a / 8))++List.replicate 64 false).take 64:=⟨_,rfl⟩
 have yb:W0.length=64:=by rw[ya,List.length_take,List.length_append,List.length_replicate];omega
 have Im:=zaA (H:=hiB f.width 0 0 l) (a:=a) (by omega)
 rw[<-ya] at y9 Im
 have eu:=zaj yb (d:=a%8) (by omega)
 rw[Im] at eu
 have tS:=z7D yb
 rw[<-y9,Nat.mod_eq_of_lt tS]
 refine OW O (QQ Tf O O O (ai.OC tA) (by simp)) ?_
 rintro w4 ⟨eL,ao⟩
 replace eL:OR w4 b8 [u64v (Pv W0)] 23:=eL
 have aK:=ao.OC (ai.OC am) (λe=>su.1 e.symm)
 have en:=ao.OC (ai.OC de) (λe=>su.2 e.symm)
 have ly:=R.own (R.ext cR ai (λk hk=> .inl hk)) ao (λk e=>by rw[e];exact h8)
 have ag:=Ext.OT w4
 refine OD$ It$ P7 [6] (λw'=>Ext w4 w') (by kernel_rfl) O$ qL 0 O (λ_ h=>OO Rr O O (h.OC eL) O) ag$ PL 1 O O (ag)$ PL 2 O O (ag)$ P9 3 O (XH O O (by omega)) ag ?_
 rw[show(a:Int)-((a / 8*8:Nat):Int)=((a%8:Nat):Int) by omega]
 refine P9 4 O (Sc (m:=18446744073709551615) (a%8) (2^(a%8)) O O (by show a%8<=64;omega) O) ag ?_
 rw[z9v (d:=a%8) (by omega)]
 have DZ:2^(64-a%8)<=2^64:=Nat.pow_le_pow_right (by decide) (by omega)
 refine P9 5 O (Tk O O (by omega) (by omega)) ag ?_
 rw[Nat.and_two_pow_sub_one_eq_mod,eu]
 refine SM [6]$ qO 6$ PC (i:=6) O O (QQ Tf O O O (ag.OC eL) (by simp)) ?_
 rintro w5 ⟨bN,ak⟩
 refine⟨trivial,?_⟩
 replace bN:OR w5 b8 [u64v (Pv (wdB (hiB f.width 0 0 l) a))] 23:=bN
 have aH:=ak.OC (ag.OC aK) (λe=>su.1 e.symm)
 have cZ:=ak.OC (ag.OC en) (λe=>su.2 e.symm)
 have lX:=R.own (R.ext ly ag (λk hk=> .inl hk)) ak (λk e=>by rw[e];exact h8)
 have cz:Kp (λk=>¬X k\/k=b8) w w5:=(((dG.OV λk e=> .inl e).trans ai.kp).trans (ao.OV λk e=> .inr e)).trans (ag.kp.trans (ak.OV λk e=> .inr e))
 have E0:=z7D (z8i (hiB f.width 0 0 l) a)
 refine qE$ PG O$ PV O$ qV ((OO z3y O O cZ O))$ Pu O$ OX Sw O$ OX Z3 O$ qV ((OO U3 O O aH O))$ Ro O$ OU O$ Pn.qb (e:=[(2,_),(4,_),(8,_),(9,_)]) ?_
 refine Pf O$ Qu O$ OD$ OQ O (λh0=>?_)$ λh0=>?_
 ·obtain⟨r,hr⟩:∃r,a / 8*8+64=f.bits+r:=⟨a / 8*8+64-f.bits,by omega⟩;obtain⟨q,hq⟩:=zbj (H:=hiB f.width 0 0 l) (a:=a) (r:=r) (by omega) (by omega);rw[show((a / 8*8:Nat):Int)+64-(f.bits:Int)=(r:Int) by omega];have hp:=Nat.two_pow_pos r
  have yd:Pv (wdB (hiB f.width 0 0 l) a) / 2^r*2^r%18446744073709551616=Pv (wdB (hiB f.width 0 0 l) a):=by
   rw[Nat.mod_eq_of_lt (Nat.lt_of_le_of_lt (Nat.div_mul_le_self _ _) E0),hq,Nat.mul_div_cancel _ hp]
  refine OL O$ qV (OO Rr O O bN O)$ OK O$ qV (Sc r (2^r) O O (by show r<=64;omega) O) ?_;refine OK O$ qV (QP r (2^r) O O (by omega) O) ?_;rw[yd];refine OW O (QQ Tf O O O bN (by simp)) ?_;rintro w6 ⟨kC,aP⟩;refine qM O$ OK O$ OU O$ OB func263 O ?_;exact⟨_,rfl,rfl,R.own lX aP (λk e=>by rw[e];exact h8),cz.trans (aP.OV λk e=> .inr e),kC⟩
 ·refine OE$ Pf O$ OU O$ OB func263 O ?_;exact⟨_,rfl,rfl,lX,cz,bN⟩
def z50:∀{W:List Bool} {k p:Nat},RG W k=some p->∃z r,W=List.replicate z false++true::r
 |true::W,k,p,h=>⟨0,W,rfl⟩
 | false :: W, k, p, h => by
   simp only[RG,Option.map_eq_some_iff] at h;obtain⟨q,hq,-⟩:=h;obtain⟨z,r,e⟩:=z50 hq
   exact⟨z+1,r,by rw[e,List.replicate_succ];rfl⟩
 |[],k,p,h=>by simp[RG] at h
theorem z7f (z:Nat)(r:List Bool)(k:Nat):RG (List.replicate z false++true::r) (k+1)=RG (List.replicate (z+1) false++r) k:=by
 rw[Ux,Ux,RG,Option.map_map]
 congr 1
 funext j;show j+1+z=j+(z+1);omega
theorem z9M (z:Nat)(r:List Bool):RG (List.replicate z false++true::r) 0=some z:=by
 rw[Ux,RG];simp
def z6d (z:Nat)(r:List Bool):PR (Pv (List.replicate z false++true::r))=r.length+1:=by
 rw[Y1]
 have:=QF r
 exact z3j (by omega) (by rw[Nat.pow_succ];omega)
theorem z2n (n:Nat):(List.replicate n false).count true=0:=by
 rw[List.count_replicate];rfl
theorem z2p (H:List Bool)(a:Nat):(wdB H a).count true=((H.drop a).take (64-a%8)).count true:=by
 unfold wdB
 rw[List.count_append,z2n,Nat.zero_add,List.take_append,List.count_append,List.take_replicate,z2n];omega
def zdq {W:List Bool}(h:W.length=64):(Pc 64 (Pv W)).count true=W.count true:=by
 have:=z18 W
 rw[h] at this
 rw[this]
def zd5 {H:List Bool}{a k q:Nat}(h:RG (H.drop a) k=some q)(hk:k<(wdB H a).count true):RG (wdB H a) k=some (a%8+q):=by
 rw[z2p] at hk
 have h1:=Wp ((H.drop a).take (64-a%8)) ((H.drop a).drop (64-a%8)) k
 rw[List.take_append_drop,if_pos hk,h] at h1
 unfold wdB
 rw[Ux,List.take_append,Wp,if_pos hk,<-h1]
 show some (q+a%8)=_
 rw[Nat.add_comm]
def z9Q {H:List Bool}{a k q:Nat}(h:RG (H.drop a) k=some q)(hk:(wdB H a).count true<=k):64-a%8<=q/\RG (H.drop (a / 8*8+64)) (k-(wdB H a).count true)=some (q-(64-a%8)):=by
 rw[z2p] at hk⊢
 have h1:=Wp ((H.drop a).take (64-a%8)) ((H.drop a).drop (64-a%8)) k
 rw[List.take_append_drop,if_neg (by omega),h] at h1
 obtain⟨p,hp,La⟩:=Option.map_eq_some_iff.1 h1.symm
 have h2:=(z0I hp).1
 rw[List.length_drop] at h2
 rw[List.length_take,Nat.min_eq_left (by omega)] at La
 rw[List.drop_drop,show a+(64-a%8)=a / 8*8+64 by omega] at hp
 exact⟨by omega,by rw[hp];congr 1;omega⟩
def z9k {t:TypeId}{u:Value}{l:List Nat}{f:Fm}{z:Nat}(he:Vt l f z)(R:Src t u (YQ l f)){X:Nat->Prop}{w:World}(hI:R.inv X w)(hX:∀k,X k->k<w.heap.size){x:Nat}(hx:X x)(hB:OR w x (elC f t u) 295){p k q:Nat}(aL:k<=1000000)(hq:RG ((hiB f.width 0 0 l).drop p) k=some q):
  Pm prog 256 [ptr x 0,I (p:Int),I (k:Int)] w λr w'=>r= .tuple #[I ((p+q:Nat):Int),I 0]/\R.inv X w'/\Kp (λj=>¬X j) w w':=by
 have cj:=he.bits
 have fD:=he.small.2.2
 have dj:=hX x hx
 refine py (e:=[(0,_),(1,_),(2,_)]) func256 O ntmps256 O O$ qN O$ OM O O (Rm O (cs:=[ptr x 0]) O) ?_
 rintro _ w1 ⟨b3,rfl,eG,ad,au⟩
 refine RT O$ Qw O$ OM O O (RN (cs:=[_]) Tf O) ?_
 rintro _ w2 ⟨b8,rfl,gV,ae,ce⟩
 have z1:=ad.size
 have z2:=ae.size
 have l3:=au.lt
 have l8:=ce.lt
 have aF:=ad.trans ae
 have cR:R.inv (λj=>X j\/j=b3\/j=b8) w2:=R.ext hI aF (λj hj=>by rcases hj with e|e|e;exact .inl e;exact .inr (by omega);exact .inr (by omega))
 replace ce:OR w2 b8 [u64v 0] 23:=ce
 refine qM O$ qV (ymf (first:=[]) (caps:=[.tmp 3,.tmp 8]) O O)$ OU O$ PG O$ OU O$ OH$ Rq (α:=Nat×Nat×Nat×Nat) ((p,k,q,0)) (λy=>[(2,I (y.2.1:Int)),(3,ptr b3 0),(8,ptr b8 0),(9,.func (.func 263) #[] #[ptr b3 0,ptr b8 0]),(10,I (y.1:Int))]) (λy w'=>R.inv (λj=>X j\/j=b3\/j=b8) w'/\Kp (λj=>¬X j) w w'/\w2.heap.size<=w'.heap.size/\OR w' x (elC f t u) 295/\OR w' b3 [ptr x 0] 163/\OR w' b8 [u64v y.2.2.2] 23/\RG ((hiB f.width 0 0 l).drop y.1) y.2.1=some y.2.2.1/\y.1+y.2.2.1=p+q/\y.2.1<=1000000) (λy=>f.bits-y.1) ?hI ?hround
 case hI=>exact⟨cR,aF.kp,Nat.le_refl _,aF.OC hB,ae.OC au,ce,hq,rfl,aL⟩
 case hround =>
  rintro⟨a,k4,q4,v4⟩ w4 ⟨ly,ao,In,aK,en,eL,cD,Di,ye⟩ ih;dsimp only at ly ao In aK en eL cD Di ye;have yf:=(z0I cD).1;rw[List.length_drop] at yf;have rG:a<f.bits:=by omega
  have E1:∀j,(X j\/j=b3\/j=b8)->j<w4.heap.size:=λj hj=>by
   rcases hj with e|e| e
   ·have:=hX j e;omega
   ·omega
   ·omega
  have fw:OR w4 x [I (f.n:Int),u64v f.u,I (f.width:Int),I (f.bits:Int),.iface t u] 295:=aK
  try dsimp only
  refine PG O$ qV ((OO z3y O O en O))$ Pu O$ OX Sw O$ OX Z3 O$ qV ((OO U3 O O fw O))$ Qq O$ OD$ OQ O (λh0=>?_)$ λh0=>?_
  ·refine OE$ Qx$ It$ Qm O$ Qz O O (RY zjX O O) (z6T he R ly E1 (.inl hx) (.inr (.inl O)) (.inr (.inr O)) ⟨by omega,by omega⟩ aK en eL rG) ?_;rintro _ w5 ⟨rfl,lX,ak,bN⟩;have z5:=ak.size;have cz:Kp (λj=>¬X j) w w5:=ao.An ak (λj hj=>by rcases hj with e|e;exact .inr (λh=>e (.inl h));exact .inl (by omega));have aH:=ak.OC aK (λe=>by rcases e with e|e;exact e (.inl hx);omega);have cZ:=ak.OC en (λe=>by rcases e with e|e;exact e (.inr (.inl O));omega);have yg:=z8i (hiB f.width 0 0 l) a;have yh:=z7D yg;have Bn:=zdq yg;have oU:=λh=>zd5 (H:=hiB f.width 0 0 l) cD h;have Io:=λh=>z9Q (H:=hiB f.width 0 0 l) cD h
   generalize wdB (hiB f.width 0 0 l) a=W at yg yh Bn oU Io bN
   have cN:W.count true<=64:=by rw[<-yg];exact List.count_le_length
   refine Qt O$ Qf O$ PW O$ It$ qN O$ qV (OO Rr O O bN O)$ P4 zja O (zcu (Pv W) yh w5) ?_;rintro _ w5 ⟨rfl,rfl⟩;rw[Bn];refine Qw O$ P8 O$ zle O$ OD$ OQ O (λh1=>?_)$ λh1=>?_
   ·obtain⟨dA,df⟩:=Io (by omega);refine Qm O$ Ro O$ OU O$ ON O$ Rh O ?_;rw[show(k4:Int)-((W.count true:Nat):Int)=((k4-W.count true:Nat):Int) by omega];refine qV (zfZ O O (by omega))$ PV O$ OU O ?_;rw[show((a / 8*8:Nat):Int)+64=((a / 8*8+64:Nat):Int) by omega];exact(ih (a / 8*8+64,k4-W.count true,q4-(64-a%8),Pv W) _ ⟨lX,cz,by omega,aH,cZ,bN,df,by dsimp only;omega,by dsimp only;omega⟩ (by dsimp only;omega)).qb
   ·have B8:=oU (by omega);refine OE$ Qx$ Rq (α:=List Bool×Nat) ((W,k4)) (λy=>[(2,I (y.2:Int)),(8,ptr b8 0),(10,I (a:Int))]) (λy w'=>R.inv (λj=>X j\/j=b3\/j=b8) w'/\Kp (λj=>¬X j) w w'/\OR w' b8 [u64v (Pv y.1)] 23/\y.1.length=64/\RG y.1 y.2=some (a%8+q4)/\y.2<=1000000) (λy=>y.2) ?hI ?hround
    case hI=>exact⟨lX,cz,bN,yg,B8,ye⟩
    case hround=>
     rintro⟨W6,k6⟩ w6 ⟨pu,aP,kC,iq,vN,E2⟩ ih2;dsimp only at pu aP kC iq vN E2;obtain⟨zz,r,rfl⟩:=z50 vN;have rH:=z6d zz r;have Lb:=Y1 zz r;have mJ:=QF r;have yi:=z7D iq;rw[List.length_append,List.length_replicate,List.length_cons] at iq
     try dsimp only
     refine PG O$ Qu O$ OD$ OQ O (λh2=>?_)$ λh2=>?_
     ·obtain⟨k7,rfl⟩:∃k7,k6=k7+1:=⟨k6-1,by omega⟩;rw[z7f] at vN;have bI:=Ext.OT w6;refine OE$ Qx$ P7 [6] (λw'=>Ext w6 w') (by kernel_rfl) O$ qL 0 O (λ_ h=>OO Rr O O (h.OC kC) O) bI$ qL 1 O (λ_ h=>OO Rr O O (h.OC kC) O) bI$ QY (i:=2) (by kernel_rfl)$ Rx (i:=2) O O O (yc zbv O) (z60 _ yi _) ?_;rintro _ w7 ⟨rfl,rfl⟩;refine⟨bI,?_⟩;rw[rH];refine P9 3 O (XH O O (by omega)) bI ?_;rw[show(63:Int)-((64-(r.length+1):Nat):Int)=(r.length:Int) by omega];refine P9 4 O (QP r.length (2^r.length) O O (by omega) O) bI ?_;have fL:2^r.length<=2^63:=Nat.pow_le_pow_right (by decide) (by omega);rw[show 1*2^r.length%18446744073709551616=2^r.length by rw[Nat.one_mul];exact Nat.mod_eq_of_lt (by omega)];rw[Lb];refine P9 5 O (zl0 (by omega) mJ O O O) bI$ SM [6]$ qO 6$ PC (i:=6) O O (QQ Tf O O O (bI.OC kC) (by simp)) ?_;rintro w8 ⟨tT,aR⟩;refine⟨trivial,?_⟩;replace tT:OR w8 b8 [u64v (Pv r)] 23:=tT;refine qE$ OA$ Rh O$ Ro O$ OU O ?_;rw[show((k7+1:Nat):Int)-1=(k7:Int) by omega];refine(ih2 (List.replicate (zz+1) false++r,k7) _ ⟨R.own (R.ext pu bI (λj hj=> .inl hj)) aR (λj e=> .inr (.inr e)),(aP.trans bI.kp).An aR (λj e=> .inl (by omega)),?_,?_,vN,by dsimp only;omega⟩ (by dsimp only;omega)).qb
      ·dsimp only;rw[z2O];exact tT
      ·dsimp only;rw[List.length_append,List.length_replicate];omega
     ·have E3:k6=0:=by omega
      subst E3;rw[z9M] at vN;have NW:zz=a%8+q4:=QU vN;refine ON O$ Pf O$ qV (zfZ O O (by omega))$ qV (OO Rr O O kC O)$ P4 zbv O (z60 _ yi _) ?_;rintro _ w7 ⟨rfl,rfl⟩;rw[rH];refine PV O ?_;rw[show((a / 8*8:Nat):Int)+((64-(r.length+1):Nat):Int)=((p+q:Nat):Int) by omega];refine PU O$ OB func256 O ?_;exact⟨_,rfl,rfl,R.ext pu (Ext.refl _) (λj hj=> .inl (.inl hj)),aP⟩
  ·omega
def zb9 (l:List Nat)(f:Fm)(hf:f.UO=12+(Ph (SD f.width l)).length+(Ph (hiB f.width 0 0 l)).length)(h4:(Ph (Sg f.width l)).length=4):((YQ l f).drop f.UO).take 4=Ph (Sg f.width l):=by
 have h:=piece (A:=Ph (Pc 32 f.n++Pc 64 f.u)++Ph (SD f.width l)++Ph (hiB f.width 0 0 l)) (B:=Ph (Sg f.width l)) (C:=[]) (off:=f.UO) (n:=4) (o:=0) (by rw[List.length_append,List.length_append,show Ph (Pc 32 f.n++Pc 64 f.u)=Ph (T9 f) from rfl,UA,hf];omega) (by omega)
 have h2:((Ph (Sg f.width l)).drop 0).take 4=Ph (Sg f.width l):=by rw[List.drop_zero];exact List.take_of_length_le (by omega)
 rw[List.append_nil] at h
 exact h.trans h2
def zbV {k:Nat}{l:List Nat}{y:Nat}(h:l[0]? =some y)(hy:y<4294967296):Pv (P3 (Ph (Sg k l)))=y / 2^k/\(Ph (Sg k l)).length=4:=by
 obtain⟨r,rfl⟩:∃r,l=y::r:=by
  cases l with
  |nil=>simp at h
  |cons a r=>simp at h;subst h;exact⟨r,rfl⟩
 have hr:Sg k (y::r)=Pc 32 (y / 2^k):=rfl
 obtain⟨z,h1,h2,h3⟩:=Sn (Pc 32 (y / 2^k))
 rw[bitsN_length] at h2
 have hz:z=0:=by omega
 rw[hr,h1,hz,List.replicate_zero,List.append_nil,Qb,PD,bitsN_length]
 have:=Nat.div_le_self y (2^k)
 exact⟨Nat.mod_eq_of_lt (by omega),rfl⟩
def z30 {t:TypeId}{u:Value}{l:List Nat}{f:Fm}{z:Nat}(he:Vt l f z)(R:Src t u (YQ l f)){X:Nat->Prop}{w:World}(hI:R.inv X w)(hX:∀k,X k->k<w.heap.size){x:Nat}(hx:X x)(hB:OR w x (elC f t u) 295){i v:Nat}(hv:l[i]? =some v):
  Pm prog 250 [ptr x 0,I (i:Int)] w λr w'=>r= .tuple #[u64v v,I 0]/\R.inv X w'/\Kp (λj=>¬X j) w w':=by
 have bQ:=(List.getElem?_eq_some_iff.1 hv).1
 have az:=he.len
 have iu:=he.n2
 have oP:=he.n
 have wc:=he.zb
 have oS:f.width<=30:=by rw[he.fe];exact Zs (by omega)
 have nL:=he.small
 have rI:∀j y k y2,l[j]? =some y->l[k]? =some y2->j<=k->y<=y2:=λj y k y2 hj hk E4=>by
  obtain⟨a1,a2⟩:=List.getElem?_eq_some_iff.1 hj;obtain⟨b1,b2⟩:=List.getElem?_eq_some_iff.1 hk;rcases Nat.lt_or_ge j k with h| h
  ·have:=List.pairwise_iff_getElem.1 he.nof j k a1 b1 h
   rwa [a2,b2] at this
  ·have e:j=k:=Nat.le_antisymm E4 h;subst e;rw[hj] at hk;cases hk;exact Nat.le_refl _
 have Ic:v<=z:=rI i v _ z hv he.last (by omega)
 obtain⟨y0,E5⟩:∃y,l[0]? =some y:=⟨_,List.getElem?_eq_getElem (by omega)⟩
 have E6:y0<=v:=rI 0 y0 i v E5 hv (Nat.zero_le _)
 obtain⟨Lc,fR⟩:=zbV (k:=f.width) E5 (by omega)
 have E7:=zb9 l f (by
  have e:f.UO=f.high+(f.bits+7) / 8:=rfl
  rw[e,he.high,PD (hiB f.width 0 0 l),he.bits]) fR
 have cX:=z0R f.width l 0 0 0 y0 he.nof E5 (λy _=>Nat.zero_le _)
 have vO:=z0R f.width l 0 0 i v he.nof hv (λy _=>Nat.zero_le _)
 simp only[Nat.add_zero,Nat.sub_zero] at cX vO
 have fV:=Zr (hiB f.width 0 0 l) 0 (y0 / 2^f.width) i cX
 rw[Nat.zero_add,vO] at fV
 have Bo:y0 / 2^f.width<=v / 2^f.width:=Nat.div_le_div_right E6
 have rJ:f.UO+4<=(YQ l f).length:=by
  rw[az];have e:f.size=f.UO+4*((f.n+63) / 64):=rfl;rw[e,oP];omega
 have fG:f.UO<=40000000:=by have:=he.size_le.1;rw[az] at rJ;omega
 replace hB:OR w x [I (f.n:Int),u64v f.u,I (f.width:Int),I (f.bits:Int),.iface t u] 295:=hB
 refine py (e:=[(0,_),(1,_)]) func250 O ntmps250 O O$ qN O$ PU O$ Qx$ Pf O$ qV (Qi z3y O O)$ OU O$ OJ O$ Pf O$ Qq O$ PF$ P8 O$ OK O$ Pu O ?_
 refine OX Sw O$ OX Yx O$ qV (OO U3 O O hB O)$ Te O$ PF$ PK O$ OU O$ Tu O$ OA$ It ?_
 have hg:=Ext.OT w
 refine R5 (λw'=>Kp (λk=>¬X k) w w') O$ OZ 0 O O (hg.kp)$ OI 1 O (Q4 O) (hg.kp)$ OI 2 O (Pp z3C O) (hg.kp)$ qT 3 O (λ_ h=>OO z6B O O (h.OC hB (λe=>e hx)) O) (hg.kp)$ OZ 4 O O (hg.kp)$ OI 5 O (Q4 O) (hg.kp)$ OI 6 O (Pp Sw O) (hg.kp)$ OZ 9 O O (hg.kp)$ OI 10 O (VI O O (by omega)) (hg.kp)$ OI 11 O (Wm O O (by omega)) (hg.kp)$ qT 7 O (λ_ hS=>Pt (news:=fmC f) z5x O Ti O ((hS.OC hB (λe=>e hx)).cells (n:=4) O) O) (hg.kp)$ OI 13 O (ziN O) (hg.kp)$ OZ 14 O O (hg.kp) ?_
 refine SK 8 O zeS O (z5t f nL _) ?_
 rintro _ w1 ⟨rfl,ad⟩
 refine⟨(hg.trans ad).kp,?_⟩
 have bH:=hg.trans ad
 have mn:=R.ext hI bH (λk hk=> .inl hk)
 have iL:∀k,X k->k<w1.heap.size:=λk hk=>by have:=hX k hk;have:=bH.size;omega
 refine OI 12 O (Ud O O (by omega)) ((hg.trans ad).kp) ?_
 rw[show(f.UO:Int)+4*((i:Int) / 64)=((f.UO:Nat):Int) by omega]
 refine qO 15$ Wa (i:=15) O O O (yci R.cr R.mr O O) (R.rd f.UO 4 mn iL rJ) ?_
 rintro _ w2 ⟨rfl,cR,aq⟩
 refine⟨bH.kp.trans aq,?_⟩
 rw[E7]
 have dG:Kp (λk=>¬X k) w w2:=bH.kp.trans aq
 refine OZ 16 O O (bH.kp.trans aq)$ OI 17 O (Rw O O) (bH.kp.trans aq)$ OI 18 O (Rw O O) (bH.kp.trans aq)$ OI 19 O (R7 O) (bH.kp.trans aq)$ OI 20 O (R7 O) (bH.kp.trans aq)$ qE$ Pn.qb (e:=[(0,_),(1,_),(4,_),(5,_),(6,_),(7,_)]) ?_
 refine PG O$ Qf O$ PW O$ Qm O$ P4 z7X O (WN (Ph (Sg f.width l)) (by omega) w2) ?_
 rintro _ w3 ⟨rfl,ai⟩
 rw[Lc]
 have cu:Kp (λk=>¬X k) w w3:=dG.trans ai.kp
 have E8:=R.ext cR ai (λk hk=> .inl hk)
 have oQ:∀k,X k->k<w3.heap.size:=λk hk=>by have:=hX k hk;have:=cu.size;omega
 have au:=cu.OC hB (λe=>e hx)
 have Ld:y0 / 2^f.width<=y0:=Nat.div_le_self _ _
 have Le:v / 2^f.width<=v:=Nat.div_le_self _ _
 have mB:v / 2^f.width*2^f.width%18446744073709551616 |||v%2^f.width=v:=by
  have h1:=Nat.div_mul_le_self v (2^f.width);rw[Nat.mod_eq_of_lt (by omega),Nat.mul_comm,<-Nat.two_pow_add_eq_or_of_lt (Nat.mod_lt _ (Nat.two_pow_pos _))];exact Nat.div_add_mod v (2^f.width)
 have gX:v%2^f.width<=v:=Nat.mod_le _ _
 generalize Lf:v / 2^f.width=vq at fV Bo Le mB
 generalize y0 / 2^f.width=yq at fV Bo Ld
 refine qV (PJ O Rr U3 (by omega))$ OK O$ qV (yre O O (by omega)) ?_
 rw[show(i:Int)%64=(i:Int) by omega]
 refine P4 zgL O (z9k he R E8 oQ hx au (k:=i) (by omega) fV) ?_
 rintro _ w4 ⟨rfl,ly,ao⟩
 rw[show yq+(vq+i-yq)=vq+i by omega]
 have fx:=cu.trans ao
 have E1:∀k,X k->k<w4.heap.size:=λk hk=>by have:=hX k hk;have:=fx.size;omega
 have aK:=fx.OC hB (λe=>e hx)
 refine OK O$ RA O$ PU O$ PG O$ Qf O$ PW O$ Qm O$ P4 ziX O (z8S he R ly E1 hx aK hv) ?_
 rintro _ w5 ⟨rfl,lX,ak⟩
 have cz:=fx.trans ak
 have aH:=cz.OC hB (λe=>e hx)
 have Bj:=he.u
 refine OK O$ RA O$ PU O$ Pn.qb (e:=[(0,_),(1,_),(4,_),(5,_),(7,_),(8,_),(9,_)]) ?_
 refine PG O$ Qf O$ PW O$ Qm O$ Ro O ?_
 rw[show((vq+i:Nat):Int)-(i:Int)=(vq:Int) by omega]
 refine qV ((PZ O U3 Rr (by omega)))$ OK O$ Pu O$ OX Sw O$ OX Tp O$ qV (OO U3 O O aH O)$ qV (QP f.width (2^f.width) O O (by omega) O)$ OK O ?_
 have Bp:=Nat.mod_lt (vq*2^f.width) (show 0<18446744073709551616 by decide)
 refine qV (Zv O O (by omega) (by omega)) ?_
 rw[mB]
 refine OU O$ It$ Qm O$ Qq O$ PF$ P8 O$ OK O$ Pu O$ OX Sw O$ OX zdQ O$ qV (OO Rr O O aH O)$ Te O$ PF$ PK O ?_
 refine OD$ Pn.qb (e:=[(4,_),(5,_),(10,_),(93,_)]) ?_
 refine Tu O$ Pf O$ PU O$ OB func250 O ?_
 exact⟨_,rfl,rfl,lX,cz⟩
def zc9 (a b:OG)(w:World)(hl:(a++b).length<=100000000000):Pm prog 187 [S (a++b),S a] w λu w'=>u= .bool true/\w'=w:=by
 rw[List.length_append] at hl
 have iV:(a++b).length=a.length+b.length:=List.length_append
 have ht:(a++b).take a.length=a:=List.take_left
 refine py (e:=[(0,_),(1,_)]) func187 O ntmps187 O O$ qN O$ Qt O$ qV (SV U9 O)$ OK O$ qV (SV U9 O)$ Te O$ Rp$ P8 O$ OK O$ qV (SV U9 O)$ qV (YI U9 O O (by omega))$ OK O ?_
 rw[ht]
 refine qV (zfA O O)$ Rp$ QJ O$ OU O$ OB func187 O ?_
 exact⟨_,rfl,rfl,rfl⟩
def zbr (a b:OG)(w:World)(hl:(a++b).length<=100000000000):Pm prog 213 [S (a++b),S a] w λu w'=>u= .tuple #[S b,.bool true]/\w'=w:=by
 have iV:(a++b).length=a.length+b.length:=List.length_append
 have hd:(a++b).drop a.length=b:=List.drop_left
 refine py (e:=[(0,_),(1,_)]) func213 O ntmps213 O O$ qN O$ PU O$ It$ Qm O$ P4 ziL O (zc9 a b w hl) ?_
 rintro _ w ⟨rfl,rfl⟩
 refine qV ((Sb O))$ PW O$ Qm O$ qV (SV U9 O)$ qV (Yv U9 O O (by omega)) ?_
 rw[hd]
 refine PU O$ OB func213 O ?_
 exact⟨_,rfl,rfl,rfl⟩
def z6j (a b:OG)(w:World)(hl:(a++b).length<=100000000000):Pm prog 179 [S (a++b),S a] w λu w'=>u= .tuple #[S b,.bool true]/\w'=w:=by
 refine py (e:=[(0,_),(1,_)]) func179 O ntmps179 O O$ qN O$ RT O$ Qw O$ P8 O$ P4 zi5 O (zbr a b w hl) ?_
 rintro _ w ⟨rfl,rfl⟩
 refine RA O$ PU O$ OB func179 O ?_
 exact⟨_,rfl,rfl,rfl⟩
def T7 {w:World}{r a b6 b7:Nat}{s:OG}(h:TX w r s a)(aQ:OR w b6 [ptr r 0] 291)(bP:OR w b7 [.bool false] 4)(h6:b6≠r/\b7≠r/\b6≠b7)(n v:Nat)(hn:n<=64)(hv:v<2^n)(jX:v<=134217728)(rest:List Bool)(hb:(P3 s).drop a=Pc n v++rest):
  Pm prog 181 [I (n:Int),ptr b6 0,ptr b7 0] w λu w'=>u=I (v:Int)/\TX w' r s (a+n)/\OR w' b6 [ptr r 0] 291/\OR w' b7 [.bool false] 4/\Kp (λk=>k=r\/k=b7) w w':=by
 have az:a+n<=8*s.length:=by
  have e:=congrArg List.length hb;rw[List.length_drop,bitsT_length,List.length_append,bitsN_length] at e;have:=h.2.1;omega
 have qa:Pv (((P3 s).drop a).take n)=v:=by
  rw[hb,List.take_left' (by simp),Qb];exact Nat.mod_eq_of_lt hv
 refine py (e:=[(0,_),(1,_),(2,_)]) func181 O ntmps181 O O$ qN O$ Qw O$ qV (OO Vj O O aQ O)$ OK O$ P4 z43 O (VD h n hn) ?_
 rintro v1 w1 eU
 have gd:v1= .tuple #[u64v v,I 0]/\TX w1 r s (a+n)/\Kp (λk=>k=r) w w1:=by
  rcases eU with⟨-,e,h1,hk⟩|⟨e,-,-⟩
  ·rw[qa] at e;exact⟨e,h1,hk⟩
  ·omega
 obtain⟨rfl,h1,aL⟩:=gd
 have yj:=aL.OC bP h6.2.1
 have E9:=aL.OC aQ h6.1
 refine OK O$ RA O$ RT O$ Qw O$ qV (OO U4 O O yj O)$ P8 O$ Qf O$ PK O$ P8 O$ Qu O$ PF$ PK O$ OW O (QQ W3 O O O yj (by simp)) ?_
 rintro w2 ⟨ek,aq⟩
 refine qM O$ OK O$ qV (Tk O O (by omega) (by omega)) ?_
 rw[show v&&&268435455=v from(Nat.and_two_pow_sub_one_eq_mod v 28).trans (Nat.mod_eq_of_lt (by omega))]
 refine qV (PJ O Rr U3 (by omega))$ OU O$ OB func181 O ?_
 exact⟨_,rfl,rfl,⟨aq.OC h1.1 (λe=>h6.2.1 e.symm),h1.2⟩,aq.OC E9 h6.2.2,ek,(aL.OV λk e=> .inl e).trans (aq.OV λk e=> .inr e)⟩
def Ta {s:List Bool}{n v a:Nat}{rest:List Bool}(h:s.drop a=Pc n v++rest):s.drop (a+n)=rest:=by
 rw[<-List.drop_drop,h,List.drop_left' (by simp)]
def zdP (h:PHd):P3 (Ph (Rs (Za h)))=Pc 32 h.n++(Pc 32 h.m++(Pc 8 h.p.Pb++(Pc 8 h.p.chain++(Pc 8 h.p.interval++(Pc 8 h.p.zeta++(Pc 32 h.p.most++(Pc 64 h.bits++[]))))))):=by
 obtain⟨z,h1,h2,h3⟩:=Sn (Rs (Za h))
 have hl:=UK h
 have hz:z=0:=by omega
 rw[h1,hz,List.replicate_zero,List.append_nil]
 rfl
def z8W (h:PHd)(hh:h.QA)(w:World):Pm prog 147 [S (hdT h)] w λu w'=>u= .tuple #[hdV h,I 0]/\Ext w w':=by
 obtain⟨g1,g2,g3,g4,g5⟩:=id hh
 obtain⟨q1,q2,q3⟩:=id g5
 obtain⟨r1,r2,r3,r4⟩:=id q1
 have r1':h.p.Pb<=16:=r1
 have r2':h.p.interval<=64:=by
  have:h.p.interval=0\/2<=h.p.interval/\h.p.interval<=64:=r2;omega
 have r4':h.p.zeta<=16:=r4
 have Lg:=WK h
 have oV:=zdP h
 rw[show P3 (Ph (Rs (Za h)))=(P3 (Ph (Rs (Za h)))).drop 0 from List.drop_zero.symm] at oV
 have fL:(Ph (Rs (Za h))).length=24:=by rw[PD,UK]
 refine py (e:=[(0,_)]) func147 O ntmps147 O O$ qN O$ OM O O (RN (cs:=[_,_,_,_,_,_,_,_]) U7 O) ?_
 rintro _ w1 ⟨b2,rfl,cn,ad,am⟩
 refine Qt O$ Qz O O (yc (args:=[.tmp 11,.const (Value.string (⟨#[119,116,108,49]⟩))]) zhI O) (z6j z8y (Ph (Rs (Za h))) _ (by rw[show z8y++Ph (Rs (Za h))=hdT h from rfl];omega)) ?_
 rintro _ w1 ⟨rfl,rfl⟩
 refine OK O$ RA O$ PU O$ PG O$ qV ((Sb O))$ P8 O$ qV (SV U9 O)$ Qq O$ PF$ PK O$ PW O$ Pf O ?_
 generalize Ph (Rs (Za h))=pt at oV fL
 refine P4 z84 O (X8 pt (by omega) w1) ?_
 rintro _ w2 ⟨r,rfl,cO,ae,dw⟩
 refine OM O O (RN (cs:=[_]) z2G O) ?_
 rintro _ w3 ⟨b6,rfl,jQ,ai,aQ⟩
 refine OW O (QQ z2G O O O aQ (by simp)) ?_
 rintro w4 ⟨jj,ao⟩
 replace jj:OR w4 b6 [ptr r 0] 291:=jj
 refine qM O$ OM O O (RN (cs:=[_]) W3 O) ?_
 rintro _ w5 ⟨b7,rfl,jS,aT,bP⟩
 refine OW O (QQ W3 O O O bP (by simp)) ?_
 rintro w6 ⟨qc,aP⟩
 replace qc:OR w6 b7 [.bool false] 4:=qc
 have z1:=ad.size
 have z2:=ae.size
 have z3:=ai.size
 have z4:=ao.size
 have z5:=aT.size
 have lr:=cO.1.lt
 have l6:=jj.lt
 have l2:=am.lt
 have tU:=aP.OC (aT.OC jj) (by omega)
 have ll:TX w6 r pt 0:=⟨aP.OC (aT.OC (ao.OC (ai.OC cO.1) (by omega))) (by omega),cO.2⟩
 have aX:Ext w1 w6:=(((ae.trans ai).An ao (λi e=>by omega)).trans aT).An aP (λi e=>by omega)
 refine qM O$ qV (ymf (first:=[]) (caps:=[.tmp 6,.tmp 7]) O O)$ Qt O$ Qz O O (RY ZZ O O) (T7 ll tU qc ⟨by omega,by omega,by omega⟩ 32 h.n (by decide) (by omega) (by omega) _ oV) ?_
 rintro _ v0 ⟨rfl,Ea,yk,ym,yn⟩
 have yo:=Ta oV
 refine OK O$ Qz O O (RY ZZ O O) (T7 Ea yk ym ⟨by omega,by omega,by omega⟩ 32 h.m (by decide) (by omega) (by omega) _ yo) ?_
 rintro _ v1 ⟨rfl,yp,yr,yt,yu⟩
 have yv:=Ta yo
 refine qV (Sk (cs:=[_,_,_,_,_,_,_,_]) U7 O zfu O O)$ OM O O (RN (cs:=[_,_,_,_,_,_,_,_]) U7 O) ?_
 rintro _ w7 ⟨b9,rfl,oI,bY,cI⟩
 have zv1:=yn.size
 have zv2:=yu.size
 have z7:=bY.size
 have z6:=aP.size
 have l9:=cI.lt
 refine OW O (PO (news:=[I (h.n:Int),I (h.m:Int),I 0,I 0,I 0,I 0,I 0,I 0]) U7 O O O O cI (by simp)) ?_
 rintro w8 ⟨tV,aR⟩
 replace tV:OR w8 b9 [I (h.n:Int),I (h.m:Int),I 0,I 0,I 0,I 0,I 0,I 0] 160:=tV
 have l7:=qc.lt
 have dy:Ext v1 w8:=bY.An aR (λi e=>by omega)
 have vt:TX w8 r pt (0+32+32):=⟨dy.OC yp.1,yp.2⟩
 have iN:=dy.OC yr
 have Eb:=dy.OC yt
 have oK:Kp (λk=>k=r\/k=b7) w6 w8:=(yn.trans yu).trans dy.kp
 refine OD$ Pn.qb (e:=[(2,_),(3,_),(7,_),(8,_),(9,_)]) ?_
 refine Pf O$ Qz O O (RY ZZ O O) (T7 vt iN Eb ⟨by omega,by omega,by omega⟩ 8 h.p.Pb (by decide) (by omega) (by omega) _ yv) ?_
 rintro _ v2 ⟨rfl,Ec,yw,yx,Ed⟩
 have yz:=Ta yv
 refine OK O$ Qz O O (RY ZZ O O) (T7 Ec yw yx ⟨by omega,by omega,by omega⟩ 8 h.p.chain (by decide) (by omega) (by omega) _ yz) ?_
 rintro _ v3 ⟨rfl,Ee,yA,yB,Ef⟩
 have yC:=Ta yz
 refine OK O$ Qz O O (RY ZZ O O) (T7 Ee yA yB ⟨by omega,by omega,by omega⟩ 8 h.p.interval (by decide) (by omega) (by omega) _ yC) ?_
 rintro _ v4 ⟨rfl,Eg,yD,yE,Eh⟩
 have yF:=Ta yC
 refine OK O$ Qz O O (RY ZZ O O) (T7 Eg yD yE ⟨by omega,by omega,by omega⟩ 8 h.p.zeta (by decide) (by omega) (by omega) _ yF) ?_
 rintro _ v5 ⟨rfl,Ei,yG,yH,Ej⟩
 have yI:=Ta yF
 refine OK O$ Qz O O (RY ZZ O O) (T7 Ei yG yH ⟨by omega,by omega,by omega⟩ 32 h.p.most (by decide) (by omega) (by omega) _ yI) ?_
 rintro _ v6 ⟨rfl,yJ,yK,yL,Ek⟩
 have yM:=Ta yI
 have ja:Kp (λk=>k=r\/k=b7) w8 v6:=(((Ed.trans Ef).trans Eh).trans Ej).trans Ek
 have El:=ja.OC tV (by omega)
 refine qV (Sk (cs:=[_,_,_,_,_]) RK O zd2 O O)$ OX Yj O$ OW O (PO (news:=Vn h.p) RK O O O O El (by simp)) ?_
 rintro w9 ⟨tW,aM⟩
 replace tW:OR w9 b9 [I (h.n:Int),I (h.m:Int),I (h.p.Pb:Int),I (h.p.chain:Int),I (h.p.interval:Int),I (h.p.zeta:Int),I (h.p.most:Int),I 0] 160:=tW
 have vA:TX w9 r pt (0+32+32+8+8+8+8+32):=⟨aM.OC yJ.1 (by omega),yJ.2⟩
 have kD:=aM.OC yK (by omega)
 have Em:=aM.OC yL (by omega)
 refine qM O$ OK O$ Qz O O (RY ZZ O O) (T7 vA kD Em ⟨by omega,by omega,by omega⟩ 64 h.bits (by decide) (by omega) (by omega) _ yM) ?_
 rintro _ v7 ⟨rfl,Lh,Ip,yN,yO⟩
 have Li:=Ta yM
 have En:=yO.OC tW (by omega)
 refine OX UT O$ OW O (QQ Q7 O O O En (by simp)) ?_
 rintro w10 ⟨lA,ar⟩
 replace lA:OR w10 b9 (hdC h) 160:=lA
 have yP:=ar.OC yN (by omega)
 have yQ:Kp (λk=>k=r\/k=b7\/k=b9) w6 w10:=((((oK.trans ja).OV λk e=>by omega).trans (aM.OV λk e=>by omega)).trans (yO.OV λk e=>by omega)).trans (ar.OV λk e=>by omega)
 have e8:Ext w1 w10:=aX.An yQ (λk e=>by omega)
 refine OD$ It$ qN O$ qV (OO U4 O O yP O)$ OK O$ qV (Pt (news:=hdC h) z6v O U7 O (lA.cells (n:=8) O) O)$ P4 zcI O (XW h hh _) ?_
 rintro _ w11 ⟨rfl,aS⟩
 refine Qf O$ PK O$ OD$ Pn.qb (e:=[(2,_),(3,_),(9,_),(51,_)]) ?_
 refine Tu O$ qN O$ qV (Pt (news:=hdC h) z6v O U7 O ((aS.OC lA).cells (n:=8) O) O) ?_
 have yR:=(e8.trans aS).OC am
 refine OW O (PO (news:=hdC h) U7 O O O O yR (by simp)) ?_
 rintro w12 ⟨jk,bh⟩
 replace jk:OR w12 b2 (hdC h) 160:=jk
 replace jk:OR w12 b2 [I (h.n:Int),I (h.m:Int),I (h.p.Pb:Int),I (h.p.chain:Int),I (h.p.interval:Int),I (h.p.zeta:Int),I (h.p.most:Int),I (h.bits:Int)] 160:=jk
 refine OU O$ Po func147 (.cell z6v O U7 O (OR.cells (n:=8) jk (news:=[_,_,_,_,_,_,_,_]) O) O (.tmp O .nil)) ?_
 exact⟨_,rfl,rfl,((ad.trans e8).trans aS).An bh (λk e=>by omega)⟩
def z8P (h:PHd)(hh:h.QA)(cn:h.n<=500)(w:World):Pm prog 148 [hdV h] w λu w'=>u= .tuple #[I ((28+(h.bits+7) / 8+(U1 (h.n+1) (h.bits+1)).size:Nat):Int),I 0]/\Ext w w':=by
 obtain⟨g1,g2,g3,g4,g5⟩:=id hh
 have hs:=z3U (n:=h.n+1) (u:=h.bits+1) (by omega) (by omega) (by omega) (by omega)
 have cG:(U1 (h.n+1) (h.bits+1)).size<=40000000:=by
  have h2:=Fm.Xg hs;obtain⟨h3,h4,h5⟩:=hs;unfold Fm.size Fm.UO;omega
 refine py (e:=[(0,_)]) func148 O ntmps148 O O$ qN O$ OM O O (Rm O (cs:=hdC h) O) ?_
 rintro _ w1 ⟨b1,rfl,bU,ad,aj⟩
 replace aj:OR w1 b1 [I (h.n:Int),I (h.m:Int),I (h.p.Pb:Int),I (h.p.chain:Int),I (h.p.interval:Int),I (h.p.zeta:Int),I (h.p.most:Int),I (h.bits:Int)] 160:=aj
 refine PU O$ It$ qN O$ qV (Pt (news:=hdC h) z6v O U7 O (aj.cells (n:=8) O) O)$ P4 zcI O (XW h hh _) ?_
 rintro _ w2 ⟨rfl,ae⟩
 have bC:=ae.OC aj
 refine Qt O$ Qf O$ PW O$ qN O$ OX Uj O$ qV (OO U3 O O bC O)$ PV O$ OX UT O$ qV (OO U3 O O bC O)$ qV ((PZ O U3 Rr (by omega))) ?_
 rw[show(h.n:Int)+1=((h.n+1:Nat):Int) by omega]
 refine P4 ziu O (z6Y (h.n+1) h.bits (by omega) (by omega) (by omega) _) ?_
 rintro _ w3 ⟨rfl,ai⟩
 have eM:=ai.OC bC
 refine OK O$ qV (Rw (v:=I ((U1 (h.n+1) (h.bits+1)).size:Int)) O O)$ qV (Rw (v:=I 0) O O) ?_
 generalize (U1 (h.n+1) (h.bits+1)).size=q at cG
 refine RT O$ Qw O$ OX UT O$ qV (OO U3 O O eM O)$ PV O$ qV (VI O O (by omega))$ PV O$ OK O$ PV O$ OK O$ PU O$ Pn.qb (e:=[(2,_),(3,_)]) ?_
 refine OB func148 O (⟨_,rfl,?_,(ad.trans ae).trans ai⟩)
 show Value.tuple #[I (28+((h.bits:Int)+7) / 8+(q:Int)),I 0]= .tuple #[I ((28+(h.bits+7) / 8+q:Nat):Int),I 0]
 rw[show(28:Int)+((h.bits:Int)+7) / 8+(q:Int)=((28+(h.bits+7) / 8+q:Nat):Int) by omega]
section
variable {P:Program}{e:Env}{d:Option Nat}{ty t:TypeId}{pos:String}{aft:Array Edge}{g:Option (Nat×Bool)}{x:Operand}{w:World}
def z71 {f:FuncId}{name:String}{u:Value}(h:methT P t name=some f):(nilAhead (P.types.size+Made.depth) t u name).run P w= .ok (some false) w:=by
 rw[show P.types.size+Made.depth=P.types.size+(Made.depth-1)+1 from rfl]
 unfold methT at h
 split at h<;>try cases h
 rename_i i hi
 split at h<;>try cases h
 rename_i m hm
 split at h<;>try cases h
 rename_i f' pr jh ji
 have ny:i.methods.find? (·.name==name)=some m:=by rw[<-hm,Array.find?_toList]
 unfold nilAhead
 split at h<;>try cases h
 ·rename_i el hu
  cases pr<;>simp at h;subst h;simp[TR hi,ny,jh,followBlind,ji]
 ·rename_i td Ij hu
  cases pr<;>simp at h;subst h;simp only[Sem.run_bind,TR hi,Result.andThen_ok,ny,jh,followBlind,Sem.run_pure,ji,run_underlying hu];cases td<;>first|exact absurd rfl (Ij _)|rfl
def zhb {td:TypeDesc}{v:Value}(ht:P.underlying t=some td)(hn:∀ms,td≠ .interface ms)(hx:look e x=some v):Y P e ⟨d,.makeInterface t x,ty,pos,aft,g⟩ (.iface t v) w w:=fun ρ hρ=>by
 simp only[execOp,hρ _ _ hx,Instr.makeInterface,Sem.run_bind,run_underlying ht,Result.andThen_ok]
 cases td<;>first|rfl|exact(hn _ rfl).elim
def ymm {nm:String}{v:Value}(hx:look e x=some v):Y P e ⟨d,.makeFunc (.method nm) #[x] #[],ty,pos,aft,g⟩ (.func (.method nm) #[v] #[]) w w:=fun ρ hρ=>by
 simp[execOp,hρ _ _ hx,Instr.makeFunc]
def zkx {f:FuncId}{nm:String}{tx:TypeId}{v:Value}(hm:methT P tx nm=some f)(hx:look e x=some (.func (.method nm) #[.iface tx v] #[])):Y P e ⟨d,.nilCheck x,ty,pos,aft,g⟩ (.func (.method nm) #[.iface tx v] #[]) w w:=fun ρ hρ=>by
 have hn:=z71 (w:=w) (u:=v) hm
 have sX:(program).run P w= .ok P w:=rfl
 simp[execOp,hρ _ _ hx,sX,hn]
end
def z0j (t:TypeId)(u:Value)(a n:Nat):Value:= .agg #[.iface t u,I (a:Int),I (n:Int)]
def z4U (t:TypeId)(u:Value)(a n:Nat)(w:World):Pm prog 308 [z0j t u a n] w λv w'=>v=I (n:Int)/\Ext w w':=by
 unfold z0j
 refine py (e:=[(0,_)]) func308 O ntmps308 O O$ qN O$ OM O O (Rm O (cs:=[.iface t u,I (a:Int),I (n:Int)]) O) ?_
 rintro _ w1 ⟨b1,rfl,bU,ad,aj⟩
 refine Qw O$ OX z3i O$ qV (OO U3 O O aj O)$ OU O$ OB func308 O ?_
 exact⟨_,rfl,rfl,ad⟩
def z65 {t:TypeId}{u:Value}{T:OG}(R:Src t u T){X:Nat->Prop}{w:World}(a n:Nat)(oW:a+n<=T.length)(hT:T.length<=100000000000)(off m:Nat)(hI:R.inv X w)(hX:∀k,X k->k<w.heap.size)(h:off+m<=n):
  Pm prog 309 [z0j t u a n,I (off:Int),I (m:Int)] w λv w'=>v= .tuple #[S ((((T.drop a).take n).drop off).take m),I 0]/\R.inv X w'/\Kp (λk=>¬X k) w w':=by
 have e:(((T.drop a).take n).drop off).take m=(T.drop (a+off)).take m:=by
  rw[List.drop_take,List.take_take,List.drop_drop,show min m (n-off)=m by omega]
 rw[e]
 unfold z0j
 refine py (e:=[(0,_),(1,_),(2,_)]) func309 O ntmps309 O O$ qN O$ OM O O (Rm O (cs:=[.iface t u,I (a:Int),I (n:Int)]) O) ?_
 rintro _ w1 ⟨b1,rfl,bU,ad,aj⟩
 refine PU O$ PG O$ Qq O$ P8 O$ Qq O$ PF$ PK O$ P8 O$ OX z3i O$ qV (OO U3 O O aj O)$ Qu O$ PF$ PK O$ P8 O ?_
 refine OX z3i O$ qV (OO U3 O O aj O)$ OK O$ Ro O$ Qu O$ PF$ PK O$ OD$ Pn.qb (e:=[(1,_),(2,_),(3,_),(6,_),(7,_),(27,_)]) ?_
 refine Tu O$ qN O$ OX zd1 O$ qV (OO z6B O O aj O)$ OX zdX O$ qV (OO U3 O O aj O)$ OK O$ PV O$ OK O ?_
 rw[show(a:Int)+(off:Int)=((a+off:Nat):Int) by omega]
 refine Qz O O (yci R.cr R.mr O O) (R.rd (a+off) m (R.ext hI ad (λk hk=> .inl hk)) (λk hk=>by have:=hX k hk;have:=ad.size;omega) (by omega)) ?_
 rintro _ w2 ⟨rfl,cR,aq⟩
 refine RA O$ PU O$ OB func309 O ?_
 exact⟨_,rfl,rfl,cR,ad.kp.trans aq⟩
def zfe {t:TypeId}{u:Value}{T:OG}(R:Src t u T)(a n:Nat)(B:OG)(oW:a+n<=T.length)(hT:T.length<=100000000000)(hB:(T.drop a).take n=B):Src 247 (z0j t u a n) B where
 inv:=R.inv
 fl:=308
 fr:=309
 cl:=zjj
 cr:=zhF
 ml:=by kernel_rfl
 mr:=by kernel_rfl
 ext:=R.ext
 step:=R.step
 len:=fun {X w} h=>by
  have e:B.length=n:=by rw[<-hB,List.length_take,List.length_drop];omega
  rw[e];exact z4U t u a n w
 rd:=fun {X w} off m h hX ho=>by
  have e:B.length=n:=by rw[<-hB,List.length_take,List.length_drop];omega
  rw[<-hB];exact z65 R a n oW hT off m h hX (by omega)
def Wc (p:Qr)(g:List (List Nat))(E:List (Nat×Nat)):PHd:=⟨g.length,Qy g,p,(QD p g E g.length).length⟩
def pfm (p:Qr)(g:List (List Nat))(E:List (Nat×Nat)):Fm:=U1 (g.length+1) ((QD p g E g.length).length+1)
structure T2 (p:Qr)(g:List (List Nat))(E:List (Nat×Nat)):Prop where
 QA:p.QA
 gr:Se g
 n1:1<=g.length
 pk:zbZ p g E
section
variable {p:Qr}{g:List (List Nat)}{E:List (Nat×Nat)}
def T2.head (h:T2 p g E):(Wc p g E).QA:=by
 have hn:=h.gr.n
 have hb:=h.pk.bits
 have tN:=U8 h.gr g.length
 rw[List.take_length] at tN
 exact⟨h.n1,(by show g.length<=_;omega),(by show Qy g<=_;omega),(by show(QD p g E g.length).length<=_;omega),h.QA⟩
theorem T2.ef (h:T2 p g E):Vt (Wn p g E g.length) (pfm p g E) (QD p g E g.length).length:=by
 have hn:=h.gr.n
 have hb:=h.pk.bits
 have az:=z3p p g E g.length
 refine⟨by omega,by omega,z8u p g E g.length,?_,by omega,?_⟩
 ·rw[az,Nat.add_sub_cancel];exact z0G p g E (Nat.le_refl g.length)
 ·rw[az];rfl
def Wh (p:Qr)(g:List (List Nat))(E:List (Nat×Nat)):Nat:=28+((QD p g E g.length).length+7) / 8
theorem T2.len (h:T2 p g E):(XY p g E).length=Wh p g E+(pfm p g E).size:=by
 unfold XY Wh
 rw[List.length_append,List.length_append,WK,PD]
 have:=h.ef.len
 show _+(YQ (Wn p g E g.length) (pfm p g E)).length=_
 rw[this]
def T2.small (h:T2 p g E):(XY p g E).length<=50000000/\40<=(XY p g E).length:=by
 have h1:=h.ef.size_le
 have h2:=h.len
 have h3:=h.pk.bits
 unfold Wh at h2
 omega
theorem zdN:((XY p g E).drop 0).take 28=hdT (Wc p g E):=by
 unfold XY
 rw[List.drop_zero,List.append_assoc,<-WK (Wc p g E)]
 exact List.take_left
theorem T2.index (h:T2 p g E):((XY p g E).drop (Wh p g E)).take (pfm p g E).size=YQ (Wn p g E g.length) (pfm p g E):=by
 have h1:(hdT (Wc p g E)++Ph (QD p g E g.length)).length=Wh p g E:=by
  rw[List.length_append,WK,PD];rfl
 have h2:=h.ef.len
 unfold XY
 show((hdT (Wc p g E)++Ph (QD p g E g.length)++YQ (Wn p g E g.length) (pfm p g E)).drop _).take _=_
 rw[<-h1,List.drop_left,<-h2,List.take_length]
theorem zds (h:T2 p g E)(a n:Nat)(hn:8*(a+n)<=(QD p g E g.length).length+7):((XY p g E).drop (28+a)).take n=((Ph (QD p g E g.length)).drop a).take n:=by
 unfold XY
 exact piece (by rw[WK]) (by rw[PD];omega)
end
def gwC (h:PHd)(t:TypeId)(u:Value)(x:Nat):List Value:=[I (h.n:Int),I (h.m:Int),I (h.p.Pb:Int),I (h.p.chain:Int),I (h.p.interval:Int),I (h.p.zeta:Int),I (h.p.most:Int),I (h.bits:Int),.iface t u,ptr x 0]
def z7d {t:TypeId}{u:Value}{p:Qr}{g:List (List Nat)}{E:List (Nat×Nat)}(hp:T2 p g E)(R:Src t u (XY p g E)){X:Nat->Prop}{w:World}(hI:R.inv X w)(hX:∀k,X k->k<w.heap.size):
  Pm prog 112 [.iface t u] w λv w'=>∃k x,v= .tuple #[ptr k 0,I 0]/\OR w' k (gwC (Wc p g E) t u x) 165/\OR w' x (elC (pfm p g E) 247 (z0j t u (Wh p g E) (pfm p g E).size)) 295/\w.heap.size<=x/\w.heap.size<=k/\x≠k/\R.inv (λj=>X j\/j=x\/j=k) w'/\Kp (λj=>¬X j) w w':=by
 have az:=hp.len
 obtain⟨dA,df⟩:=hp.small
 have hn:=hp.gr.n
 have cX:=hp.n1
 have rg:=hp.pk.bits
 have hg:=Ext.OT w
 have rK:=hp.head
 have vP:(Wc p g E).bits=(QD p g E g.length).length:=rfl
 have NX:Wh p g E=28+((Wc p g E).bits+7) / 8:=rfl
 have NY:(Wc p g E).n=g.length:=rfl
 refine py (e:=[(0,_)]) func112 O ntmps112 O O$ qN O$ PU O$ PG O$ qV (zew z6B O O)$ PW O$ It$ R5 (λw'=>R.inv X w'/\Kp (λk=>¬X k) w w') O$ OZ 0 O O (⟨R.ext hI hg (λk hk=> .inl hk),hg.kp⟩)$ OZ 1 O O (⟨R.ext hI hg (λk hk=> .inl hk),hg.kp⟩)$ OI 4 O (ymm O) (⟨R.ext hI hg (λk hk=> .inl hk),hg.kp⟩)$ OI 5 O (zkx R.mr O) (⟨R.ext hI hg (λk hk=> .inl hk),hg.kp⟩)$ OZ 6 O O (⟨R.ext hI hg (λk hk=> .inl hk),hg.kp⟩)$ qO 2 ?_
 refine Wa (i:=2) O O O (yci R.cl R.ml O O) (R.len (R.ext hI hg (λk hk=> .inl hk))) ?_
 rintro _ w1 ⟨rfl,ad⟩
 refine⟨⟨R.ext hI (hg.trans ad) (λk hk=> .inl hk),(hg.trans ad).kp⟩,?_⟩
 have bH:=hg.trans ad
 rw[az]
 refine OI 3 O (ymi O O) (⟨R.ext hI (hg.trans ad) (λk hk=> .inl hk),(hg.trans ad).kp⟩) ?_
 rw[show min (28:Int) ((Wh p g E+(pfm p g E).size:Nat):Int)=((28:Nat):Int) by omega]
 have mn:=R.ext hI bH (λk hk=> .inl hk)
 have iL:∀k,X k->k<w1.heap.size:=λk hk=>by have:=hX k hk;have:=bH.size;omega
 refine qO 7$ Wa (i:=7) O O O (yci R.cr R.mr O O) (R.rd 0 28 mn iL (by omega)) ?_
 rintro _ w2 ⟨rfl,cR,aq⟩
 refine⟨⟨cR,bH.kp.trans aq⟩,?_⟩
 rw[zdN]
 have dG:Kp (λk=>¬X k) w w2:=bH.kp.trans aq
 have gR:∀k,X k->k<w2.heap.size:=λk hk=>by have:=iL k hk;have:=aq.size;omega
 refine OZ 8 O O (⟨cR,bH.kp.trans aq⟩)$ OI 9 O (Rw O O) (⟨cR,bH.kp.trans aq⟩)$ OI 10 O (Rw O O) (⟨cR,bH.kp.trans aq⟩)$ OI 11 O (R7 O) (⟨cR,bH.kp.trans aq⟩)$ OI 12 O (R7 O) (⟨cR,bH.kp.trans aq⟩)$ qE$ PG O$ Qf O$ PW O$ Pf O$ P4 zjF O (z8W (Wc p g E) rK w2) ?_
 rintro _ w3 ⟨rfl,ai⟩
 refine OK O$ qV (Rw (v:=hdV (Wc p g E)) O O)$ qV (Rw (v:=I 0) O O)$ OM O O (RN (cs:=[_,_,_,_,_,_,_,_]) U7 O) ?_
 rintro _ w4 ⟨b6,rfl,jQ,aD,aQ⟩
 refine OW O (PO (news:=hdC (Wc p g E)) U7 O O O O aQ (by simp)) ?_
 rintro w5 ⟨fQ,ak⟩
 replace fQ:OR w5 b6 (hdC (Wc p g E)) 160:=fQ
 have bV:Ext w3 w5:=aD.An ak (λi e=>by omega)
 have iC:=ai.trans bV
 refine OU O$ Pn.qb (e:=[(0,_),(2,_),(3,_),(5,_),(6,_)]) ?_
 refine PG O$ Qf O$ PW O$ It$ qN O$ qV (Pt (news:=hdC (Wc p g E)) z6v O U7 O (fQ.cells (n:=8) O) O)$ P4 zjR O (z8P (Wc p g E) rK (by show g.length<=_;omega) _) ?_
 rintro _ w6 ⟨rfl,aI⟩
 have iD:=iC.trans aI
 have pu:=R.ext cR iD (λk hk=> .inl hk)
 have tU:=aI.OC fQ
 refine OK O$ qV (Rw (v:=I ((Wh p g E+(pfm p g E).size:Nat):Int)) O O)$ qV (Rw (v:=I 0) O O)$ RT O$ Qt O$ Qf O$ PF$ P8 O$ OK O$ Qz O O (yci R.cl R.ml O O) (R.len pu) ?_
 rintro _ w7 ⟨rfl,bY⟩
 rw[az]
 have Eo:=iD.trans bY
 have qd:=bY.OC tU
 refine Qf O$ PF$ PK O ?_
 replace qd:OR w7 b6 [I ((Wc p g E).n:Int),I ((Wc p g E).m:Int),I ((Wc p g E).p.Pb:Int),I ((Wc p g E).p.chain:Int),I ((Wc p g E).p.interval:Int),I ((Wc p g E).p.zeta:Int),I ((Wc p g E).p.most:Int),I ((Wc p g E).bits:Int)] 160:=qd
 refine PW O$ qN O$ OX UT O$ qV (OO U3 O O qd O)$ PV O$ qV (VI O O (by omega))$ PV O ?_
 rw[show 28+((((Wc p g E).bits:Nat):Int)+7) / 8=(Wh p g E:Int) by omega]
 refine OU O$ Pn.qb (e:=[(0,_),(2,_),(3,_),(5,_),(6,_),(9,_)]) ?_
 refine Qm O$ OK O ?_
 have jE:=R.ext pu bY (λk hk=> .inl hk)
 refine Qz O O (yci R.cl R.ml O O) (R.len jE) ?_
 rintro _ w8 ⟨rfl,dy⟩
 rw[az]
 have jg:=Eo.trans dy
 have nK:=R.ext jE dy (λk hk=> .inl hk)
 have iN:=dy.OC qd
 have z28:=jg.size
 refine OK O$ Ro O ?_
 rw[show((Wh p g E+(pfm p g E).size:Nat):Int)-(Wh p g E:Int)=((pfm p g E).size:Int) by omega]
 refine qV (Sk (cs:=[_,_,_]) zgR O zk4 O O)$ qV (zhb zlp (λ_ h=>by cases h) rfl) ?_
 have lb6:=iN.lt
 have Lj:=R.ext (Y:=λk=>X k\/k=b6) cR jg (λk hk=>hk.imp id λe=>by have:=ai.size;omega)
 have iZ:∀k,(X k\/k=b6)->k<w8.heap.size:=λk hk=>by
  rcases hk with hk| e
  ·have:=gR k hk;have:=jg.size;omega
  ·omega
 refine P4 zgG O (z6s hp.ef (zfe R (Wh p g E) (pfm p g E).size (YQ (Wn p g E g.length) (pfm p g E)) (by omega) (by omega) hp.index) (X:=λk=>X k\/k=b6) Lj iZ) ?_
 rintro _ w9 ⟨x,rfl,j0,hx,gQ,aM⟩
 have kD:=aM.OC iN (λhh=>hh (.inr O))
 have Ep:Kp (λk=>¬X k) w2 w9:=jg.kp.trans (aM.OV λk hk e=>hk (.inl e))
 have z9:=aM.size
 refine OK O$ qV (Rw (v:=ptr x 0) O O)$ qV (Rw (v:=I 0) O O)$ PU O$ Qx$ Pf O$ Qf O$ OU O$ OJ O$ It ?_
 have iO:=Ext.OT w9
 refine R5 (λw'=>Ext w9 w') O$ OZ 0 O O (iO)$ OI 2 O (Pp Uj O) iO$ qT 3 O (λ_ h=>OO U3 O O (h.OC kD) O) iO$ OI 4 O (Ud O O (by omega)) iO$ SK 1 O zjw O (z8Z (iO.OC j0)) ?_
 rintro _ w10 ⟨rfl,rfl⟩
 refine⟨iO,?_⟩
 rw[show(pfm p g E).n=(Wc p g E).n+1 from rfl]
 refine OI 5 O (yne O O) iO$ OI 6 O (R7 O) iO$ qE$ Pn.qb (e:=[(0,_),(2,_),(3,_),(6,_),(10,_),(69,_)]) ?_
 have im:=iO.OC kD
 have yS:=iO.OC j0
 refine OQ O (λh9=>?_)$ λh9=>?_
 ·exact absurd (by omega) h9
 ·refine OE$ OA$ qN O$ qV (Pt (news:=hdC (Wc p g E)) z6v O U7 O (OR.cells (n:=8) im O) O)$ P8 O$ qV (Sk (cs:=[_,_,_,_,_,_,_,_,_,_]) zht O zhO O O)$ OM O O (Rm O (cs:=gwC (Wc p g E) t u x) O) ?_;rintro _ w11 ⟨k,rfl,hk,aS,bA⟩;refine PU O$ OB func112 O ?_;have Er:=iO.trans aS;have z02:=dG.size;have z28:=jg.size;have zdd:=iO.size;have lbx:=yS.lt;refine⟨_,rfl,k,x,rfl,bA,Er.OC j0,by omega,by omega,by omega,R.ext gQ Er (λj hj=>?_),(dG.trans Ep).trans Er.kp⟩;rcases hj with hj|hj|hj
  ·exact .inl (.inl (.inl hj))
  ·exact .inl (.inr hj)
  ·exact .inr (by omega)
structure UN {t:TypeId}{u:Value}{p:Qr}{g:List (List Nat)}{E:List (Nat×Nat)}(R:Src t u (XY p g E))(k x:Nat)(X:Nat->Prop)(w:World):Prop where
 ok:T2 p g E
 OC:OR w k (gwC (Wc p g E) t u x) 165
 ix:OR w x (elC (pfm p g E) 247 (z0j t u (Wh p g E) (pfm p g E).size)) 295
 xk:X k
 xx:X x
 inv:R.inv X w
 lt:∀j,X j->j<w.heap.size
 x1:X 2
 x2:X 3
 gam:OR w 2 (Sy .gamma) 317
 una:OR w 3 (Sy .unary) 317
section
variable {t:TypeId}{u:Value}{p:Qr}{g:List (List Nat)}{E:List (Nat×Nat)}{R:Src t u (XY p g E)}{k x:Nat}{X Y S:Nat->Prop}{w w':World}
def UN.grow (h:UN R k x X w)(hx:Ext w w')(hY:∀j,Y j->X j\/(w.heap.size<=j/\j<w'.heap.size))(cL:∀j,X j->Y j):UN R k x Y w':=
 ⟨h.ok,hx.OC h.OC,hx.OC h.ix,cL _ h.xk,cL _ h.xx,R.ext h.inv hx (λj hj=>(hY j hj).imp id And.left),λj hj=>by
  rcases hY j hj with e| e
  ·have:=h.lt j e;have:=hx.size;omega
  ·exact e.2,cL _ h.x1,cL _ h.x2,hx.OC h.gam,hx.OC h.una⟩
def UN.ext (h:UN R k x X w)(hx:Ext w w'):UN R k x X w':=h.grow hx (λj hj=> .inl hj) λj hj=>hj
def UN.less (h:UN R k x Y w)(cL:∀j,X j->Y j)(hk:X k)(hx:X x)(h1:X 2)(h2:X 3):UN R k x X w:=
 ⟨h.ok,h.OC,h.ix,hk,hx,R.ext h.inv (Ext.refl w) (λj hj=> .inl (cL j hj)),λj hj=>h.lt j (cL j hj),h1,h2,h.gam,h.una⟩
theorem UN.step (h:UN R k x X w)(hk:Kp S w w')(hS:∀j,S j->X j/\j≠k/\j≠x/\j≠2/\j≠3)(hY:∀j,Y j->X j\/(w.heap.size<=j/\j<w'.heap.size))(cL:∀j,X j->Y j):UN R k x Y w':=
 ⟨h.ok,hk.OC h.OC (λe=>(hS _ e).2.1 O),hk.OC h.ix (λe=>(hS _ e).2.2.1 O),cL _ h.xk,cL _ h.xx,R.step h.inv hk (λj hj=>(hS j hj).1) (λj hj=>(hY j hj).imp id And.left),λj hj=>by
  rcases hY j hj with e| e
  ·have:=h.lt j e;have:=hk.size;omega
  ·exact e.2,cL _ h.x1,cL _ h.x2,hk.OC h.gam (λe=>(hS _ e).2.2.2.1 O),hk.OC h.una (λe=>(hS _ e).2.2.2.2 O)⟩
def UN.own (h:UN R k x X w)(hk:Kp S w w')(hS:∀j,S j->X j/\j≠k/\j≠x/\j≠2/\j≠3):UN R k x X w':=
 ⟨h.ok,hk.OC h.OC (λe=>(hS _ e).2.1 O),hk.OC h.ix (λe=>(hS _ e).2.2.1 O),h.xk,h.xx,R.own h.inv hk (λj hj=>(hS j hj).1),λj hj=>by have:=h.lt j hj;have:=hk.size;omega,h.x1,h.x2,hk.OC h.gam (λe=>(hS _ e).2.2.2.1 O),hk.OC h.una (λe=>(hS _ e).2.2.2.2 O)⟩
def UN.src (h:UN R k x X w)(hk:Kp (λj=>¬X j) w w')(hI:R.inv X w'):UN R k x X w':=
 ⟨h.ok,hk.OC h.OC (λe=>e h.xk),hk.OC h.ix (λe=>e h.xx),h.xk,h.xx,hI,λj hj=>by have:=h.lt j hj;have:=hk.size;omega,h.x1,h.x2,hk.OC h.gam (λe=>e h.x1),hk.OC h.una (λe=>e h.x2)⟩
def UN.R2 (R:Src t u (XY p g E))(h:T2 p g E):Src 247 (z0j t u (Wh p g E) (pfm p g E).size) (YQ (Wn p g E g.length) (pfm p g E)):=
 zfe R (Wh p g E) (pfm p g E).size _ (by have:=h.len;omega) (by have:=h.small;omega) h.index
theorem UN.cells (h:UN R k x X w):OR w k [I ((Wc p g E).n:Int),I ((Wc p g E).m:Int),I ((Wc p g E).p.Pb:Int),I ((Wc p g E).p.chain:Int),I ((Wc p g E).p.interval:Int),I ((Wc p g E).p.zeta:Int),I ((Wc p g E).p.most:Int),I ((Wc p g E).bits:Int),.iface t u,ptr x 0] 165:=h.OC
def zdT (h:UN R k x X w):Pm prog 40 [ptr k 0] w λv w'=>v=I (g.length:Int)/\w'=w:=by
 have hB:=h.cells
 refine py (e:=[(0,_)]) func40 O ntmps40 O O$ QB O$ PG O$ qV (Qi U30 O O)$ PW O$ Pf O$ Pu O$ OX WQ O$ OX Uj O$ qV (OO U3 O O hB O)$ OU O$ OB func40 O ?_
 exact⟨_,rfl,rfl,rfl⟩
theorem z6r (h:UN R k x X w){b v c:Nat}(hv:v<g.length)(hr:Rd w (.slice (some ⟨b,0,none⟩) 1 c) 1 1 [I (v:Int)]):Pm prog 221 [ptr k 0,.slice (some ⟨b,0,none⟩) 1 c] w λv w'=>v=I 0/\w'=w:=by
 have hB:=h.cells
 have hn:(Wc p g E).n=g.length:=rfl
 refine py (e:=[(0,_),(1,_)]) func221 O ntmps221 O O$ QB O$ PG O$ qV (Qi U30 O O)$ PW O$ PG O$ Rv RB O$ OK O$ OD$ OH$ Rq (α:=Nat) (0) (λi=>[(0,ptr k 0),(9,.slice (some ⟨b,0,none⟩) 1 c),(10,I 1),(11,I (i:Int))]) (λi w'=>w'=w/\i<=1) (λi=>1-i) ?hI ?hround
 case hI=>exact⟨rfl,Nat.zero_le _⟩
 case hround=>
  rintro i w2 ⟨rfl,hi⟩ ih
  try dsimp only
  refine qN O$ Qq O$ OD$ It$ OQ O (λh0=>?_)$ λh0=>?_
  ·have ko:i=0:=by omega
   subst ko;refine OE$ Qx$ qN O$ qV (PX RB Q7 O O (by omega))$ qV (Pr U3 O O (Qo hr O))$ Qt O$ Qq O$ PF$ P8 O$ OK O$ Pu O$ OX WQ O$ OX Uj O$ qV (OO U3 O O hB O) ?_;refine Te O$ PF$ PK O$ PW O$ OA$ OL O$ PV O$ OK O$ OD ?_;exact(ih 1 _ ⟨rfl,by omega⟩ (by omega)).qb
  ·refine ON O$ QB O$ OB func221 O ?_;exact⟨_,rfl,rfl,rfl⟩
def za4 {p:Qr}{g:List (List Nat)}{E:List (Nat×Nat)}{v a n:Nat}{s:OG}(hs:((Ph (QD p g E g.length)).drop (a / 8)).take n=s)(ha:(QD p g E v).length=a)(hv:v<g.length)(hn:a+(Yf p g E v).length<=8*(a / 8+n)):∃rest,(P3 s).drop (a%8)=Yf p g E v++rest:=by
 have dV:∃r,QD p g E g.length=QD p g E (v+1)++r:=by
  have key:∀d i,∃r,QD p g E (i+d)=QD p g E i++r:=λd i=>by
   induction d with
   |zero=>exact⟨[],by simp⟩
   | succ d ih =>
     obtain⟨r,hr⟩:=ih;exact⟨r++Yf p g E (i+d),by rw[<-Nat.add_assoc,Tb,hr,List.append_assoc]⟩
  obtain⟨r,hr⟩:=key (g.length-(v+1)) (v+1);rw[show v+1+(g.length-(v+1))=g.length by omega] at hr;exact⟨r,hr⟩
 obtain⟨r,hr⟩:=dV
 obtain⟨z,hz,-,-⟩:=Sn (QD p g E g.length)
 rw[<-hs,UE,TO,hz,hr,Tb,List.drop_take,List.drop_drop,show 8*(a / 8)+a%8=a by omega,List.append_assoc,List.append_assoc,List.drop_left' ha,List.take_append,List.take_of_length_le (by omega)]
 exact⟨_,rfl⟩
def z7n (h:UN R k x X w){v:Nat}(hv:v<g.length):Pm prog 240 [ptr k 0,I (v:Int)] w λr w'=>∃(b a e:Nat) (s:OG) (rest:List Bool),r= .tuple #[ptr b 0,I (e:Int),I 0]/\TX w' b s a/\(P3 s).drop a=Yf p g E v++rest/\a+(Yf p g E v).length=e/\w.heap.size<=b/\UN R k x (λj=>X j\/j=b) w'/\Kp (λj=>¬X j) w w':=by
 have hn:=h.ok.gr.n
 have rg:=h.ok.pk.bits
 have hB:=h.cells
 have iP:=z0G p g E (n:=g.length) (i:=v) (by omega)
 have yT:=z0G p g E (n:=g.length) (i:=v+1) (by omega)
 have mj:=WO p g E (g.length-(v+1)) (v+1)
 rw[show v+1+(g.length-(v+1))=g.length by omega] at mj
 have dF:=Tb p g E v
 have lw:=congrArg List.length dF
 rw[List.length_append] at lw
 refine py (e:=[(0,_),(1,_)]) func240 O ntmps240 O O$ qN O$ RT O$ RT O$ Qt O$ Pu O$ OX z7C O$ qV (OO z3y O O hB O)$ OK O$ P4 zfb O (z30 h.ok.ef (UN.R2 R h.ok) h.inv h.lt h.xx h.ix iP) ?_
 rintro _ w1 ⟨rfl,mn,aL⟩
 have h1:=h.src aL mn
 have aj:=h1.cells
 refine OK O$ RA O$ PU O$ PG O$ Qf O$ PW O$ Pf O$ Pu O$ OX z7C O$ qV (OO z3y O O aj O)$ OK O$ PV O ?_
 rw[show(v:Int)+1=((v+1:Nat):Int) by omega]
 refine P4 zfb O (z30 h1.ok.ef (UN.R2 R h1.ok) h1.inv h1.lt h1.xx h1.ix yT) ?_
 rintro _ w2 ⟨rfl,cR,aq⟩
 have h2:=h1.src aq cR
 have am:=h2.cells
 have dG:=aL.trans aq
 obtain⟨al,rG⟩:∃n,(QD p g E v).length=n:=⟨_,rfl⟩
 obtain⟨bl,fD⟩:∃n,(QD p g E (v+1)).length=n:=⟨_,rfl⟩
 rw[rG,fD]
 have vP:(Wc p g E).bits=(QD p g E g.length).length:=rfl
 refine OK O$ RA O$ PU O$ Pn.qb (e:=[(0,_),(4,_),(5,_),(6,_),(7,_),(8,_),(9,_)]) ?_
 refine Qx$ Pf O$ Qf O$ OU O$ OJ O$ Qm O$ Qu O$ PF$ P8 O$ OK O$ Pu O$ OX WQ O$ OX UT O$ qV (OO U3 O O am O) ?_
 refine qV ((PZ O U3 Rr (by omega)))$ Qu O$ PF$ PK O$ OU O$ Tu O$ OA$ Pf O$ qV (z9F O O O (by simp only[IntKind.bits];omega) (by omega)) ?_
 refine qV (PJ O Rr U3 (by omega))$ OU O$ Pn.qb (e:=[(0,_),(4,_),(5,_),(6,_),(7,_),(8,_),(9,_),(10,_)]) ?_
 refine Pf O$ Pu O$ OX zdw O$ qV (OO z6B O O am O)$ OK O$ PV O$ OK O$ qV (RQ O O)$ qV (PJ O Rr U3 (by omega))$ qV (VI O O (by omega))$ OK O$ Ro O ?_
 have Bm:28+al / 8+((bl+7) / 8-al / 8)<=(XY p g E).length:=by have:=h.ok.len;unfold Wh at this;omega
 rw[show 28+((al / 8:Nat):Int)=((28+al / 8:Nat):Int) by omega]
 rw[show((((bl+7)%18446744073709551616:Nat):Int)) / 8-((al / 8:Nat):Int)=(((bl+7) / 8-al / 8:Nat):Int) by omega]
 refine Qz O O (yci R.cr R.mr O O) (R.rd (28+al / 8) ((bl+7) / 8-al / 8) h2.inv h2.lt Bm) ?_
 rintro _ w3 ⟨rfl,E8,av⟩
 have h3:=h2.src av E8
 rw[zds h.ok (al / 8) ((bl+7) / 8-al / 8) (by omega)]
 obtain⟨s,hs⟩:∃s,((Ph (QD p g E g.length)).drop (al / 8)).take ((bl+7) / 8-al / 8)=s:=⟨_,rfl⟩
 rw[hs]
 refine OK O$ RA O$ PU O$ Pn.qb (e:=[(4,_),(5,_),(6,_),(7,_),(8,_),(9,_),(10,_),(11,_)]) ?_
 refine PG O$ Qf O ?_
 have fG:s.length=(bl+7) / 8-al / 8:=by
  rw[<-hs,List.length_take,List.length_drop,PD];omega
 obtain⟨rest,nM⟩:∃rest,(P3 s).drop (al%8)=Yf p g E v++rest:=za4 hs rG hv (by omega)
 refine PW O$ Pf O$ P4 z84 O (X8 s (by omega) w3) ?_
 rintro _ w4 ⟨b,rfl,g7,aD,hb⟩
 have lb:=g7.1.lt
 have h4:UN R k x (λj=>X j\/j=b) w4:=h3.grow aD (λj hj=>hj.imp id λe=>by omega) (λj hj=> .inl hj)
 have fA:¬X b:=λe=>by have:=h3.lt b e;omega
 refine Qw O$ P8 O$ qV (PJ O Rr U3 (by omega))$ OK O$ qV (Wm O O (by omega))$ Ro O ?_
 rw[show(al:Int)-8*((al / 8:Nat):Int)=((al%8:Nat):Int) by omega]
 refine P4 zaS O (ZI g7 (al%8) (by omega)) ?_
 rintro _ w5 ⟨rfl,sy,ak⟩
 have h5:=h4.own ak (λj e=>by
  subst e
  exact⟨.inr O,λe=>fA (e▸h.xk),λe=>fA (e▸h.xx),λe=>fA (e▸h.x1),λe=>fA (e▸h.x2)⟩)
 refine qM O$ P8 O$ qV (PJ O Rr U3 (by omega))$ OK O$ qV (Wm O O (by omega))$ Ro O ?_
 rw[show(bl:Int)-8*((al / 8:Nat):Int)=((bl-8*(al / 8):Nat):Int) by omega]
 refine RT O$ PU O$ Pn.qb (e:=[(4,_),(5,_),(6,_)]) ?_
 refine OB func240 O ?_
 have z03:=(dG.trans av).size
 exact⟨_,rfl,b,al%8,bl-8*(al / 8),s,rest,rfl,sy,nM,by omega,by omega,h5,((dG.trans av).trans aD.kp).An ak (λj e=> .inl (by omega))⟩
end
def P5 (g:List (List Nat))(v:Nat):List Nat:=(g[v]?).getD []
def Pw (g:List (List Nat))(E:List (Nat×Nat))(v:Nat):Nat:=if P5 g v=[] then 0 else((E[v]?).getD (0,0)).1
def TJ (p:Qr)(g:List (List Nat))(E:List (Nat×Nat))(v:Nat):List (Cd×Nat):=if P5 g v=[] then [] else UC p.list v (P5 g v) (QH g v (Pw g E v)) (Pw g E v)
def z8T (p:Qr)(g:List (List Nat))(E:List (Nat×Nat))(v:Nat):Yf p g E v=Pa (QC p.list (P5 g v).length (Pw g E v))++Pa (TJ p g E v):=by
 unfold Yf TJ Pw
 rw[<-Ss]
 by_cases h:P5 g v=[]
 ·have h':(g[v]?).getD []=[]:=h;rw[if_pos h,if_pos h,h',h]
  rfl
 ·rw[if_neg h,if_neg h];have:=z1s p.list v (ref:=QH g v ((E[v]?).getD (0,0)).1) ((E[v]?).getD (0,0)).1 h;rw[<-this];rfl
section
variable {t:TypeId}{u:Value}{p:Qr}{g:List (List Nat)}{E:List (Nat×Nat)}{R:Src t u (XY p g E)}{k x:Nat}{X:Nat->Prop}{w w':World}
def T2.ent (h:T2 p g E){v:Nat}(hv:v<g.length):z06 p g E v (P5 g v).length ((E[v]?).getD (0,0)):=by
 have hl:=h.pk.el
 obtain⟨e,he⟩:∃e,E[v]? =some e:=⟨_,List.getElem?_eq_getElem (by omega)⟩
 have:=h.pk.ok.ent v e he
 rw[he];exact this
def T2.z3P (h:T2 p g E){v:Nat}(hv:v<g.length):Pw g E v<=p.Pb/\Pw g E v<=v:=by
 unfold Pw
 split
 ·omega
 ·rcases h.ent hv with e| e
  ·rw[e];exact⟨Nat.zero_le _,Nat.zero_le _⟩
  ·exact⟨e.2.1,e.2.2.1⟩
def T2.suc (h:T2 p g E){v:Nat}(hv:v<g.length):PE (P5 g v)/\(P5 g v).length<=g.length/\∀y∈P5 g v,y<g.length:=by
 have hm:P5 g v∈g:=by
  unfold P5;rw[List.getElem?_eq_getElem hv];exact List.getElem_mem hv
 exact⟨h.gr.ok _ hm,h.gr.len hm,h.gr.lt _ hm⟩
def z6I (h:UN R k x X w){v:Nat}(hv:v<g.length):Pm prog 223 [ptr k 0,I (v:Int)] w λr w'=>∃(b a:Nat) (s:OG) (rest:List Bool),r= .tuple #[.agg #[I ((P5 g v).length:Int),I (Pw g E v:Int)],ptr b 0,I ((a+(Pa (TJ p g E v)).length:Nat):Int),I 0]/\TX w' b s a/\(P3 s).drop a=Pa (TJ p g E v)++rest/\w.heap.size<=b/\UN R k x (λj=>X j\/j=b) w'/\Kp (λj=>¬X j) w w':=by
 have hn:=h.ok.gr.n
 obtain⟨dA,df,oN⟩:=h.ok.suc hv
 have gW:=h.ok.z3P hv
 have iH:=z8T p g E v
 have rL:(P5 g v).length=0->Pw g E v=0:=λe=>by unfold Pw;rw[if_pos (List.eq_nil_of_length_eq_zero e)]
 refine py (e:=[(0,_),(1,_)]) func223 O ntmps223 O O$ qN O$ OM O O (RN (cs:=[_,_]) So O) ?_
 rintro _ w1 ⟨b4,rfl,fC,ad,aK⟩
 have l4:=aK.lt
 have h1:UN R k x (λj=>X j\/j=b4) w1:=h.grow ad (λj hj=>hj.imp id λe=>by omega) (λj hj=> .inl hj)
 have aD:∀j,X j->j≠b4:=λj hj e=>by have:=h.lt j hj;omega
 refine RT O$ RT O$ Qw O$ P8 O$ P4 zjO O (z7n h1 hv) ?_
 rintro _ w2 ⟨b,a,e,s,rest,rfl,cO,hd,he,hb,h2,aq⟩
 have bD:=aq.OC aK (λe=>e (.inr O))
 have Lk:=h2.cells
 have lb:=cO.1.lt
 have fA:∀j,X j->j≠b:=λj hj e=>by have:=h.lt j hj;have:=ad.size;omega
 have lB:∀j,j=b->(X j\/j=b4)\/j=b:=λj e=> .inr e
 refine OK O$ qV (Rw (v:=ptr b 0) O O)$ qV (Rw (v:=I (e:Int)) O O)$ qV (Rw (v:=I 0) O O)$ RT O$ PU O$ PG O$ Qf O$ PW O$ Qm O$ Pu O$ OX WQ O$ OX Yj O$ qV (Pt (news:=Vn p) U94 O RK O (OR.cells (i:=2) (n:=5) Lk O) O) ?_
 refine P4 z0M O (T0 p w2) ?_
 rintro _ w3 ⟨rfl,ai⟩
 have h3:=h2.ext ai
 have lz:TX w3 b s a:=⟨ai.OC cO.1,cO.2⟩
 rw[iH,List.append_assoc] at hd
 refine P4 zey O (z2w lz p.list h.ok.QA.1 h3.gam h3.una (λe=>fA 2 h.x1 e) (λe=>fA 3 h.x2 e) (P5 g v).length (Pw g E v) (by omega) gW.1 rL _ hd) ?_
 rintro _ w4 ⟨rfl,g7,ao⟩
 have I8:=Sr hd
 have h4:=h3.own ao (λj e=>⟨.inr e,λe'=>fA k h.xk (e'▸e),λe'=>fA x h.xx (e'▸e),λe'=>fA 2 h.x1 (e'▸e),λe'=>fA 3 h.x2 (e'▸e)⟩)
 have cB:=ao.OC (ai.OC bD) (λe=>by omega)
 have fG:=congrArg List.length iH
 rw[List.length_append] at fG
 refine OK O$ qV (Rw (v:= .agg #[I ((P5 g v).length:Int),I (Pw g E v:Int)]) O O)$ qV (Rw (v:=I 0) O O)$ OM O O (RN (cs:=[_,_]) So O) ?_
 rintro _ w5 ⟨b11,rfl,j9,aT,bA⟩
 refine OW O (PO (news:=[I ((P5 g v).length:Int),I (Pw g E v:Int)]) So O O O O bA (by simp)) ?_
 rintro w6 ⟨nN,aP⟩
 replace nN:OR w6 b11 [I ((P5 g v).length:Int),I (Pw g E v:Int)] 332:=nN
 have cQ:Ext w4 w6:=aT.An aP (λj e=>by omega)
 have h6:=h4.ext cQ
 have ll:TX w6 b s (a+(Pa (QC p.list (P5 g v).length (Pw g E v))).length):=⟨cQ.OC g7.1,g7.2⟩
 refine OU O$ Pn.qb (e:=[(4,_),(5,_),(6,_),(7,_),(8,_),(9,_),(10,_),(11,_)]) ?_
 refine PG O$ Qf O$ PF$ P8 O$ P4 Ys O (Uk ll) ?_
 rintro _ w6 ⟨rfl,rfl⟩
 refine OK O$ Qu O$ PF$ PK O$ PW O$ qN O$ qV (Pt (news:=[I ((P5 g v).length:Int),I (Pw g E v:Int)]) z5K O So O (OR.cells (n:=2) nN O) O)$ P8 O ?_
 have cg:=cQ.OC cB
 refine OW O (PO (news:=[I ((P5 g v).length:Int),I (Pw g E v:Int)]) So O O O O cg (by simp)) ?_
 rintro w7 ⟨bB,aC⟩
 replace bB:OR w7 b4 [I ((P5 g v).length:Int),I (Pw g E v:Int)] 332:=bB
 have h7:=(h6.own aC (λj e=>⟨.inl (.inr e),λe'=>aD k h.xk (e'▸e),λe'=>aD x h.xx (e'▸e),λe'=>aD 2 h.x1 (e'▸e),λe'=>aD 3 h.x2 (e'▸e)⟩)).less (X:=λj=>X j\/j=b) (λj hj=>hj.imp .inl id) (.inl h.xk) (.inl h.xx) (.inl h.x1) (.inl h.x2)
 have Ll:TX w7 b s (a+(Pa (QC p.list (P5 g v).length (Pw g E v))).length):=⟨aC.OC ll.1 (by omega),ll.2⟩
 refine RT O$ PU O$ Po func223 (.cell z5K O So O (OR.cells (n:=2) bB (news:=[_,_]) O) O (.tmp O (.tmp O (.tmp O .nil)))) (⟨_,rfl,b,a+(Pa (QC p.list (P5 g v).length (Pw g E v))).length,s,rest,?_,Ll,I8,by have:=ad.size;omega,h7,?_⟩)
 ·rw[show a+(Pa (QC p.list (P5 g v).length (Pw g E v))).length+(Pa (TJ p g E v)).length=e by omega]
  rfl
 ·have oK:Kp (λj=>¬X j) w w4:=((ad.kp.trans (aq.OV λj e e'=>e (.inl e'))).trans ai.kp).An ao (λj e=> .inl (by have:=ad.size;omega));exact(oK.trans cQ.kp).An aC (λj e=> .inl (by omega))
end
section
variable {t:TypeId}{u:Value}{p:Qr}{g:List (List Nat)}{E:List (Nat×Nat)}{R:Src t u (XY p g E)}{k x gb pb fb:Nat}{X Y S:Nat->Prop}{w w':World}
abbrev z5o (w:World)(vv:Value)(l:List Nat):Prop:=Sl w vv 106 1 l.length (l.map Pq)
def TV (E:List (Nat×Nat))(v:Nat):Nat:=((E[v]?).getD (0,0)).2
structure TdM (R:Src t u (XY p g E))(k x gb pb fb:Nat)(X:Nat->Prop)(w:World):Prop where
 gw:UN R k x X w
 bg:OR w gb [ptr k 0] 30
 bp:OR w pb [I (p.Pb:Int),I (p.chain:Int),I (p.interval:Int),I (p.zeta:Int),I (p.most:Int)] 94
 bf:OR w fb [.func (.func 222) #[] #[ptr gb 0,ptr pb 0,ptr fb 0]] 330
 xg:X gb
 xp:X pb
 xf:X fb
theorem TdM.step (h:TdM R k x gb pb fb X w)(hk:Kp S w w')(hS:∀j,S j->X j->False)(h2:UN R k x Y w')(cL:∀j,X j->Y j):TdM R k x gb pb fb Y w':=
 ⟨h2,hk.OC h.bg (λe=>hS _ e h.xg),hk.OC h.bp (λe=>hS _ e h.xp),hk.OC h.bf (λe=>hS _ e h.xf),cL _ h.xg,cL _ h.xp,cL _ h.xf⟩
def WV (R:Src t u (XY p g E))(k x gb pb fb v behind:Nat)(X:Nat->Prop)(w:World):Prop:=
 Pm prog 222 [I (v:Int),I (behind:Int),ptr gb 0,ptr pb 0,ptr fb 0] w λr w'=>∃vv,r= .tuple #[vv,I 0]/\z5o w' vv (P5 g v)/\(∀b,vv.ownBlock=some b->w.heap.size<=b)/\UN R k x (λj=>X j\/vv.ownBlock=some j) w'/\Kp (λj=>¬X j) w w'
def T2.back (h:T2 p g E){v:Nat}(hv:v<g.length)(hq:0<Pw g E v):Pw g E v<=v/\TV E v=TV E (v-Pw g E v)+1/\QH g v (Pw g E v)=P5 g (v-Pw g E v)/\0<(P5 g (v-Pw g E v)).length/\(P5 g (v-Pw g E v)).length<=p.most/\(P5 g v).length<=p.most/\P5 g v≠[]/\TV E v<=p.chain:=by
 have bT:P5 g v≠[]:=λe=>by unfold Pw at hq;rw[if_pos e] at hq;omega
 have hb:Pw g E v=((E[v]?).getD (0,0)).1:=by unfold Pw;rw[if_neg bT]
 rcases h.ent hv with e|⟨h1,h2,h3,l,e',h4,h5,h6,h7⟩
 ·rw[hb,e] at hq;cases hq
 ·rw[<-hb] at h1 h2 h3 h4 h5;have Es:=of_decide_eq_true h7;have hs:P5 g (v-Pw g E v)=l:=by unfold P5;rw[h4];rfl
  refine⟨h3,?_,?_,by rw[hs];omega,by rw[hs];omega,by omega,bT,?_⟩
  ·unfold TV;rw[h5];exact h6
  ·unfold QH;rw[if_neg (by omega)];rfl
  ·show((E[v]?).getD (0,0)).2<=_;omega
theorem z95 (ay:T2 p g E)(jf:g.length<50){v:Nat}(hv:v<g.length){b a:Nat}{s:OG}{rest:List Bool}(hR:TX w b s a)(hd:(P3 s).drop a=Pa (TJ p g E v)++rest)(hG:OR w 2 (Sy .gamma) 317)(hU:OR w 3 (Sy .unary) 317)(h1:¬2=b)(h2:¬3=b)
  {vb:Value} (dl:Pw g E v=0->vb= .slice none 0 0) (hS:0<Pw g E v->z5o w vb (P5 g (v-Pw g E v))) (B9:∀j,vb.ownBlock=some j->j≠b):
  Pm prog 224 [ptr b 0,I (v:Int),I (g.length:Int),.agg #[I ((P5 g v).length:Int),I (Pw g E v:Int)],vb,lpV p.list] w λr w'=>∃vv,r= .tuple #[vv,I 0]/\z5o w' vv (P5 g v)/\(∀j,vv.ownBlock=some j->w.heap.size<=j)/\TX w' b s (a+(Pa (TJ p g E v)).length)/\Kp (λj=>j=b) w w':=by
 obtain⟨dA,df,oN⟩:=ay.suc hv
 have gW:=ay.z3P hv
 by_cases bT:P5 g v=[]
 ·have rL:Pw g E v=0:=by unfold Pw;rw[if_pos bT]
  have Et:TJ p g E v=[]:=by unfold TJ;rw[if_pos bT]
  rw[rL,dl rL,Et,bT];refine(z39 p.list ay.QA.1 v (by omega) g.length (by omega)).mono λr w' hr=>?_;obtain⟨rfl,hx⟩:=hr;exact⟨_,rfl,Sl.nil _ _ _,λj e=>(by cases e),⟨hx.OC hR.1,hR.2⟩,hx.kp⟩
 ·have Et:TJ p g E v=UC p.list v (P5 g v) (QH g v (Pw g E v)) (Pw g E v):=by unfold TJ;rw[if_neg bT]
  have jH:PE (QH g v (Pw g E v))/\(QH g v (Pw g E v)).length<=60:=by
   have hn:=ay.gr.n;rcases Xl g v (Pw g E v) with e| e
   ·rw[e];exact⟨⟨List.Pairwise.nil,λy hy=>(by cases hy)⟩,by simp⟩
   ·exact⟨ay.gr.ok _ e,by have:=ay.gr.len e;omega⟩
  have BU:=ZR ay.QA.1 (x:=v) (by omega) dA jH.1 gW.1 (by omega) jH.2;rw[Et] at hd⊢;rcases Nat.eq_zero_or_pos (Pw g E v) with h0|h0
  ·have lS:QH g v (Pw g E v)=[]:=by unfold QH;rw[if_pos h0]
   rw[dl h0];have:=z0h hR p.list ay.QA.1 v (by omega) g.length (by omega) (ra:=none) (rc:=0) (P5 g v) (QH g v (Pw g E v)) dA bT (by omega) oN jH.1 (Pw g E v) gW.1 (λ_=>lS) hG hU h1 h2 (λw2 aq=>by rw[lS];exact(Sl.nil _ 106 1).rd) (by rw[lS];exact Nat.le_refl _) (by omega) rest hd;rw[lS] at this⊢;exact this
  ·obtain⟨q1,q2,q3,q4,q5,q6,q7,q8⟩:=ay.back hv h0;have Eu:=hS h0;rw[<-q3] at Eu
   obtain⟨ga,gc,rfl,jP⟩:∃a c,vb= .slice a (QH g v (Pw g E v)).length c/\(QH g v (Pw g E v)).length<=c:=by
    rcases Eu.shape with⟨-,e⟩|⟨b,c,e,hc⟩
    ·rw[q3] at e;omega
    ·exact⟨_,c,e,hc⟩
   exact z0h hR p.list ay.QA.1 v (by omega) g.length (by omega) (ra:=ga) (rc:=gc) (P5 g v) (QH g v (Pw g E v)) dA bT (by omega) oN jH.1 (Pw g E v) gW.1 (λe=>by omega) hG hU h1 h2 (λw2 aq=>(Eu.kp aq λj e=>B9 j e).rd) jP (by omega) rest hd
end
section
variable {t:TypeId}{u:Value}{p:Qr}{g:List (List Nat)}{E:List (Nat×Nat)}{R:Src t u (XY p g E)}{k x gb pb fb:Nat}{X Y:Nat->Prop}{w w':World}
theorem ZT (jf:g.length<50){v behind:Nat}(hv:v<g.length)(Bq:behind+TV E v<=p.chain)(ht:TdM R k x gb pb fb X w)
  (ih:0<Pw g E v->∀(X':Nat->Prop) (w':World),TdM R k x gb pb fb X' w'->WV R k x gb pb fb (v-Pw g E v) (behind+1) X' w'):WV R k x gb pb fb v behind X w:=by
 have ay:=ht.gw.ok
 have hn:=ay.gr.n
 have NZ:p.chain<=1000000:=by have:=ay.QA.2.1;omega
 obtain⟨dA,df,oN⟩:=ay.suc hv
 have gW:=ay.z3P hv
 have xZ:=ht.bg
 unfold WV
 refine py (e:=[(0,_),(1,_),(2,_),(3,_),(4,_)]) func222 O ntmps222 O O$ qN O$ RT O$ Qw O$ qV (OO U30 O O xZ O)$ OK O$ P4 zjH O (z6I ht.gw hv) ?_
 rintro _ w1 ⟨b,a,s,rest,rfl,kO,tC,bU,h1,aL⟩
 have lb1:=kO.1.lt
 have iZ:∀j,X j->j≠b:=λj hj e=>by have:=ht.gw.lt j hj;omega
 refine OK O$ qV (Rw (v:= .agg #[I ((P5 g v).length:Int),I (Pw g E v:Int)]) O O)$ qV (Rw (v:=ptr b 0) O O)$ qV (Rw (v:=I ((a+(Pa (TJ p g E v)).length:Nat):Int)) O O)$ qV (Rw (v:=I 0) O O)$ OM O O (RN (cs:=[_,_]) So O) ?_
 rintro _ w2 ⟨b9,rfl,oI,ae,cI⟩
 refine OW O (PO (news:=[I ((P5 g v).length:Int),I (Pw g E v:Int)]) So O O O O cI (by simp)) ?_
 rintro w3 ⟨cT,av⟩
 replace cT:OR w3 b9 [I ((P5 g v).length:Int),I (Pw g E v:Int)] 332:=cT
 have aO:Ext w1 w3:=ae.An av (λj e=>by omega)
 have l93:=cT.lt
 have z13:=aO.size
 have h3:UN R k x (λj=>(X j\/j=b)\/j=b9) w3:=h1.grow aO (λj hj=>hj.imp id λe=>by omega) (λj hj=> .inl hj)
 have cu:Kp (λj=>¬X j) w w3:=aL.trans aO.kp
 have pN:TdM R k x gb pb fb (λj=>(X j\/j=b)\/j=b9) w3:=ht.step cu (λj e e'=>e e') h3 (λj hj=> .inl (.inl hj))
 have lz:TX w3 b s a:=⟨aO.OC kO.1,kO.2⟩
 refine RT O$ PU O$ PG O$ Qf O$ PW O$ QB O$ It$ qN O$ OX SA O$ qV (OO U3 O O cT O)$ Qu O$ OD$ Pn.qb (e:=[(0,_),(1,_),(2,_),(3,_),(4,_),(7,_),(8,_),(9,_),(10,_),(11,_),(12,_),(13,_),(28,_)]) ?_
 refine PI (λe' w'=>∃vb,e'=[(0,I (v:Int)),(2,ptr gb 0),(3,ptr pb 0),(9,ptr b9 0),(10,ptr b 0),(11,I ((a+(Pa (TJ p g E v)).length:Nat):Int)),(13,vb)]/\UN R k x (λj=>(X j\/j=b)\/j=b9) w'/\Kp (λj=>¬((X j\/j=b)\/j=b9)) w3 w'/\(Pw g E v=0->vb= .slice none 0 0)/\(0<Pw g E v->z5o w' vb (P5 g (v-Pw g E v)))/\(∀j,vb.ownBlock=some j->j≠b)) ?cE$ λcE=>?cV
 case cE=>
  rintro e' w4 ⟨vb,rfl,h4,ao,qU,eU,Ev⟩;have xv:TdM R k x gb pb fb (λj=>(X j\/j=b)\/j=b9) w4:=pN.step ao (λj e e'=>e e') h4 (λj hj=>hj);have mq:=ao.OC cT (λe=>e (.inr O));have g7:TX w4 b s a:=⟨ao.OC lz.1 (λe=>e (.inl (.inr O))),lz.2⟩;have Ew:=xv.bg;have jl:=xv.bp;have Ex:=xv.gw.cells;have ag:=Ext.OT w4;refine It ?_;have ngb:gb≠b:=iZ gb ht.xg;have nk:k≠b:=iZ k ht.gw.xk;have npb:pb≠b:=iZ pb ht.xp;have n9:b9≠b:=by omega
  refine R5 (λw'=>Kp (λj=>j=b) w4 w') O$ OZ 0 O O (ag.kp)$ OZ 1 O O (ag.kp)$ qT 2 O (λ_ h=>(OO U30 O O (h.OC Ew ngb) O)) (ag.kp)$ OI 3 O (Q4 O) (ag.kp)$ OI 4 O (Pp WQ O) (ag.kp)$ OI 5 O (Pp Uj O) (ag.kp)$ qT 6 O (λ_ h=>(OO U3 O O (h.OC Ex nk) O)) (ag.kp)$ OZ 8 O O (ag.kp)$ qT 7 O (λ_ hS=>Pt (news:=[I ((P5 g v).length:Int),I (Pw g E v:Int)]) z5K O So O (OR.cells (n:=2) (hS.OC mq n9) O) O) (ag.kp)$ qT 9 O (λ_ h=>Pt (news:=Vn p) U94 O RK O (OR.cells (n:=5) (h.OC jl npb) O) O) (ag.kp)$ SK 10 O z0M O (T0 p w4.drew) ?_;rintro _ w5 ⟨rfl,aT⟩;refine⟨(ag.trans aT).kp,?_⟩;have dt:=ag.trans aT;have h5:=h4.ext dt;have sy:TX w5 b s a:=⟨dt.OC g7.1,g7.2⟩;have Ey:¬2=b:=λe=>iZ 2 ht.gw.x1 e;have Ez:¬3=b:=λe=>iZ 3 ht.gw.x2 e;refine SK 11 O zhw O (z95 ay jf hv sy tC h5.gam h5.una Ey Ez qU (λe=>(eU e).ext dt) Ev) ?_;rintro _ w6 ⟨vv,rfl,ez,mT,ll,aP⟩;refine⟨dt.kp.trans aP,?_⟩;refine OZ 12 O O (dt.kp.trans aP)$ OI 13 O (Rw (v:=vv) O O) (dt.kp.trans aP)$ OI 15 O (R7 O) (dt.kp.trans aP)$ OI 14 O (Rw (v:=I 0) O O) (dt.kp.trans aP)$ OI 16 O (R7 O) (dt.kp.trans aP)$ qE$ PG O$ Qf O$ P8 O$ P4 Ys O (Uk ll) ?_;rintro _ w6 ⟨rfl,rfl⟩;refine OK O$ Qf O$ PF$ PK O$ OD$ Pn.qb (e:=[(14,_),(92,_)]) ?_;refine Tu O$ Pf O$ PU O$ OB func222 O ?_;have z34:=ao.size;have z45:=dt.size;have z03:=cu.size;have h6:=(h5.step (Y:=λj=>((X j\/j=b)\/j=b9)\/vv.ownBlock=some j) aP (λj e=>⟨.inl (.inr e),λe'=>iZ k ht.gw.xk (e'▸e),λe'=>iZ x ht.gw.xx (e'▸e),λe'=>iZ 2 ht.gw.x1 (e'▸e),λe'=>iZ 3 ht.gw.x2 (e'▸e)⟩) (λj hj=>hj.imp id λe=>⟨mT j e,ez.lt e⟩) (λj hj=> .inl hj)).less (X:=λj=>X j\/vv.ownBlock=some j) (λj hj=>hj.imp (λe=> .inl (.inl e)) id) (.inl ht.gw.xk) (.inl ht.gw.xx) (.inl ht.gw.x1) (.inl ht.gw.x2);exact⟨_,rfl,vv,rfl,ez,λj e=>by have:=mT j e;omega,h6,((cu.trans (ao.OV λj e e'=>e (.inl (.inl e')))).trans dt.kp).trans (aP.OV λj e e'=>iZ j e' e)⟩
 case cV=>
  refine OQ O (λh0=>?_)$ λh0=>?_
  ·have rM:0<Pw g E v:=by omega
   obtain⟨q1,q2,q3,q4,q5,q6,q7,q8⟩:=ay.back hv rM;have yU:=pN.bp;have EA:=pN.bf;refine It$ qN O$ OX SA O$ qV ((OO U3 O O cT O))$ OK O$ Qu O$ PF$ P8 O$ OX Zm O$ qV ((OO U3 O O yU O))$ Te O$ PF$ PK O$ OK O ?_;refine OX Tq O$ qV ((OO U3 O O cT O))$ OX TM O$ qV ((OO U3 O O yU O))$ Qu O$ PF$ PK O$ OD$ Pn.qb (e:=[(0,_),(1,_),(2,_),(3,_),(4,_),(7,_),(8,_),(9,_),(10,_),(11,_),(12,_),(13,_),(45,_)]) ?_;refine Tu O$ It$ qN O$ qV ((OO zhy O O EA O))$ OK O$ OX SA O$ qV ((OO U3 O O cT O))$ Ro O ?_;rw[show(v:Int)-(Pw g E v:Int)=((v-Pw g E v:Nat):Int) by omega];refine OK O$ PV O ?_;rw[show(behind:Int)+1=((behind+1:Nat):Int) by omega];have Iq:=ih rM _ w3 pN;unfold WV at Iq;refine Qz O O (RY zeg O O) (Iq) ?_;rintro _ w4 ⟨vb,rfl,dO,pC,h4,ao⟩
   obtain⟨vo,vc,rfl,Bb⟩:∃o c,vb= .slice (some ⟨o,0,none⟩) (P5 g (v-Pw g E v)).length c/\w3.heap.size<=o:=by
    rcases dO.shape with⟨-,e⟩|⟨o,c,e,hc⟩
    ·omega
    ·exact⟨o,c,e,pC o (by rw[e];rfl)⟩
   refine OK O$ qV (Rw (v:= .slice (some ⟨vo,0,none⟩) (P5 g (v-Pw g E v)).length vc) O O)$ qV (Rw (v:=I 0) O O)$ RT O$ Qt O$ Qf O ?_;have jl:=(pN.step ao (λj e e'=>e e') h4 (λj hj=> .inl hj)).bp;refine OD$ Pn.qb (e:=[(0,_),(2,_),(3,_),(7,_),(8,_),(9,_),(10,_),(11,_),(12,_),(13,_),(58,_)]) ?_;refine Tu O$ Pf O$ Rv Ps O$ Ri O$ PF$ P8 O$ Rv Ps O$ OX TM O$ qV (OO U3 O O jl O)$ Qu O$ PF$ PK O$ PW O ?_;exact(cE _ _ ⟨_,rfl,h4.less (λj hj=> .inl hj) h3.xk h3.xx h3.x1 h3.x2,ao,λe=>by omega,λ_=>dO,λj e=>by have e':vo=j:=QU e;omega⟩).qb
  ·refine OE ?_;exact(cE _ _ ⟨_,rfl,h3,Kp.refl _ _,λ_=>rfl,λe=>by omega,λj e=>by cases e⟩).qb
theorem z1K (jf:g.length<50):∀(d:Nat) {v behind:Nat} {X:Nat->Prop} {w:World},TV E v<=d->v<g.length->behind+TV E v<=p.chain->TdM R k x gb pb fb X w->WV R k x gb pb fb v behind X w
 | 0, v, behind, X, w, hd, hv, Bq, ht => ZT jf hv Bq ht λh0 => by
   obtain⟨q1,q2,-⟩:=ht.gw.ok.back hv h0
   omega
 | d + 1, v, behind, X, w, hd, hv, Bq, ht => ZT jf hv Bq ht λh0 X' w' Lm => by
   obtain⟨q1,q2,-⟩:=ht.gw.ok.back hv h0;exact z1K jf d (by omega) (by omega) (by omega) Lm
def T2.zc7 (h:T2 p g E){v:Nat}(hv:v<g.length):TV E v<=p.chain:=by
 rcases h.ent hv with e|⟨h1,h2,h3,l,e',h4,h5,h6,h7⟩
 ·unfold TV;rw[e];exact Nat.zero_le _
 ·have Es:=of_decide_eq_true h7;unfold TV;omega
theorem z6f (jf:g.length<50){v:Nat}(hv:v<g.length)(h:UN R k x X w):Pm prog 196 [ptr k 0,I (v:Int)] w λr w'=>∃vv,r= .tuple #[vv,I 0]/\z5o w' vv (P5 g v)/\(∀b,vv.ownBlock=some b->w.heap.size<=b)/\UN R k x (λj=>X j\/vv.ownBlock=some j) w'/\Kp (λj=>¬X j) w w':=by
 refine py (e:=[(0,_),(1,_)]) func196 O ntmps196 O O$ qN O$ OM O O (Rm O (cs:=[ptr k 0]) O) ?_
 rintro _ w1 ⟨gb,rfl,Ln,ad,xZ⟩
 refine PU O$ It$ qN O$ qV (OO U30 O O xZ O)$ OK O$ OM O O (Wj (cs:=[_]) (zs:=[Value.int .i64 0]) RB Q7 O (by kernel_rfl) O O O (by decide)) ?_
 rintro _ w2 ⟨vb,rfl,⟨dl,ae,O0⟩,Lo⟩
 have h2:=(h.ext ad).ext ae
 have tX:=ae.OC xZ
 have EB:=h2.cells
 have z1:=ad.size
 have z2:=ae.size
 refine P4 zin O (z6r h2 hv Lo.rd) ?_
 rintro _ w2 ⟨rfl,rfl⟩
 refine Qt O$ Qf O$ PW O$ qN O$ qV (OO U30 O O tX O)$ Pu O$ OX WQ O$ OX Yj O$ qV (Pt (news:=Vn p) U94 O RK O (OR.cells (i:=2) (n:=5) EB O) O)$ OM O O (RN (cs:=[_,_,_,_,_]) RK O) ?_
 rintro _ w3 ⟨pb,rfl,rg,ai,rp⟩
 refine OW O (PO (news:=Vn p) RK O O O O rp (by simp)) ?_
 rintro w4 ⟨jl,ao⟩
 replace jl:OR w4 pb [I (p.Pb:Int),I (p.chain:Int),I (p.interval:Int),I (p.zeta:Int),I (p.most:Int)] 94:=jl
 have dh:Ext w2 w4:=ai.An ao (λj e=>by omega)
 refine qM O$ OM O O (RN (cs:=[_]) zec O) ?_
 rintro _ w5 ⟨fb,rfl,O4,aT,db⟩
 refine qM O$ qV (ymf (first:=[]) (caps:=[.tmp 2,.tmp 7,.tmp 8]) O O)$ OW O (QQ zec O O O db (by simp)) ?_
 rintro w6 ⟨yV,aP⟩
 have cQ:Ext w4 w6:=aT.An aP (λj e=>by omega)
 have iD:=dh.trans cQ
 have z6:=iD.size
 have lg:=tX.lt
 have lp:=jl.lt
 have lf:=yV.lt
 have z24:=dh.size
 have z3:=ai.size
 have z46:=cQ.size
 have iF:=(ad.trans ae).trans iD
 have h6:UN R k x (λj=>X j\/j=gb\/j=pb\/j=fb) w6:=h.grow iF (λj hj=>hj.imp id λe=>by omega) (λj hj=> .inl hj)
 have wV:TdM R k x gb pb fb (λj=>X j\/j=gb\/j=pb\/j=fb) w6:=⟨h6,iD.OC tX,cQ.OC jl,yV,.inr (.inl O),.inr (.inr (.inl O)),.inr (.inr (.inr O))⟩
 have yW:=wV.bf
 have eX:=z1K jf _ (behind:=0) (Nat.le_refl _) hv (by have:=h.ok.zc7 hv;omega) wV
 unfold WV at eX
 refine qM O$ qV (OO zhy O O yW O)$ OK O$ Qz O O (RY zeg O O) (eX) ?_
 rintro _ w7 ⟨vv,rfl,gP,lO,h7,aC⟩
 refine qV (Rw (v:=vv) O O)$ qV (Rw (v:=I 0) O O)$ PU O$ Pn.qb (e:=[(4,_),(5,_)]) ?_
 refine OB func196 O ?_
 exact⟨_,rfl,vv,rfl,gP,λj e=>by have:=lO j e;omega,h7.less (λj hj=>hj.imp .inl id) (.inl h.xk) (.inl h.xx) (.inl h.x1) (.inl h.x2),iF.kp.trans (aC.OV λj e e'=>e (.inl e'))⟩
end
def stV (b:Bool):Value:= .int .u8 (if b then 1 else 0)
structure XB (w:World)(m gi:Nat)(L:List Bool):Prop where
 OC:OR w m [I 2,.slice (some ⟨gi,0,none⟩) L.length L.length,.slice none 0 0,.bool false] 138
 sl:Sl w (.slice (some ⟨gi,0,none⟩) L.length L.length) 172 1 L.length (L.map stV)
 ne:gi≠m
 n:L.length<=4096
 n2:2<=L.length
section
variable {w w':World}{m gi:Nat}{L:List Bool}{S:Nat->Prop}
def XB.kp (h:XB w m gi L)(hk:Kp S w w')(h1:¬S m)(h2:¬S gi):XB w' m gi L:=
 ⟨hk.OC h.OC h1,h.sl.kp hk λg e=>by cases e;exact h2,h.ne,h.n,h.n2⟩
theorem XB.ext (h:XB w m gi L)(hx:Ext w w'):XB w' m gi L:=h.kp (S:=λ_=>False) hx id id
def XB.ltm (h:XB w m gi L):m<w.heap.size:=h.OC.lt
def XB.ltg (h:XB w m gi L):gi<w.heap.size:=h.sl.lt O
theorem XB.get (h:XB w m gi L){i:Nat}{b:Bool}(hi:L[i]? =some b):w.cell? ⟨gi,0+i*1,none⟩=some (stV b):=
 Qo h.sl.rd (by rw[List.getElem?_map,hi];rfl)
def z9o (B:Nat)(hB:2<=B/\B<=4096)(w:World):Pm prog 33 [I 2,I (B:Int)] w λv w'=>∃m gi,v= .tuple #[ptr m 0,I 0]/\XB w' m gi (List.replicate B false)/\w.heap.size<=m/\w.heap.size<=gi/\Ext w w':=by
 refine py (e:=[(0,_),(1,_)]) func33 O ntmps33 O O$ qN O$ PU O$ PG O$ Qq O$ PF$ P8 O$ OK O$ Qu O$ PF$ PK O$ P8 O$ Qu O$ PF ?_
 refine PK O$ PW O$ Qm O$ OM O O (pmk (c:=B) (n:=B) VR z2D O O O (Nat.le_refl _) (by omega) (by simp only[maxLen];omega)) ?_
 rintro _ w1 ⟨gi,rfl,⟨tI,ad,aj⟩,jJ⟩
 refine qV (Sk (cs:=[_,_,_,_]) zhx O ziy O O)$ OM O O (Rm O (cs:=[I 2,.slice (some ⟨gi,0,none⟩) B B,.slice none 0 0,.bool false]) O) ?_
 rintro _ w2 ⟨m,rfl,hm,ae,am⟩
 refine PU O$ OB func33 O ?_
 have:=ad.size
 have lg:=jJ.lt (g:=gi) O
 refine⟨_,rfl,m,gi,rfl,⟨by rw[List.length_replicate];exact am,?_,by omega,by rw[List.length_replicate];omega,by rw[List.length_replicate];omega⟩,by omega,by omega,ad.trans ae⟩
 rw[List.length_replicate,List.map_replicate]
 exact jJ.ext ae
def Qh (L:List Bool)(s n:Nat)(b:Bool):List Bool:=L.take s++(List.replicate n b++L.drop (s+n))
theorem PY {L:List Bool}{s n:Nat}{b:Bool}(h:s+n<=L.length):(Qh L s n b).length=L.length:=by
 unfold Qh
 rw[List.length_append,List.length_append,List.length_take,List.length_replicate,List.length_drop];omega
theorem z9C (L:List Bool)(s:Nat)(b:Bool):Qh L s 0 b=L:=by simp[Qh]
theorem zaC {L:List Bool}{s n:Nat}{b:Bool}(h:s+n<L.length):(Qh L s n b).set (s+n) b=Qh L s (n+1) b:=by
 have h1:(L.take s++List.replicate n b).length=s+n:=by rw[List.length_append,List.length_take,List.length_replicate];omega
 unfold Qh
 rw[<-List.append_assoc,List.set_append_right _ _ (by omega),h1,Nat.sub_self,List.drop_eq_getElem_cons h,List.set_cons_zero,List.replicate_succ',List.append_assoc,List.append_assoc]
 rfl
def z32 (h:XB w m gi L)(s n:Nat)(b:Bool)(hs:s+n<=L.length):Pm prog 142 [ptr m 0,.agg #[I (s:Int),I (n:Int)],stV b] w λv w'=>v= .tuple #[]/\XB w' m gi (Qh L s n b)/\Kp (λk=>k=gi) w w':=by
 have hn:=h.n
 refine py (e:=[(0,_),(1,_),(2,_)]) func142 O ntmps142 O O$ qN O$ OM O O (Rm O (cs:=[I (s:Int),I (n:Int)]) O) ?_
 rintro _ w1 ⟨b4,rfl,fC,ad,aK⟩
 have lg:=h.ltg
 have l4:=aK.lt
 have h1:=h.ext ad
 refine qM O$ OX Ra O$ qV (OO U3 O O aK O)$ OK O$ OD$ OH$ Rq (α:=Nat) (0) (λi=>[(0,ptr m 0),(2,stV b),(4,ptr b4 0),(8,I (n:Int)),(9,I (i:Int))]) (λi w'=>XB w' m gi (Qh L s i b)/\Kp (λk=>k=gi) w1 w'/\i<=n) (λi=>n-i) ?hI ?hround
 case hI=>exact⟨by rw[z9C];exact h1,Kp.refl _ _,Nat.zero_le _⟩
 case hround=>
  rintro i w2 ⟨h2,aq,hi⟩ ih
  try dsimp only
  refine qN O$ Qq O$ OD$ It$ OQ O (λh0=>?_)$ λh0=>?_
  ·have aU:i<n:=by omega
   have hl:=PY (L:=L) (s:=s) (n:=i) (b:=b) (by omega);have am:=h2.OC;have bD:=aq.OC aK (by omega);have hg:=Ext.OT w2;refine OE$ Qx$ Pf O$ OU O$ P7 [10] (λw'=>Ext w2 w') (by kernel_rfl) O$ PL 0 O O (hg)$ P9 1 O (Q4 O) hg$ P9 2 O (Pp Va O) hg$ qL 3 O (λ_ h=>(OO VR O O (h.OC am) O)) hg$ P9 4 O (Pp QX O) hg$ qL 5 O (λ_ h=>(OO U3 O O (h.OC bD) O)) hg$ PL 6 O O (hg)$ P9 7 O (Ud O O (by omega)) hg$ PL 8 O O (hg) ?_;refine P9 9 O (PX VR z2D O O (by omega)) hg$ SM [10]$ qO 10$ PC (i:=10) O O (RV z2D O O O (h2.ext hg).sl (by rw[List.length_map,hl];omega)) ?_;rintro w3 ⟨cy,av⟩;refine⟨trivial,?_⟩
   have h3:XB w3 m gi (Qh L s (i+1) b):=by
    refine⟨?_,?_,h2.ne,by rw[PY (by omega)];exact h.n,by rw[PY (by omega)];exact h.n2⟩
    ·rw[PY (by omega),<-hl];exact av.OC (hg.OC am) (λe=>h2.ne e.symm)
    ·rw[show 0+(s+i)*1=s+i by omega,<-List.map_set,zaC (by omega)] at cy;rw[PY (by omega),<-hl];exact cy
   refine qE$ OA$ OL O$ PV O$ OK O$ OD ?_;exact(ih (i+1) _ ⟨h3,aq.trans (hg.kp.trans av),by omega⟩ (by omega)).qb
  ·have aU:i=n:=by omega
   subst aU;refine ON O$ Qv func142 O ?_;exact⟨_,rfl,rfl,h2,ad.kp.trans aq⟩
end
structure Pre (L:List Bool)(a:Nat):Prop where
 a2:2<=a
 le:a<=L.length
 tk:∀i,2<=i->i<a->L[i]? =some true
 fr:∀i,a<=i->i<L.length->L[i]? =some false
section
variable {w w':World}{m gi a:Nat}{L:List Bool}{S:Nat->Prop}
def YM {l bm:Nat}(hm:XB w m gi L)(hp:Pre L a)(ha:a<L.length)(lL:OR w bm [ptr m 0] 51)(J:World->Prop)(hJ:∀w w',J w->Ext w w'->J w')
  (hround:∀w',Ext w w'->z3x prog l [.agg #[I (a:Int),I ((L.length-a:Nat):Int)]] w' λv w''=>(v= .bool true/\J w''/\OR w'' bm [ptr m 0] 51/\XB w'' m gi L)\/(v= .bool false/\J w'')):
  Pm prog 85 [.func (.yield l) #[] #[],ptr bm 0] w λv w'=>v= .tuple #[]/\J w':=by
 have hn:=hm.n
 have po:=hp.a2
 have hB:=hm.OC
 refine py (e:=[(0,_),(1,_)]) func85 O ntmps85 O O$ qN O$ qV ((OO U51 O O lL O))$ Pu O$ OX z7I O$ qV ((OO U3 O O hB O))$ OU O$ OH$ Rq (α:=Nat) (2) (λi=>[(0,.func (.yield l) #[] #[]),(1,ptr bm 0),(3,I (i:Int))]) (λi w'=>OR w' bm [ptr m 0] 51/\XB w' m gi L/\((2<=i/\i<=a/\Ext w w')\/(i=L.length+1/\J w'))) (λi=>L.length+1-i) ?hI ?hround
 case hI=>exact⟨lL,hm,.inl ⟨Nat.le_refl _,po,Ext.refl _⟩⟩
 case hround=>
  rintro i w1 ⟨tY,mj,gE⟩ ih;have aj:=mj.OC
  try dsimp only
  refine PG O$ qV ((OO U51 O O tY O))$ Pu O$ OX Va O$ qV ((OO VR O O aj O))$ Rv VR O$ Qq O$ OD$ OQ O (λh0=>?_)$ λh0=>?_
  ·have tZ : 2 <= i /\ i <= a /\ Ext w w1 := by
    rcases gE with h| h
    ·exact h
    ·omega
   obtain⟨dC,Ir,ad⟩:=tZ;refine OE$ Qx$ Pf O$ qV (Sk (cs:=[_,_]) R6 O ziq O O)$ OM O O (RN (cs:=[_,_]) R6 O) ?_;rintro _ w2 ⟨b4,rfl,fC,ae,aK⟩;refine OW O (PO (news:=[I (i:Int),I 0]) R6 O O O O aK (by simp)) ?_;rintro w3 ⟨dT,av⟩;replace dT:OR w3 b4 [I (i:Int),I 0] 119:=dT;have aO:Ext w1 w3:=ae.An av (λj e=>by omega);have u3:=aO.OC tY;have lw:=mj.ext aO;have au:=lw.OC;refine OD$ Qx$ Rq (α:=Nat) (i) (λj=>[(0,.func (.yield l) #[] #[]),(1,ptr bm 0),(3,I (j:Int)),(4,ptr b4 0)]) (λj w'=>w'=w3/\i<=j/\j<=L.length/\(i<j->i=a)) (λj=>L.length-j) ?hI ?hround
   case hI=>exact⟨rfl,Nat.le_refl _,by omega,λh=>absurd h (by omega)⟩
   case hround =>
    rintro j w4 ⟨rfl,gU,O5,EC⟩ ih2
    try dsimp only
    rcases Nat.lt_or_ge j L.length with hj|hj
    ·obtain⟨b,hb⟩:∃b,L[j]? =some b:=⟨_,List.getElem?_eq_getElem hj⟩;have aW:=lw.get hb;refine PG O$ qV ((OO U51 O O u3 O))$ Pu O$ OX Va O$ qV ((OO VR O O au O))$ Rv VR O$ Qq O$ Rp$ OK O$ qV ((OO U51 O O u3 O))$ Pu O$ OX Va O$ qV ((OO VR O O au O))$ OK O ?_;refine qV (PX VR z2D O O (by omega)) ?_
     cases b with
     | true =>
       refine qV (Pr (v:= .int .u8 1) zbH O O aW) ?_
       have Lp:i<a:=by
        rcases Nat.lt_or_ge i a with h| h
        ·exact h
        ·have:=hp.fr j (by omega) hj;rw[this] at hb;cases hb
       have rC:j=i:=by
        rcases Nat.lt_or_ge i j with h| h
        ·have:=EC h;omega
        ·omega
       subst rC;refine Ri O$ PF$ QJ O$ OD$ OJ O$ ON O$ Pf O$ OX QX O$ qV (OO U3 O O dT O)$ Ro O$ OX Ra O$ OW O (QQ Q7 O O O dT (by simp)) ?_;rintro w5 ⟨aN,ak⟩;rw[show(j:Int)-(j:Int)=0 by omega] at aN;replace aN:OR w5 b4 [I (j:Int),I 0] 119:=aN;have bV:Ext w1 w5:=aO.An ak (λq e=>by have:=ae.size;omega);refine qM O$ OX Ra O$ qV (OO U3 O O aN O)$ Qu O$ OK O$ QG$ QG$ PK O$ PW O$ OA$ Rh O$ PV O$ OU O ?_
       exact(ih (j+1) w5 ⟨bV.OC tY,mj.ext bV,.inl ⟨by omega,by omega,ad.trans bV⟩⟩ (by omega)).qb
     | false =>
       refine qV (Pr (v:= .int .u8 0) zbH O O aW)$ Ri O$ Rp$ QJ O ?_
       have u5:i=a:=by
        rcases Nat.lt_or_ge i a with h| h
        ·rcases Nat.lt_or_ge i j with h2|h2
         ·exact EC h2
         ·have e:j=i:=by omega
          subst e;have:=hp.tk j dC h;rw[this] at hb;cases hb
        ·omega
       refine OD$ OS O$ OE$ OH$ Rh O$ PV O$ OU O$ OA ?_;exact(ih2 (j+1) _ ⟨rfl,by omega,by omega,λ_=>u5⟩ (by omega)).qb
    ·have Lq:j=L.length:=by omega
     subst Lq;have u5:=EC (by omega);subst u5;refine PG O$ qV ((OO U51 O O u3 O))$ Pu O$ OX Va O$ qV ((OO VR O O au O))$ Rv VR O$ Qq O$ PF$ OK O$ QG$ QG$ QG$ QG$ PK O ?_;refine OD$ OJ O$ ON O$ Pf O$ OX QX O$ qV (OO U3 O O dT O)$ Ro O$ OX Ra O$ OW O (QQ Q7 O O O dT (by simp)) ?_;rintro w5 ⟨aN,ak⟩;rw[show(L.length:Int)-(i:Int)=((L.length-i:Nat):Int) by omega] at aN;replace aN:OR w5 b4 [I (i:Int),I ((L.length-i:Nat):Int)] 119:=aN;have bV:Ext w1 w5:=aO.An ak (λq e=>by have:=ae.size;omega);refine qM O$ OX Ra O$ qV (OO U3 O O aN O)$ Qu O$ Rp$ P8 O$ qV (Pt (news:=[I (i:Int),I ((L.length-i:Nat):Int)]) Xu O R6 O (OR.cells (n:=2) aN O) O)$ z7p O O (yy O O) (hround w5 (ad.trans bV)) ?_;rintro v w6 hv;rcases hv with⟨rfl,yX,ED,Lr⟩|⟨rfl,yX⟩
     ·refine qV ((Sb O))$ QJ O$ PW O$ OA$ Rh O$ PV O$ OU O ?_;exact(ih (L.length+1) w6 ⟨ED,Lr,.inr ⟨rfl,yX⟩⟩ (by omega)).qb
     ·refine qV ((Sb O))$ QJ O$ OD$ OS O$ OB func85 O ?_;exact⟨_,rfl,rfl,yX⟩
  ·rcases gE with⟨-,h,-⟩|⟨-,yX⟩
   ·omega
   ·refine ON O$ Qv func85 O ?_;exact⟨_,rfl,rfl,yX⟩
def YN (w:World)(m:Nat):Pm prog 49 [ptr m 0] w λv w'=>∃bm,v= .func (.func 85) #[] #[ptr bm 0]/\OR w' bm [ptr m 0] 51/\w.heap.size<=bm/\Ext w w':=by
 refine py (e:=[(0,_)]) func49 O ntmps49 O O$ qN O$ OM O O (Rm O (cs:=[ptr m 0]) O) ?_
 rintro _ w1 ⟨bm,rfl,lL,ad,aj⟩
 refine Qw O$ qV (ymf (first:=[]) (caps:=[.tmp 1]) O O)$ OU O$ OB func49 O ?_
 exact⟨_,rfl,bm,rfl,aj,by omega,ad⟩
theorem z5Z (h:XB w m gi L)(hp:Pre L a)(ha:a<L.length):Pm prog 18 [ptr m 0] w λv w'=>v=I ((L.length-a:Nat):Int)/\Ext w w':=by
 have hn:=h.n
 refine py (e:=[(0,_)]) func18 O ntmps18 O O$ qN O$ Qw O$ OM O O (RN (cs:=[_]) Q7 O) ?_
 rintro _ w1 ⟨b3,rfl,eG,ad,au⟩
 refine OW O (QQ Q7 O O O au (by simp)) ?_
 rintro w2 ⟨de,aq⟩
 replace de:OR w2 b3 [I 0] 3:=de
 have ae:Ext w w2:=ad.An aq (λj e=>by omega)
 refine OD$ PG O$ qV (z4L U51 O O)$ OD$ OS O$ Pf O$ P4 zik O (YN w2 m) ?_
 rintro _ w3 ⟨bm,rfl,lL,lB,ai⟩
 have dc:=ae.trans ai
 have eH:=ai.OC de
 have lw:=h.ext dc
 have l3:=eH.lt
 have l32:=de.lt
 have lm:=lL.lt
 have lmm:=h.ltm
 have lmg:=h.ltg
 have z1:=ad.size
 refine OD$ OH$ TQ (ps:=[9]) (p:=[]) (q:=[_]) O zjl ?_
 rintro l wl dj fS cG hD Rc dH fj
 have EE:=zc6 dH fj
 have zl:=dj.size
 refine Pm.mono (YM (lw.ext dj) hp ha (dj.OC lL)
  (λw'=>Rc .ready none w'/\OR w' b3 [I ((L.length-a:Nat):Int)] 3/\Kp (λk=>k=l\/k=b3) wl w')
  (λw w' h hx=>⟨hx.kp.rc (S:=λ_=>False) dH h.1 id,hx.OC h.2.1,h.2.2.trans hx.kp⟩) ?_) ?_
 ·intro w4 aD;have fT:=Kp.rc (S:=λ_=>False) aD dH fj id;have en:=aD.OC (dj.OC eH);have z4:=aD.size;refine Vh dH fT O O$ OL O$ OM O O (RN (cs:=[_,_]) R6 O) ?_;rintro _ w5 ⟨b4,rfl,fC,aT,aK⟩;refine OW O (PO (news:=[I (a:Int),I ((L.length-a:Nat):Int)]) R6 O O O O aK (by simp)) ?_;rintro w6 ⟨cg,aP⟩;replace cg:OR w6 b4 [I (a:Int),I ((L.length-a:Nat):Int)] 119:=cg;have cQ:Ext w4 w6:=aT.An aP (λj e=>by omega);have Ls:=Kp.rc (S:=λ_=>False) cQ dH fT id;have z46:=cQ.size;have l4:=cg.lt;refine OD$ run_beginRound O dH Ls ?_;rintro w7 h7 aC;have mV:=aC.OC (cQ.OC en) (by omega);have bB:=aC.OC cg (by omega);refine OH$ OL O$ qV ((OO U3 O O mV O))$ OX Ra O$ qV ((OO U3 O O bB O))$ PV O ?_;rw[show(0:Int)+((L.length-a:Nat):Int)=((L.length-a:Nat):Int) by omega];refine OW O (QQ Q7 O O O mV (by simp)) ?_;rintro w8 ⟨sD,aR⟩;have h8:=Kp.rc aR dH h7 (by omega);refine OD$ OA$ VH dH h8 ?_;intro w9 h9 aM;have i7:Kp (λk=>k=l\/k=b3) w4 w9:=((cQ.kp.trans (aC.OV λk e=> .inl e)).trans (aR.OV λk e=> .inr e)).trans (aM.OV λk e=> .inl e);exact .inl ⟨rfl,⟨h9,aM.OC sD (by omega),aD.kp.trans i7⟩,i7.OC (aD.OC (dj.OC lL)) (by omega),((lw.ext dj).ext aD).kp i7 (by omega) (by omega)⟩
 ·rintro v wz ⟨rfl,fT,Lt,ep⟩;refine⟨_,_,fT,by simp,λwy iQ=>?_⟩;have zz:=ep.size;have zy:=iQ.size;have Lu:=iQ.OC Lt (by omega);have yY:=iQ.heap (ep.heap hD (by omega)) (by omega);refine OA$ qN O$ qV (OO U3 O O Lu O)$ OU O$ zcN (by simp) (Z9 yY) func18 O ?_;have z3:=ai.size;have dp:Kp (λk=>k=w3.heap.size) wy (Tt [.mk w3.heap.size] wy):=QN wy w3.heap.size (.deferred none);have EF:Kp (λk=>k=l\/k=b3\/k=w3.heap.size) w3 (Tt [.mk w3.heap.size] wy):=((dj.kp.trans (ep.OV λk e=>by omega)).trans (iQ.OV λk e=>by omega)).trans (dp.OV λk e=>by omega);exact⟨_,rfl,rfl,dc.An EF (λk e=>by omega)⟩
end
section
variable {w w':World}{m gi a:Nat}{L:List Bool}{S:Nat->Prop}
theorem z5Q (h:XB w m gi L)(hp:Pre L a){n:Nat}(cX:1<=n)(oW:a+n<=L.length):Pm prog 101 [ptr m 0,I (n:Int)] w λv w'=>v= .tuple #[.agg #[I (a:Int),I (n:Int)],I 0]/\XB w' m gi (Qh L a n true)/\Kp (λk=>k=gi) w w':=by
 have hn:=h.n
 refine py (e:=[(0,_),(1,_)]) func101 O ntmps101 O O$ qN O$ OM O O (Rm O (cs:=[ptr m 0]) O) ?_
 rintro _ w1 ⟨b2,rfl,cn,ad,am⟩
 refine OM O O (Rm O (cs:=[I (n:Int)]) O) ?_
 rintro _ w2 ⟨b3,rfl,eG,ae,au⟩
 refine OM O O (RN (cs:=[_,_]) R6 O) ?_
 rintro _ w3 ⟨b4,rfl,fC,ai,aK⟩
 refine OM O O (RN (cs:=[_]) z29 O) ?_
 rintro _ w4 ⟨b5,rfl,ig,aD,aH⟩
 have l2:=am.lt
 have l3:=au.lt
 have l4:=aK.lt
 have l5:=aH.lt
 have z1:=ad.size
 have z2:=ae.size
 have z3:=ai.size
 have z4:=aD.size
 have ir:=aD.OC (ai.OC (ae.OC am))
 have en:=aD.OC (ai.OC au)
 have cB:=aD.OC aK
 refine OD$ Qx$ qN O$ qV ((OO U51 O O ir O))$ qV (Qi U51 O O)$ OU O$ OJ O$ qN O$ qV ((OO U3 O O en O))$ Qq O$ PF$ OU O$ Tu O$ OA ?_
 refine It$ qN O$ qV ((OO U51 O O ir O))$ P4 zik O (YN w4 m) ?_
 rintro _ w5 ⟨bm,rfl,lL,lB,aT⟩
 have bL:=(((ad.trans ae).trans ai).trans aD).trans aT
 have rN:=h.ext bL
 have lm:=lL.lt
 have lmm:=h.ltm
 have lmg:=h.ltg
 have z5:=aT.size
 refine OD$ OH$ TQ (ps:=[17]) (p:=[]) (q:=[_]) O zjl ?_
 rintro l wl dj fS cG hD Rc dH fj
 have EE:=zc6 dH fj
 have zl:=dj.size
 have xV:=aT.trans dj
 refine Pm.mono (YM (rN.ext dj) hp (by omega) (dj.OC lL)
  (λw'=>Rc .done (some .ret) w'/\OR w' b4 [I (a:Int),I (n:Int)] 119/\OR w' b5 [I 0] 36/\XB w' m gi (Qh L a n true)/\Kp (λk=>k=l\/k=b4\/k=b5\/k=gi) wl w')
  (λw w' h hx=>⟨hx.kp.rc (S:=λ_=>False) dH h.1 id,hx.OC h.2.1,hx.OC h.2.2.1,h.2.2.2.1.ext hx,h.2.2.2.2.trans hx.kp⟩) ?_) ?_
 ·intro w6 aI;have fT:=Kp.rc (S:=λ_=>False) aI dH fj id;have z6:=aI.size;refine Vh dH fT O O$ OL O$ OM O O (RN (cs:=[_,_]) R6 O) ?_;rintro _ w7 ⟨b6,rfl,jQ,bY,aQ⟩;refine OW O (PO (news:=[I (a:Int),I ((L.length-a:Nat):Int)]) R6 O O O O aQ (by simp)) ?_;rintro w8 ⟨iN,aR⟩;replace iN:OR w8 b6 [I (a:Int),I ((L.length-a:Nat):Int)] 119:=iN;have iE:Ext w6 w8:=bY.An aR (λj e=>by omega);have EG:=Kp.rc (S:=λ_=>False) iE dH fT id;have z8:=iE.size;have l6:=iN.lt;refine OD$ run_beginRound O dH EG ?_;rintro w9 h9 aM;have qe:=(xV.trans aI).trans iE;have yZ:=aM.OC (qe.OC en) (by omega);have EH:=aM.OC (qe.OC ir) (by omega);have kD:=aM.OC iN (by omega);have Lv:=((((rN.ext dj).ext aI).ext iE).kp aM (by omega) (by omega));refine OH$ qN O$ OX Ra O$ qV ((OO U3 O O kD O))$ qV ((OO U3 O O yZ O))$ Te O$ Rp$ OD$ OS O$ qN O$ qV ((OO U3 O O yZ O))$ OX Ra O$ OW O (QQ Q7 O O O kD (by simp)) ?_;rintro w10 ⟨im,ar⟩;replace im:OR w10 b6 [I (a:Int),I (n:Int)] 119:=im;have zf:=ar.OC EH (by omega);have EI:=Lv.kp ar (by omega) (by omega);have fd:=Kp.rc ar dH h9 (by omega);refine qM O$ qV (OO U51 O O zf O)$ qV (Pt (news:=[I (a:Int),I (n:Int)]) Xu O R6 O (OR.cells (n:=2) im O) O)$ P4 zf8 O (z32 EI a n true oW) ?_;rintro _ w11 ⟨rfl,EJ,bu⟩;have zh:=bu.OC im (by omega);have zi:=bu.OC (ar.OC (aM.OC (qe.OC cB) (by omega)) (by omega)) (by omega);have zj:=bu.OC (ar.OC (aM.OC (qe.OC aH) (by omega)) (by omega)) (by omega);have lM:=Kp.rc bu dH fd (by omega);refine OD$ Pn.qb (e:=[(4,_),(5,_),(6,_)]) ?_;refine qN O$ qV (Pt (news:=[I (a:Int),I (n:Int)]) Xu O R6 O (OR.cells (n:=2) zh O) O)$ OW O (PO (news:=[I (a:Int),I (n:Int)]) R6 O O O O zi (by simp)) ?_;rintro w12 ⟨zk,bh⟩;refine OW O (QQ z29 O O O (bh.OC zj (by omega)) (by simp)) ?_;rintro w13 ⟨zm,cY⟩;have u9:=Kp.rc cY dH (Kp.rc bh dH lM (by omega)) (by omega);refine OD ?_
  -- AT: Code.ret
  refine Yn dH u9 ?_;intro w14 Lw qf
  exact .inr ⟨rfl,Lw,qf.OC (cY.OC zk (by omega)) (by omega),qf.OC zm (by omega),((EJ.kp bh (by omega) (by omega)).kp cY (by omega) (by omega)).kp qf (by omega) (by omega),
   (((((((aI.kp.trans iE.kp).trans (aM.OV λk e=>by omega)).An ar (λk e=>by omega)).trans (bu.OV λk e=>by omega)).trans (bh.OV λk e=>by omega)).trans (cY.OV λk e=>by omega)).trans (qf.OV λk e=>by omega))⟩
 ·rintro v wz ⟨rfl,fT,EK,EL,Lx,ep⟩;refine⟨_,_,fT,by simp,λwy iQ=>?_⟩;have zz:=ep.size;have zy:=iQ.size;have EM:=iQ.OC EK (by omega);have EN:=iQ.OC EL (by omega);have yY:=iQ.heap (ep.heap hD (by omega)) (by omega);have dp:=QN wy w5.heap.size (.deferred none);have Ly:=dp.OC EM (by omega);have EO:=dp.OC EN (by omega);refine Xr (by simp) (Z9 yY) func101 (.cell Xu O R6 O (OR.cells (n:=2) Ly (news:=[_,_]) O) O (.cell1 U36 O O ((EO).cell _) .nil)) ?_;have EP:Kp (λk=>k=gi) w (Tt [.mk w5.heap.size] wy):=((((bL.kp.trans dj.kp).An ep (λk e=>by omega)).An iQ (λk e=>by omega)).An dp (λk e=>by omega));exact⟨_,rfl,rfl,(Lx.kp iQ (by omega) (by omega)).kp dp (by omega) (by omega),EP⟩
end
section
variable {w w':World}{m gi:Nat}{L:List Bool}
def zai (h:XB w m gi L)(s n:Nat)(cX:1<=n)(df:2<=s)(dD:s+n<=L.length):Pm prog 156 [ptr m 0,.agg #[I (s:Int),I (n:Int)]] w λv w'=>v= .bool true/\Ext w w':=by
 have hn:=h.n
 refine py (e:=[(0,_),(1,_)]) func156 O ntmps156 O O$ qN O$ OM O O (Rm O (cs:=[I (s:Int),I (n:Int)]) O) ?_
 rintro _ w1 ⟨b3,rfl,eG,ad,au⟩
 have hg:=Ext.OT w1
 have ub:=(h.ext ad).OC
 refine OU O$ It$ R5 (λw'=>Ext w1 w') O$ OI 0 O (Pp Ra O) hg$ qT 1 O (λ_ h=>(OO U3 O O (h.OC au) O)) hg$ OI 2 O (yge O O) hg$ TT$ OZ 3 O O (hg)$ OI 4 O (Pp QX O) hg$ qT 5 O (λ_ h=>(OO U3 O O (h.OC au) O)) hg$ OZ 6 O O (hg)$ OI 7 O (Q4 O) hg$ OI 8 O (Pp z7I O) hg$ qT 9 O (λ_ h=>(OO U3 O O (h.OC ub) O)) hg ?_
 refine OI 10 O (yge O O) hg$ TT$ OI 11 O (UJ O O) hg$ OZ 12 O O (hg)$ OI 13 O (Pp QX O) hg$ qT 14 O (λ_ h=>(OO U3 O O (h.OC au) O)) hg$ OZ 15 O O (hg)$ OI 16 O (Q4 O) hg$ OI 17 O (Pp Va O) hg$ qT 18 O (λ_ h=>(OO VR O O (h.OC ub) O)) hg$ OI 19 O (SF VR O) hg$ OI 20 O (ylt O O) hg$ TT$ OI 21 O (UJ O O) hg ?_
 refine OZ 22 O O (hg)$ OI 23 O (Pp Ra O) hg$ qT 24 O (λ_ h=>(OO U3 O O (h.OC au) O)) hg$ OZ 25 O O (hg)$ OI 26 O (Q4 O) hg$ OI 27 O (Pp Va O) hg$ qT 28 O (λ_ h=>(OO VR O O (h.OC ub) O)) hg$ OI 29 O (SF VR O) hg$ OI 30 O (Pp QX O) hg$ qT 31 O (λ_ h=>(OO U3 O O (h.OC au) O)) hg$ OI 32 O (XH O O (by omega)) hg$ OI 33 O (Zb O O) hg$ TT$ OI 34 O (UJ O O) hg ?_
 refine OI 35 O (R7 O) hg$ qE$ Pn.qb (e:=[(4,_)]) ?_
 refine OB func156 O ?_
 exact⟨_,rfl,rfl,ad.trans hg⟩
def z6S {b5:Nat}(c d:Bool)(hB:OR w b5 [stV d] 172)(BQ:c=d):Pm prog 193 [stV c,ptr b5 0] w λv w'=>v= .bool false/\w'=w:=by
 subst BQ
 cases c with
 | true =>
   replace hB:OR w b5 [.int .u8 1] 172:=hB;show Pm prog 193 [.int .u8 1,ptr b5 0] w _;refine py (e:=[(0,_),(1,_)]) func193 O ntmps193 O O$ qN O$ Qt O$ qV (OO zbH O O hB O)$ Qf O$ PF$ OU O$ OB func193 O ?_
   exact⟨_,rfl,rfl,rfl⟩
 | false =>
   replace hB:OR w b5 [.int .u8 0] 172:=hB;show Pm prog 193 [.int .u8 0,ptr b5 0] w _;refine py (e:=[(0,_),(1,_)]) func193 O ntmps193 O O$ qN O$ Qt O$ qV (OO zbH O O hB O)$ Qf O$ PF$ OU O$ OB func193 O ?_;exact⟨_,rfl,rfl,rfl⟩
def z9l {b5 b o n cap:Nat}(hn:n<=4096)(c:Bool)(hB:OR w b5 [stV c] 172)(hR:Rd w (.slice (some ⟨b,o,none⟩) n cap) 1 n (List.replicate n (stV c))):
  Pm prog 220 [.slice (some ⟨b,o,none⟩) n cap,.func (.func 193) #[] #[ptr b5 0]] w λv w'=>v=I (-1)/\w'=w:=by
 refine py (e:=[(0,_),(1,_)]) func220 O ntmps220 O O$ QB O$ PG O$ Rv VR O$ OK O$ OD$ OH$ Rq (α:=Nat) (0) (λi=>[(0,.slice (some ⟨b,o,none⟩) n cap),(1,.func (.func 193) #[] #[ptr b5 0]),(7,I (n:Int)),(8,I (i:Int))]) (λi w'=>w'=w/\i<=n) (λi=>n-i) ?hI ?hround
 case hI=>exact⟨rfl,Nat.zero_le _⟩
 case hround=>
  rintro i w1 ⟨rfl,hi⟩ ih
  try dsimp only
  refine qN O$ Qq O$ OD$ It$ OQ O (λh0=>?_)$ λh0=>?_
  ·refine OE$ Qx$ Pf O$ Qw O$ P8 O$ OK O$ qV (PX VR z2D O O (by omega))$ qV (Pr (v:=stV c) zbH O O (Qo hR (by rw[List.getElem?_replicate,if_pos (by omega)]))) ?_;refine Qz O O (RY zjt O O) (z6S c c hB O) ?_;rintro _ w1 ⟨rfl,rfl⟩;refine PW O$ OA$ OL O$ PV O$ OK O$ OD ?_;exact(ih (i+1) _ ⟨rfl,by omega⟩ (by omega)).qb
  ·refine ON O$ QB O$ OB func220 O ?_;exact⟨_,rfl,rfl,rfl⟩
def z9s {b5 b o n cap:Nat}(hn:n<=4096)(c:Bool)(hB:OR w b5 [stV c] 172)(hR:Rd w (.slice (some ⟨b,o,none⟩) n cap) 1 n (List.replicate n (stV c))):
  Pm prog 192 [.slice (some ⟨b,o,none⟩) n cap,.func (.func 193) #[] #[ptr b5 0]] w λv w'=>v= .bool false/\w'=w:=by
 refine py (e:=[(0,_),(1,_)]) func192 O ntmps192 O O$ qN O$ Qw O$ P8 O$ P4 zjI O (z9l hn c hB hR) ?_
 rintro _ w ⟨rfl,rfl⟩
 refine Te O$ PF$ OU O$ OB func192 O ?_
 exact⟨_,rfl,rfl,rfl⟩
def z9L (h:XB w m gi L)(s n:Nat)(c:Bool)(cX:1<=n)(dD:s+n<=L.length)(hc:∀i,s<=i->i<s+n->L[i]? =some c):Pm prog 157 [ptr m 0,.agg #[I (s:Int),I (n:Int)],stV c] w λv w'=>v= .bool true/\Ext w w':=by
 have hn:=h.n
 refine py (e:=[(0,_),(1,_),(2,_)]) func157 O ntmps157 O O$ qN O$ OM O O (Rm O (cs:=[I (s:Int),I (n:Int)]) O) ?_
 rintro _ w1 ⟨b4,rfl,fC,ad,aK⟩
 refine OM O O (Rm O (cs:=[stV c]) (by cases c<;>rfl)) ?_
 rintro _ w2 ⟨b5,rfl,ig,ae,aH⟩
 have hg:=Ext.OT w2
 have aJ:=ad.trans ae
 have ub:=(h.ext aJ).OC
 have bD:=ae.OC aK
 have dF:=(h.ext aJ).ext hg
 refine OU O$ It$ R5 (λw'=>Ext w2 w') O$ OZ 0 O O (hg)$ OI 1 O (Q4 O) hg$ OI 2 O (Pp Va O) hg$ qT 3 O (λ_ h=>(OO VR O O (h.OC ub) O)) hg$ OI 4 O (Pp QX O) hg$ qT 5 O (λ_ h=>(OO U3 O O (h.OC bD) O)) hg$ OI 6 O (Pp QX O) hg$ qT 7 O (λ_ h=>(OO U3 O O (h.OC bD) O)) hg$ OI 8 O (Pp Ra O) hg$ qT 9 O (λ_ h=>(OO U3 O O (h.OC bD) O)) hg$ OI 10 O (Ud O O (by omega)) hg ?_
 refine OI 12 O (ymf (first:=[]) (caps:=[.tmp 5]) O O) hg ?_
 rw[show(s:Int)+(n:Int)=((s+n:Nat):Int) by omega]
 refine OI 11 O (zgB (i:=s) (j:=s+n) VR z2D O O O (by omega) (by omega)) hg ?_
 rw[show s+n-s=n by omega]
 have hR:Rd w2.drew (.slice (some ⟨gi,0+s*1,none⟩) n (L.length-s)) 1 n (List.replicate n (stV c)):=by
  have h1:=Ts (Sx dF.sl.rd (i:=s) (by omega) (Nat.le_refl _)) (i:=n) (by omega);rw[if_neg (by omega)] at h1
  have e:((L.map stV).drop s).take n=List.replicate n (stV c):=by
   apply List.ext_getElem?;intro i;rw[List.getElem?_take,List.getElem?_drop,List.getElem?_map,List.getElem?_replicate];by_cases hi:i<n
   ·rw[if_pos hi,if_pos hi,hc (s+i) (by omega) (by omega)];rfl
   ·rw[if_neg hi,if_neg hi]
  rw[e] at h1
  have e2:(some (⟨gi,0,none⟩:Addr)).map (λx=>x.add (s*1))=some ⟨gi,0+s*1,none⟩:=by
   show some (Addr.add _ _)=_;unfold Addr.add;split
   ·rename_i h0;rw[h0]
   ·rfl
  rw[e2] at h1;exact h1
 refine SK 13 O zjU O (z9s (by omega) c ((hg.OC aH)) hR) ?_
 rintro _ w3 ⟨rfl,rfl⟩
 refine⟨hg,?_⟩
 refine OI 14 O ((Sb O)) hg$ OI 15 O (R7 O) hg$ qE$ OB func157 O ?_
 exact⟨_,rfl,rfl,aJ.trans hg⟩
def z7B (h:XB w m gi L)(s n:Nat)(cX:1<=n)(df:2<=s)(dD:s+n<=L.length)(hc:∀i,s<=i->i<s+n->L[i]? =some true):Pm prog 118 [ptr m 0,.agg #[I (s:Int),I (n:Int)]] w λv w'=>v=I 0/\XB w' m gi (Qh L s n false)/\Kp (λk=>k=gi) w w':=by
 refine py (e:=[(0,_),(1,_)]) func118 O ntmps118 O O$ qN O$ OM O O (Rm O (cs:=[I (s:Int),I (n:Int)]) O) ?_
 rintro _ w1 ⟨b3,rfl,eG,ad,au⟩
 have h1:=h.ext ad
 have l3:=au.lt
 have lg:=h.ltg
 refine OU O$ Qx$ Pf O$ qV (Qi U51 O O)$ OU O$ OJ O$ Pf O$ qV (Pt (news:=[I (s:Int),I (n:Int)]) Xu O R6 O (OR.cells (n:=2) au O) O)$ P4 ziS O (zai h1 s n cX df dD) ?_
 rintro _ w2 ⟨rfl,ae⟩
 have h2:=h1.ext ae
 have de:=ae.OC au
 refine qV ((Sb O))$ P8 O$ qV (Pt (news:=[I (s:Int),I (n:Int)]) Xu O R6 O (OR.cells (n:=2) de O) O)$ P4 zjT O (z9L h2 s n true cX dD hc) ?_
 rintro _ w3 ⟨rfl,ai⟩
 have h3:=h2.ext ai
 have eH:=ai.OC de
 have ub:=h3.OC
 refine qV ((Sb O))$ PK O$ OU O$ OJ O$ Pf O$ Pu O$ OX zd7 O$ qV (OO U4 O O ub O)$ OU O$ OJ O ?_
 have eH:=ai.OC de
 refine Rh O$ qV (Pt (news:=[I (s:Int),I (n:Int)]) Xu O R6 O (OR.cells (n:=2) eH O) O)$ P4 zf8 O (z32 h3 s n false dD) ?_
 rintro _ w4 ⟨rfl,h4,ao⟩
 refine OD$ Pn.qb (e:=[(4,_)]) ?_
 refine OA$ QB O$ OB func118 O ?_
 exact⟨_,rfl,rfl,h4,((ad.trans ae).trans ai).kp.trans ao⟩
end
structure Dev where
 due:Int
 SB:List Int
 zdy:Int
 mask:UInt8
 B:Nat
 N:Nat
 sf:Int->Option OG
 cache:List (Int×OG)
 down:Bool
 calls:Int
 reads:Int
def zeros (n:Nat):OG:=List.replicate n 0
def Dev.kept (D:Dev)(n:Int):OG:=(D.sf n).getD (zeros (512*D.N))
def Wv (l:List (Int×OG))(n:Int):Option OG:=(l.reverse.find? λx=>x.1==n).map (·.2)
def Dev.now (D:Dev)(n:Int):OG:=(Wv D.cache n).getD (D.kept n)
def Dev.has (D:Dev)(n:Int):Bool:=decide (0<=n/\n<(D.B:Int))
def Dev.count (D:Dev):Dev:={D with calls:=D.calls+1,due:=if D.due=0 then 0 else D.due-1}
structure Dev.Ok (D:Dev):Prop where
 hB:16<=D.B/\D.B<=4096
 hN:1<=D.N/\D.N<=8
 due:0<=D.due/\D.due<=9223372036854775807
 sf:∀n s,D.sf n=some s->0<=n/\n<(D.B:Int)/\s.length=512*D.N
 cache:∀x∈D.cache,0<=x.1/\x.1<(D.B:Int)/\x.2.length=512*D.N
 len:0<=D.calls
 reads:True
def Dev.Bd (D:Dev):Prop:=D.calls<1000000000000/\D.cache.length<1000000000000/\True
def wr (x:Int×OG):List Value:=[I x.1,S x.2]
def wrs (l:List (Int×OG)):List Value:=l.flatMap wr
@[simp] theorem wrs_length (l:List (Int×OG)):(wrs l).length=l.length*2:=by
 induction l with
 |nil=>rfl
 |cons x r ih=>simp[wrs,wr,List.flatMap_cons] at ih⊢;omega
def YU (kp ca:Value)(m:Nat)(D:Dev):List Value:=[I D.due,kp,I D.zdy,S8 D.mask,I (D.B:Int),I (D.N:Int),.map (some m),ca,.bool D.down,I D.calls,I D.reads]
@[simp] theorem devCs_length (kp ca:Value) (m:Nat) (D:Dev):(YU kp ca m D).length=11:=rfl
abbrev KI:Int->Value:=λz=> .int .i64 z
structure S1 (w:World)(p m:Nat)(kp ca:Value)(D:Dev):Prop where
 OC:OR w p (YU kp ca m D) 135
 map:∃kv,Xz KI w m kv/\∀n,Rg kv n=(D.sf n).map S
 cache:Sl w ca 337 2 D.cache.length (wrs D.cache)
 SB:Sl w kp 3 1 D.SB.length (D.SB.map I)
 ok:D.Ok
def fpD (p m:Nat)(kp ca:Value):Nat->Prop:=λk=>k=p\/k=m\/ca.ownBlock=some k\/kp.ownBlock=some k
def Wi (w:World)(p:Nat)(D:Dev)(F:Nat->Prop):Prop:=∃m kp ca,S1 w p m kp ca D/\∀k,F k↔fpD p m kp ca k
def Upd (F F':Nat->Prop)(w w':World):Prop:=Kp F w w'/\∀k,F' k->F k\/w.heap.size<=k
theorem Upd.trans {F F' F'':Nat->Prop}{a b c:World}(h:Upd F F' a b)(k:Upd F' F'' b c):Upd F F'' a c:=
 ⟨h.1.An k.1 λi hi=>(h.2 i hi).symm,λi hi=>by
  rcases k.2 i hi with h'|h'
  ·exact h.2 i h'
  ·exact .inr (Nat.le_trans h.1.size h')⟩
theorem Ext.Zu {F:Nat->Prop}{w w':World}(h:Ext w w'):Upd F F w w':=⟨h.kp,λ_ h=> .inl h⟩
theorem S1.pm {w:World}{p m:Nat}{kp ca:Value}{D:Dev}(h:S1 w p m kp ca D):¬p=m:=λe=>by
 obtain⟨kv,⟨⟨es,c,hh,-⟩,-⟩,-⟩:=h.map
 obtain⟨fz,hb,-⟩:=h.OC
 rw[e] at hb;rw[hb] at hh;cases hh
def Tv {w:World}{v:Value}{e size n:Nat}{cs:List Value}{b:Nat}(h:Sl w v e size n cs)(hb:v.ownBlock=some b):∃xs fz,w.heap[b]? =some (.cells xs e fz):=by
 rcases h.2 with⟨hz,-⟩|⟨g,cap,cur,hv,-,hg,-⟩
 ·rw[hz] at hb;cases hb
 ·rw[hv] at hb;cases hb;exact⟨_,_,hg⟩
def S1.kp {S:Nat->Prop}{w w':World}{p m:Nat}{kp ca:Value}{D:Dev}(h:S1 w p m kp ca D)(k:Kp S w w')(hn:∀i,fpD p m kp ca i->¬S i):S1 w' p m kp ca D:=
 ⟨k.OC h.OC (hn p (.inl O)),let ⟨kv,h1,h2⟩:=h.map;⟨kv,k.map h1 (hn m (.inr (.inl O))),h2⟩,h.cache.kp k λg hg=>hn g (.inr (.inr (.inl hg))),h.SB.kp k λg hg=>hn g (.inr (.inr (.inr hg))),h.ok⟩
def S1.ext {w w':World}{p m:Nat}{kp ca:Value}{D:Dev}(h:S1 w p m kp ca D)(k:Ext w w'):S1 w' p m kp ca D:=h.kp k λ_ _=>id
theorem Dev.Ok.count {D:Dev}(h:D.Ok):D.count.Ok:=by
 have:=h.due
 have:=h.len
 refine⟨h.hB,h.hN,?_,h.sf,h.cache,?_,h.reads⟩
 ·simp only[Dev.count];split<;>omega
 ·simp only[Dev.count];omega
def S1.turn {w w':World}{p m:Nat}{kp ca:Value}{D D':Dev}(h:S1 w p m kp ca D)(hb:OR w' p (YU kp ca m D') 135)(k:Kp (λi=>i=p) w w')(h1:D'.sf=D.sf)(h2:D'.cache=D.cache)(h3:D'.SB=D.SB)(h4:D'.N=D.N)(ay:D'.Ok):S1 w' p m kp ca D':=by
 obtain⟨fz,hp,-⟩:=h.OC
 refine⟨hb,let ⟨kv,hm,hs⟩:=h.map;⟨kv,k.map hm λe=>h.pm e.symm,by rw[h1];exact hs⟩,?_,?_,ay⟩
 ·rw[h2];refine h.cache.kp k λg hg qg=>?_;obtain⟨xs,fz',hx⟩:=Tv h.cache hg;rw[qg,hp] at hx;cases hx
 ·rw[h3];refine h.SB.kp k λg hg qg=>?_;obtain⟨xs,fz',hx⟩:=Tv h.SB hg;rw[qg,hp] at hx;cases hx
def Zu (f:Int->Option OG)(n:Int)(s:OG):Int->Option OG:=λx=>if x=n then some s else f x
def z9B (c:OG)(i:Nat)(x:OG):OG:=c.take i++x++c.drop (i+x.length)
def mixN (mask:UInt8)(a b:OG):Nat->OG
 |0=>a
 |s+1=>if mask.toNat / 2^s%2=1 then z9B (mixN mask a b s) (512*s) ((b.drop (512*s)).take 512) else mixN mask a b s
theorem z5M (c x:OG)(i:Nat)(h:i+x.length<=c.length):(z9B c i x).length=c.length:=by
 simp[z9B];omega
def Wu (mask:UInt8)(a b:OG)(N:Nat)(ha:a.length=512*N)(hb:b.length=512*N):∀s,s<=N->(mixN mask a b s).length=512*N
 |0,_=>ha
 | s + 1, h => by
   have ih:=Wu mask a b N ha hb s (by omega);simp only[mixN];split
   ·rw[z5M _ _ _ (by simp[ih];omega),ih]
   ·exact ih
def Dev.fallTo (D:Dev)(l:List Int)(tn:Int)(mk:UInt8):Nat->(Int->Option OG)
 |0=>D.sf
 | i + 1 => match D.cache[i]? with
   |none=>D.fallTo l tn mk i
   | some x => if (i : Int) = tn then Zu (D.fallTo l tn mk i) x.1 (mixN mk (((D.fallTo l tn mk i) x.1).getD (zeros (512 * D.N))) x.2 D.N)
     else if(i:Int)∈l then Zu (D.fallTo l tn mk i) x.1 x.2 else D.fallTo l tn mk i
def Dev.zcE (D:Dev)(l:List Int)(tn:Int)(mk:UInt8):Dev:=
 {D with sf:=D.fallTo l tn mk D.cache.length,cache:=[],due:=0,SB:=[],zdy:=0,mask:=0,down:=true}
theorem Dev.Ok.put {D:Dev}(h:D.Ok){n:Int}{s:OG}(hn:0<=n/\n<(D.B:Int))(hs:s.length=512*D.N):Dev.Ok {D with sf:=Zu D.sf n s}:=
 ⟨h.hB,h.hN,h.due,λx t hx=>by
  simp only[Zu] at hx;split at hx
  ·rename_i e
   cases hx;exact⟨by omega,by rw[e];exact hn.2,hs⟩
  ·exact h.sf x t hx,h.cache,h.len,h.reads⟩
theorem Dev.Ok.kept {D:Dev}(h:D.Ok)(n:Int):(D.kept n).length=512*D.N:=by
 unfold Dev.kept
 cases hs:D.sf n with
 |none=>simp[zeros]
 |some s=>exact(h.sf n s hs).2.2
theorem S1.put {w w':World}{p m:Nat}{kp ca:Value}{D:Dev}{kv:List (Int×Value)}{n:Int}{s:OG}(h:S1 w p m kp ca D)(hs:∀n,Rg kv n=(D.sf n).map S)(hm:Xz KI w' m (putL kv n (S s)))(k:Kp (λi=>i=m) w w')
  (ay:Dev.Ok {D with sf:=Zu D.sf n s}):S1 w' p m kp ca {D with sf:=Zu D.sf n s}:=by
 obtain⟨kv0,⟨⟨es,c,hh,-⟩,-⟩,-⟩:=h.map
 refine⟨k.OC h.OC h.pm,⟨_,hm,λx=>?_⟩,?_,?_,ay⟩
 ·rw[zbf,hs x];simp only[Zu];split<;>rfl
 ·refine h.cache.kp k λg hg qg=>?_;obtain⟨xs,fz',hx⟩:=Tv h.cache hg;rw[qg,hh] at hx;cases hx
 ·refine h.SB.kp k λg hg qg=>?_;obtain⟨xs,fz',hx⟩:=Tv h.SB hg;rw[qg,hh] at hx;cases hx
def Rd.kpm {w w':World}{v:Value}{size n m:Nat}{cs:List Value}{kv:List (Int×Value)}(h:Rd w v size n cs)(hm:Xz KI w m kv)(k:Kp (λi=>i=m) w w'):Rd w' v size n cs:=by
 obtain⟨h1,h2⟩:=h
 refine⟨h1,h2.imp id λ⟨b,off,cap,hv,hc⟩=>⟨b,off,cap,hv,λj u hj=>?_⟩⟩
 have Br:=hc j u hj
 obtain⟨⟨es,c,hh,-⟩,-⟩:=hm
 have bT:¬b=m:=λe=>by
  rw[e] at Br;simp[World.cell?,hh] at Br
 have aZ:b<w.heap.size:=by
  rcases Nat.lt_or_ge b w.heap.size with h'|h'
  ·exact h'
  ·simp[World.cell?,Array.getElem?_eq_none h'] at Br
 rw[<-Br]
 simp only[World.cell?,k.block b aZ bT]
def S1.zjP {w:World}{p m:Nat}{kp ca:Value}{D:Dev}(h:S1 w p m kp ca D){g:Nat}(hg:ca.ownBlock=some g):¬g=p/\¬g=m/\¬kp.ownBlock=some g:=by
 obtain⟨xs,fz',hx⟩:=Tv h.cache hg
 refine⟨λe=>?_,λe=>?_,λe=>?_⟩
 ·obtain⟨fz,hb,-⟩:=h.OC;rw[e,hb] at hx;cases hx
 ·obtain⟨kv,⟨⟨es,c,hh,-⟩,-⟩,-⟩:=h.map;rw[e,hh] at hx;cases hx
 ·obtain⟨ys,fy,hy⟩:=Tv h.SB e;rw[hx] at hy;cases hy
def S1.zgX {w:World}{p m:Nat}{kp ca:Value}{D:Dev}(h:S1 w p m kp ca D){g:Nat}(hg:kp.ownBlock=some g):¬g=p/\¬g=m/\¬ca.ownBlock=some g:=by
 obtain⟨xs,fz',hx⟩:=Tv h.SB hg
 refine⟨λe=>?_,λe=>?_,λe=>?_⟩
 ·obtain⟨fz,hb,-⟩:=h.OC;rw[e,hb] at hx;cases hx
 ·obtain⟨kv,⟨⟨es,c,hh,-⟩,-⟩,-⟩:=h.map;rw[e,hh] at hx;cases hx
 ·obtain⟨ys,fy,hy⟩:=Tv h.cache e;rw[hx] at hy;cases hy
def S1.lt {w:World}{p m:Nat}{kp ca:Value}{D:Dev}(h:S1 w p m kp ca D):∀k,fpD p m kp ca k->k<w.heap.size:=by
 intro k hk
 rcases hk with rfl|rfl|hc|hc
 ·exact h.OC.lt
 ·obtain⟨kv,hm,-⟩:=h.map;exact hm.lt
 ·exact h.cache.lt hc
 ·exact h.SB.lt hc
def Wi.kp {S F:Nat->Prop}{w w':World}{p:Nat}{D:Dev}(h:Wi w p D F)(k:Kp S w w')(hn:∀i,F i->¬S i):Wi w' p D F:=by
 obtain⟨m,kp,ca,h1,h2⟩:=h
 exact⟨m,kp,ca,h1.kp k λi hi=>hn i ((h2 i).2 hi),h2⟩
def Wi.ext {F:Nat->Prop}{w w':World}{p:Nat}{D:Dev}(h:Wi w p D F)(k:Ext w w'):Wi w' p D F:=h.kp k λ_ _=>id
def Wi.lt {F:Nat->Prop}{w:World}{p:Nat}{D:Dev}(h:Wi w p D F):∀k,F k->k<w.heap.size:=by
 obtain⟨m,kp,ca,h1,h2⟩:=h
 intro k hk
 rcases (h2 k).1 hk with rfl|rfl|hc|hc
 ·exact h1.OC.lt
 ·obtain⟨kv,hm,-⟩:=h1.map;exact hm.lt
 ·exact h1.cache.lt hc
 ·exact h1.SB.lt hc
def ZV (n:Nat):((List.replicate n (Value.int .u8 0)).drop 0).take n=(zeros n).map S8:=by
 simp[zeros,S8]
section
variable {w:World}{p m:Nat}{kp ca:Value}{D:Dev}
def z5U (h:S1 w p m kp ca D):Pm prog 144 [ptr p 0] w λv w'=>v=I (D.B:Int)/\w'=w:=by
 have hM:=h.OC
 refine py (e:=[(0,_)]) func144 O ntmps144 O O$ QB O$ PG O$ qV (Qi U28 O O)$ PW O$ Pf O$ Pu O$ OX z0t O$ OX Zl O$ qV (OO U3 O O hM O)$ OU O$ OB func144 O ?_
 exact⟨_,rfl,rfl,rfl⟩
def z1r (h:S1 w p m kp ca D):Pm prog 100 [ptr p 0] w λv w'=>v=I ((512*D.N:Nat):Int)/\w'=w:=by
 have hM:=h.OC
 have hN:=h.ok.hN
 refine py (e:=[(0,_)]) func100 O ntmps100 O O$ QB O$ PG O$ qV (Qi U28 O O)$ PW O$ Pf O$ Pu O$ OX z0t O$ OX ZM O$ qV (OO U3 O O hM O)$ qV (Wm O O (by omega))$ OU O$ OB func100 O (⟨_,rfl,?_,rfl⟩)
 show I _=I _
 congr 1;omega
def z2H (h:S1 w p m kp ca D):Pm prog 205 [ptr p 0] w λv w'=>v=I (if D.down then 8 else 0)/\w'=w:=by
 have hM:=h.OC
 refine py (e:=[(0,_)]) func205 O ntmps205 O O$ QB O$ Qx$ Pf O$ qV (Qi U28 O O)$ OU O$ OJ O$ Pf O$ Pu O$ OX z3S O$ qV (OO U4 O O hM O)$ OU O$ Qe O (λhd=>?_)$ λhd=>?_
 ·refine QB O$ OB func205 O ?_;exact⟨_,rfl,by simp[hd,Qc],rfl⟩
 ·refine OE$ OA$ QB O$ OB func205 O ?_;exact⟨_,rfl,by simp[hd,Qc],rfl⟩
def z8m (n:Int)(h:S1 w p m kp ca D):Pm prog 206 [ptr p 0,I n] w λv w'=>v= .bool (D.has n)/\w'=w:=by
 have hM:=h.OC
 refine py (e:=[(0,_),(1,_)]) func206 O ntmps206 O O$ qN O$ Qt O$ Te O$ SC (λh1=>?_)$ λh1=>?_
 ·refine P8 O$ OK O$ Pu O$ OX z0t O$ OX Zl O$ qV (OO U3 O O hM O)$ Qq O$ QJ O$ OU O$ OB func206 O (⟨_,rfl,?_,rfl⟩);simp[Dev.has,h1,Qc]
 ·refine OK O$ QG$ QG$ QG$ qS$ PK O$ OU O$ OB func206 O (⟨_,rfl,?_,rfl⟩);simp[Dev.has,h1,Qc]
def z4Q (n:Int)(h:S1 w p m kp ca D):Pm prog 229 [ptr p 0,I n] w λv w'=>v=S (D.kept n)/\Ext w w':=by
 have hM:=h.OC
 have hN:=h.ok.hN
 have eu:maxLen=9223372036854775807:=rfl
 obtain⟨kv,nO,mZ⟩:=h.map
 refine py (e:=[(0,_),(1,_)]) func229 O ntmps229 O O$ QB O$ PG O$ Pu O$ OX z3t O$ qV (OO z97 O O hM O)$ OK O$ qV (zl2 (k:=n) (K:=KI) z97 (Sd U3) ti9 O O nO) ?_
 rw[mZ n]
 cases hs:D.sf n with
 | some s =>
   refine OK O$ RA O$ RT O$ Qt O$ OD$ OS O$ Pf O$ OU O$ OB func229 O ?_
   exact⟨_,rfl,by simp[Dev.kept,hs,Qc],Ext.refl w⟩
 | none =>
   refine OK O$ RA O$ RT O$ Qt O$ PW O$ Pf O$ P4 zcv O (z1r h) ?_;rintro _ w1 ⟨rfl,rfl⟩;refine OM O O (pmk (c:=512*D.N) (n:=512*D.N) Q5 VK O O O (by omega) (by omega) (by omega)) ?_;rintro _ w1 ⟨b1,rfl,⟨bU,ad,aj⟩,-⟩;refine qV (z3z (l:=zeros (512*D.N)) Q5 U5 U9 O aj (ZV _) (by simp[zeros])) ?_;refine OU O$ OB func229 O ?_;exact⟨_,rfl,by simp[Dev.kept,hs,Qc],ad⟩
def z5c (h:S1 w p m kp ca D)(hc:D.calls<1000000000000):Pm prog 226 [ptr p 0] w λv w'=>v= .bool (decide (D.due=1))/\S1 w' p m kp ca D.count/\Kp (λk=>k=p) w w':=by
 have hM:=h.OC
 have qh:=h.ok.due
 have az:=h.ok.len
 refine py (e:=[(0,_)]) func226 O ntmps226 O O$ qN O$ Qt O$ Pu O$ OX z8k O$ qV (OO U3 O O hM O)$ PV O$ Pu O$ OX z8k O$ OW O (QQ Q7 O O O hM (by simp)) ?_
 rintro w1 ⟨dN,aL⟩
 refine OD$ PG O$ Pu O$ OX WX O$ OX z0w O$ qV (OO U3 O O dN O)$ Ri O$ OD$ OQ O (λh0=>?_)$ λh0=>?_
 ·refine QB O$ OB func226 O ?_;have e0:(YU kp ca m D).set (0+9) (I (D.calls+1))=YU kp ca m D.count:=by simp[YU,Dev.count,h0]
  rw[e0] at dN;exact⟨_,rfl,by simp[Qc];omega,h.turn dN aL O O O O h.ok.count,aL⟩
 ·refine OE$ Pf O$ Pu O$ OX WX O$ OX z0w O$ qV (OO U3 O O dN O)$ Ro O$ Pu O$ OX WX O$ OX z0w O$ OW O (QQ Q7 O O O dN (by simp)) ?_;rintro w2 ⟨mK,aq⟩;refine qM O$ OK O$ Pu O$ OX WX O$ OX z0w O$ qV (OO U3 O O mK O)$ Ri O$ OU O$ Pn.qb (e:=[(2,_)]) ?_;refine OB func226 O ?_;have e0:((YU kp ca m D).set (0+9) (I (D.calls+1))).set (0+0+0) (I (D.due-1))=YU kp ca m D.count:=by simp[YU,Dev.count,h0]
  rw[e0] at mK;exact⟨_,rfl,by simp[Qc];omega,h.turn mK (aL.trans aq) O O O O h.ok.count,aL.trans aq⟩
end
theorem z8j (xs:List (Int×OG))(j:Nat)(h:j<xs.length):((wrs xs).drop (j*2)).take 2=wr xs[j]:=by
 induction xs generalizing j with
 |nil=>simp at h
 | cons x r ih =>
   cases j with
   |zero=>simp[wrs,wr,List.flatMap_cons]
   | succ j =>
     have e:(wrs (x::r))=I x.1::S x.2::wrs r:=by simp[wrs,wr,List.flatMap_cons]
     rw[e,show(j+1)*2=(j*2)+1+1 by omega]
     simpa using ih j (by simpa using h)
def z1D (a:Option Addr)(n cap:Nat)(w:World):Pm prog 228 [.slice a n cap] w λv w'=>∃b,v= .func (.func 246) #[] #[ptr b 0]/\z0o w b [.slice a n cap] 133 w':=by
 refine py (e:=[(0,_)]) func228 O ntmps228 O O$ qN O$ OM O O (Rm O O) ?_
 rintro _ w1 ⟨b1,rfl,hN⟩
 refine Qw O$ qV (ymf (first:=[]) (caps:=[.tmp 1]) O O)$ OU O$ OB func228 O ?_
 exact⟨_,rfl,_,rfl,hN⟩
def z3n (l bx:Nat)(ca:Value)(xs:List (Int×OG))(J:Nat->World->Prop)(Jx:World->Prop)(w:World)(hn:xs.length<4611686018427387904)
  (hJ:∀i w,J i w->(∃T,OR w bx [ca] T)/\Sl w ca 337 2 xs.length (wrs xs))
  (hround:∀i w x,xs.reverse[i]? =some x->J i w->z3x prog l [I ((xs.length:Int)-1-i),.agg (wr x).toArray] w λv w'=>(v= .bool true/\J (i+1) w')\/(v= .bool false/\Jx w')) (h0:J 0 w):
  Pm prog 246 [.func (.yield l) #[] #[],ptr bx 0] w λv w'=>v= .tuple #[]/\(J xs.length w'\/Jx w'):=by
 obtain⟨⟨T,hM⟩,hS⟩:=hJ 0 w h0
 obtain⟨a,cap,rfl,ha⟩:=hS.rd.shape
 refine py (e:=[(0,_),(1,_)]) func246 O ntmps246 O O$ qN O$ qV (OO z0Y O O hM O)$ Rv z0Y O$ Ro O$ OU O$ OH ?_
 rw[show(xs.length:Int)-1=(xs.length:Int)-1-((0:Nat):Int) by omega]
 refine Rq (α:=Nat) (0) (λi=>[(0,.func (.yield l) #[] #[]),(1,ptr bx 0),(3,I ((xs.length:Int)-1-i))]) (λi w=>i<=xs.length/\J i w) (λi=>xs.length-i) ?hI ?hround
 case hI=>exact⟨by omega,h0⟩
 case hround=>
  rintro i w1 ⟨hi,hj⟩ ih
  try dsimp only
  obtain⟨⟨T1,dN⟩,jJ⟩:=hJ i w1 hj;refine PG O$ Te O$ OD$ OQ O (λjR=>?_)$ λjR=>?_
  ·have aZ:i<xs.length:=by omega
   have Bp:=jJ.shape;rcases Bp with⟨-,h⟩|⟨gb,cap',lR,jP⟩
   ·omega
   cases lR;obtain⟨x,hx⟩:∃x,xs.reverse[i]? =some x:=⟨_,List.getElem?_eq_getElem (by simpa using aZ)⟩
   have fW:((wrs xs).drop ((xs.length-1-i)*2)).take 2=wr x:=by
    rw[z8j xs _ (by omega)]
    congr 1
    rw[List.getElem?_reverse aZ,List.getElem?_eq_getElem (by omega)] at hx;exact QU hx
   have hz:((xs.length:Int)-1-i)=((xs.length-1-i:Nat):Int):=by omega
   have hy:=hround i w1 x hx hj;rw[hz] at hy⊢;refine OE$ Qx$ Qm O$ qV (OO z0Y O O dN O)$ OK O$ qV (PX z0Y WB O O (by omega))$ qV (Pt zh3 O WB O (jJ.part fW) O)$ z7p O O (yy O O) (hy) ?_;rintro v w2 hv;rcases hv with⟨rfl,kT⟩|⟨rfl,ae⟩
   ·refine qV ((Sb O))$ PW O$ OA$ Rh O$ Ro O$ OU O ?_;rw[show((xs.length-1-i:Nat):Int)-1=(xs.length:Int)-1-((i+1:Nat):Int) by omega];exact(ih (i+1) w2 ⟨by omega,kT⟩ (by omega)).qb
   ·refine qV ((Sb O))$ OD$ OS O$ OB func246 O ?_;exact⟨_,rfl,rfl,.inr ae⟩
  ·refine ON O$ Qv func246 O ?_;have:i=xs.length:=by omega
   subst this;exact⟨_,rfl,rfl,.inl hj⟩
theorem z6p (xs:List (Int×OG))(n:Int)(i:Nat):(∀j x,j<i->xs.reverse[j]? =some x->x.1≠n)->∀x,xs.reverse[i]? =some x->x.1=n->Wv xs n=some x.2:=by
 intro fH x hx he
 have aZ:i<xs.reverse.length:=by
  rcases Nat.lt_or_ge i xs.reverse.length with h| h
  ·exact h
  ·rw[List.getElem?_eq_none h] at hx;cases hx
 have:xs.reverse.find? (λx=>x.1==n)=some x:=by
  rw[List.find?_eq_some_iff_getElem];refine⟨by simp[he],i,aZ,?_,λj hj=>?_⟩
  ·rw[List.getElem?_eq_getElem aZ] at hx;exact QU hx
  ·have:=fH j _ hj (List.getElem?_eq_getElem (by omega))
   simpa using this
 simp[Wv,this]
theorem z6u (xs:List (Int×OG))(n:Int):(∀j x,j<xs.length->xs.reverse[j]? =some x->x.1≠n)->Wv xs n=none:=by
 intro fH
 have:xs.reverse.find? (λx=>x.1==n)=none:=by
  rw[List.find?_eq_none];intro x hx;obtain⟨j,hj,rfl⟩:=List.getElem_of_mem hx;have:=fH j _ (by simpa using hj) (List.getElem?_eq_getElem hj)
  simpa using this
 simp[Wv,this]
def zdL {w:World}{p m:Nat}{kp ca:Value}{D:Dev}(n:Int)(h:S1 w p m kp ca D)(hc:D.cache.length<1000000000000):
  Pm prog 207 [ptr p 0,I n] w λv w'=>v=S (D.now n)/\Ext w w':=by
 have hM:=h.OC
 have az:=h.ok.len
 have ev:=hc
 obtain⟨a,cap,rfl,ha⟩:=h.cache.rd.shape
 refine py (e:=[(0,_),(1,_)]) func207 O ntmps207 O O$ qN O$ OM O O (Rm O O) ?_
 rintro _ w1 ⟨b3,rfl,eG,ad,au⟩
 refine OM O O (RN (cs:=[_]) ti9 O) ?_
 rintro _ w2 ⟨b4,rfl,fC,ae,aK⟩
 replace h:=(h.ext ad).ext ae
 have mK:=h.OC
 refine OD$ PG O$ Pu O$ OX YE O$ qV (OO z0Y O O mK O)$ P4 zhW O (z1D a D.cache.length cap _) ?_
 rintro _ w3 ⟨bx,rfl,fA,ai,j0⟩
 replace h:=h.ext ai
 replace au:=ai.OC (ae.OC au)
 replace aK:=ai.OC aK
 refine OD$ OH$ TQ (ps:=[12,13]) (p:=[]) (q:=[_]) O zjn ?_
 rintro l w4 aD hl cG hD Rc dH fj
 have O6:=zc6 dH fj
 have h3:=h
 replace h:=h.ext aD
 replace au:=aD.OC au
 replace aK:=aD.OC aK
 have EQ:=j0.lt
 have jm:=au.lt
 have dA:=ad.size
 have df:=ae.size
 have oN:=ai.size
 have Lz:bx<w3.heap.size:=j0.lt
 replace j0:=aD.OC j0
 refine Pm.mono (z3n l bx (.slice a D.cache.length cap) D.cache
  (λi w'=>Rc .ready none w'/\Kp (λk=>k=l) w4 w'/\∀j x,j<i->D.cache.reverse[j]? =some x->x.1≠n)
  (λw'=>Rc .done (some .ret) w'/\Kp (λk=>k=l\/k=b4) w4 w'/\OR w' b4 [S (D.now n)] 9) w4 (by omega) ?_ ?_ ⟨fj,Kp.refl _ _,by omega⟩) ?_
 ·rintro i w' ⟨h1,h2,-⟩;refine⟨⟨_,h2.OC j0 (by omega)⟩,h.cache.kp h2 λg hg dI=>?_⟩;have:=h3.cache.lt hg;omega
 ·rintro i w' x hx ⟨h1,h2,fH⟩;refine Vh dH h1 O O ?_;have xY:=h2.size;refine OL O$ OM O O (RN (cs:=[_,_]) WB O) ?_;rintro _ w5 ⟨b6,rfl,jQ,aT,aQ⟩;refine OW O (PO WB O O O O aQ (by simp)) ?_;rintro w6 ⟨mU,aP⟩;have aI:=aT.An aP (λi hi=>by omega);replace h1:=aI.rc dH h1 id;replace h2:=h2.trans aI.kp;have ER:=aT.size;have LA:=mU.lt;refine OD$ run_beginRound O dH h1 ?_;rintro w7 h7 aC;have bP:=aC.OC mU (by omega);have nP:=(h2.trans aC).OC au (by omega);refine OH$ qN O$ OX z0H O$ qV ((OO U3 O O bP O))$ qV ((OO U3 O O nP O))$ Ri O$ OD$ OQ O (λdP=>?_)$ λdP=>?_
  ·have fw:=(h2.trans aC).OC aK (by omega);refine qN O$ OX z3Q O$ qV ((OO U9 O O bP O))$ OW O (QQ ti9 O O O fw (by simp)) ?_;rintro w8 ⟨ce,aR⟩;refine OD$ Yn dH (aR.rc dH h7 (by omega)) ?_;intro w9 h9 aM;refine .inr ⟨rfl,h9,((h2.trans aC).OV λ_ h=> .inl h).trans ((aR.OV λ_ h=> .inr h).trans (aM.OV λ_ h=> .inl h)),?_⟩
   have ES:D.now n=x.2:=by
    unfold Dev.now;rw[z6p D.cache n i fH x hx dP]
    rfl
   rw[ES];exact aM.OC ce (by omega)
  ·refine OE$ OA$ VH dH h7 ?_;intro w9 h9 aM;refine .inl ⟨rfl,h9,(h2.trans aC).trans aM,λj y hj hy=>?_⟩;rcases Nat.lt_or_ge j i with rC|rC
   ·exact fH j y rC hy
   ·have:j=i:=by omega
    subst this;rw[hx] at hy;cases hy;exact dP
 ·rintro v w' ⟨rfl,⟨h1,h2,fH⟩|⟨h1,h2,hB⟩⟩
  ·refine⟨_,_,h1,by simp,λw5 h5=>?_⟩;have ak:=h2.trans h5;have aT:Ext w3 w5:=aD.An ak (λi hi=>by omega);replace h3:=h3.ext aT;have nP:=ak.OC au (by omega);have fw:=ak.OC aK (by omega);have ud:=ak.heap hD (by omega);refine OA$ Pf O$ qV (OO U3 O O nP O)$ P4 zem O (z4Q n h3) ?_;rintro _ w6 ⟨rfl,aI⟩;replace fw:=aI.OC fw;replace ud:=aI.heap ud id;refine OW O (QQ ti9 O O O fw (by simp)) ?_;rintro w7 ⟨bP,aC⟩;replace ud:=aC.heap ud (by omega);have ce:=(QN w7 w3.heap.size (.deferred none)).OC bP (by omega);refine OD$ Xr (by simp) (Z9 ud) func207 (.cell1 U9 O O ((ce).cell _) .nil) ?_;refine⟨_,rfl,?_,?_⟩
   ·simp[Dev.now,z6u D.cache n fH,Qc]
   ·exact((((ad.trans (ae.trans ai)).trans aT).trans aI).An aC (λi hi=>by omega)).An (QN w7 w3.heap.size (.deferred none)) (λi hi=>by omega)
  ·refine⟨_,_,h1,by simp,λw5 h5=>?_⟩;have ud:=(h2.trans (h5.OV λ_ h=> .inl h)).heap hD (by omega);have aH:=h5.OC hB (by omega);have ce:=(QN w5 w3.heap.size (.deferred none)).OC aH (by omega);refine Xr (by simp) (Z9 ud) func207 (.cell1 U9 O O ((ce).cell _) .nil) ?_;refine⟨_,rfl,rfl,?_⟩;exact(((ad.trans (ae.trans (ai.trans aD))).An h2 (λi hi=>by omega)).An h5 (λi hi=>by omega)).An (QN w5 w3.heap.size (.deferred none)) (λi hi=>by omega)
section
variable {w:World}{p m:Nat}{kp ca:Value}{D:Dev}
def zb1 (h:S1 w p m kp ca D):Pm prog 164 [ptr p 0] w λv w'=>v= .bool D.down/\w'=w:=by
 have hM:=h.OC
 refine py (e:=[(0,_)]) func164 O ntmps164 O O$ qN O$ Qt O$ qV (Qi U28 O O)$ P8 O$ Pu O$ OX z3S O$ qV (OO U4 O O hM O)$ PK O$ OU O$ OB func164 O ?_
 exact⟨_,rfl,rfl,rfl⟩
end
end Go.Proofs.YtgdkbagngobdlaaGreatDoor
