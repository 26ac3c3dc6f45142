/- Merged by program. -/
import Derived.Test.YtffbidffdbpcoaaGreatDoorZm4
import Derived.WideLaws
set_option linter.all false
set_option maxRecDepth 1000000
set_option maxHeartbeats 16000000
namespace Go.Proofs.YtffbidffdbpcoaaGreatDoor
open Go Go.RowKit Go.Proofs.Tryz
structure PHd where
 n:Nat
 m:Nat
 p:Qk
 bits:Nat
def hdC (h:PHd):List Value:=[I (h.n:Int),I (h.m:Int),I (h.p.Pb:Int),I (h.p.chain:Int),I (h.p.interval:Int),I (h.p.zeta:Int),I (h.p.most:Int),I (h.bits:Int)]
abbrev hdV (h:PHd):Value:= .agg (hdC h).toArray
structure PHd.Qq (h:PHd):Prop where
 n1:1<=h.n
 n2:h.n<=65536
 m:h.m<=1048576
 bits:h.bits<=134217728
 p:h.p.Qq
def Z3 (h:PHd):List (Nat×Nat):=[(h.n,32),(h.m,32),(h.p.Pb,8),(h.p.chain,8),(h.p.interval,8),(h.p.zeta,8),(h.p.most,32),(h.bits,64)]
def Ri (l:List (Nat×Nat)):List Bool:=l.flatMap λq=>Pc q.2 q.1
def z84:OI:=[119,116,108,49]
def hdT (h:PHd):OI:=z84++Ph (Ri (Z3 h))
theorem Ur (h:PHd):(Ri (Z3 h)).length=192:=by
 simp[Ri,Z3]
theorem Xe (h:PHd):(hdT h).length=28:=by
 unfold hdT
 rw[List.length_append,Py,Ur];rfl
def XV (h:PHd)(hh:h.Qq)(w:World):Pm prog 116 [hdV h] w λu w'=>u=I 0/\Ext w w':=by
 obtain⟨g1,g2,g3,g4,g5⟩:=hh
 refine py (e:=[(0,_)]) func116 O ntmps116 O O$ qN O$ OJ O O (R4 O (cs:=hdC h) O) ?_
 rintro _ w1 ⟨b1,rfl,bL,ad,ai⟩
 replace ai:OP w1 b1 [I (h.n:Int),I (h.m:Int),I (h.p.Pb:Int),I (h.p.chain:Int),I (h.p.interval:Int),I (h.p.zeta:Int),I (h.p.most:Int),I (h.bits:Int)] 134:=ai
 refine OV O$ QA$ An$ qN O$ OW Ua O$ qV (OM U3 O O ai O)$ Qw O$ PH$ ON O$ OW Ua O$ qV (OM U3 O O ai O)$ QB O$ PH$ PM O ?_
 refine OV O$ OL O$ qN O$ OW z0s O$ qV (OM U3 O O ai O)$ Qw O$ PH$ ON O$ OW z0s O$ qV (OM U3 O O ai O)$ QB O$ PH$ PM O$ OV O ?_
 refine OL O$ qN O$ OW Vc O$ qV (OM U3 O O ai O)$ Qw O$ PH$ ON O$ OW Vc O$ qV (OM U3 O O ai O)$ QB O$ PH$ PM O$ OV O$ Po.qb (e:=[(1,_),(2,_),(3,_)]) ?_
 refine OL O$ OK O$ OW Ua O$ qV (OM U3 O O ai O)$ Rg O$ PH$ ON O$ QL$ QL$ QL$ PM O$ OV O$ SH O$ Oz ?_
 refine qN O$ OW Yj O$ qV (Pp (news:=Vl h.p) U75 O RD O (ai.cells (i:=2) (n:=5) O) O)$ P5 zeE O (ZV h.p g5 _) ?_
 rintro _ w2 ⟨rfl,ae⟩
 refine OV O$ OB func116 O ?_
 exact⟨_,rfl,rfl,ad.trans ae⟩
def za2 (h:PHd)(hh:h.Qq)(w:World):Pm prog 75 [hdV h] w λu w'=>u= .tuple #[S (hdT h),I 0]/\Ext w w':=by
 obtain⟨g1,g2,g3,g4,g5⟩:=id hh
 obtain⟨q1,q2,q3⟩:=id g5
 obtain⟨r1,r2,r3,r4⟩:=id q1
 have r1':h.p.Pb<=16:=r1
 have r2':h.p.interval<=64:=by
  have:h.p.interval=0\/2<=h.p.interval/\h.p.interval<=64:=r2;omega
 have r4':h.p.zeta<=16:=r4
 refine py (e:=[(0,_)]) func75 O ntmps75 O O$ qN O$ OJ O O (R4 O (cs:=hdC h) O) ?_
 rintro _ w1 ⟨b1,rfl,bL,ad,ai⟩
 replace ai:OP w1 b1 [I (h.n:Int),I (h.m:Int),I (h.p.Pb:Int),I (h.p.chain:Int),I (h.p.interval:Int),I (h.p.zeta:Int),I (h.p.most:Int),I (h.bits:Int)] 134:=ai
 refine Qm O$ An$ qN O$ qV (Pp (news:=hdC h) z6u O TT O (ai.cells (n:=8) O) O)$ P5 zaY O (XV h hh _) ?_
 rintro _ w2 ⟨rfl,ae⟩
 refine QW O$ QE O$ Qg O$ qN O$ P5 z0L O (Uy w2) ?_
 rintro _ w3 ⟨wp,F,rfl,nx,ah,qP⟩
 have aZ:=ae.trans ah
 have bV:=aZ.OA ai
 refine QS O$ OW Yj O$ qV (Pp (news:=Vl h.p) U75 O RD O (bV.cells (i:=2) (n:=5) O) O)$ OJ O O (Ry (cs:=[_,_,_,_,_]) RD O) ?_
 rintro _ w4 ⟨b6,rfl,nN,aA,aT⟩
 refine OT O (PG (news:=Vl h.p) RD O O O O aT (by simp)) ?_
 rintro w5 ⟨fV,aj⟩
 replace fV:OP w5 b6 [I (h.p.Pb:Int),I (h.p.chain:Int),I (h.p.interval:Int),I (h.p.zeta:Int),I (h.p.most:Int)] 75:=fV
 have cw:Ext w3 w5:=aA.It aj (λi e=>by omega)
 have eU:=cw.OA bV
 refine OC$ An$ qN O$ OW Ua O$ qV ((OM U3 O O eU O))$ qV (Sa (cs:=[_,_]) Vz O z00 O O)$ OW z0s O$ qV ((OM U3 O O eU O))$ qV (Sa (cs:=[_,_]) Vz O z00 O O)$ OW z1K O$ qV ((OM U3 O O fV O))$ qV (Sa (cs:=[_,_]) Vz O z00 O O)$ OW Zu O$ qV ((OM U3 O O fV O)) ?_
 refine qV (Sa (cs:=[_,_]) Vz O z00 O O)$ OW zbQ O$ qV ((OM U3 O O fV O))$ qV (Sa (cs:=[_,_]) Vz O z00 O O)$ OW zaI O$ qV ((OM U3 O O fV O))$ qV (Sa (cs:=[_,_]) Vz O z00 O O)$ OW TC O$ qV ((OM U3 O O fV O))$ qV (Sa (cs:=[_,_]) Vz O z00 O O)$ OW Vc O$ qV ((OM U3 O O eU O))$ qV (Sa (cs:=[_,_]) Vz O z00 O O)$ OJ O O (XZ (cs:=[_,_,_,_,_,_,_,_,_,_,_,_,_,_,_,_]) (zs:=[Value.int .i64 0,Value.int .i64 0,Value.int .i64 0,Value.int .i64 0,Value.int .i64 0,Value.int .i64 0,Value.int .i64 0,Value.int .i64 0,Value.int .i64 0,Value.int .i64 0,Value.int .i64 0,Value.int .i64 0,Value.int .i64 0,Value.int .i64 0,Value.int .i64 0,Value.int .i64 0]) zfX Vz O (by kernel_rfl) O O O (by decide)) ?_
 rintro _ w6 ⟨b43,rfl,⟨CZ,aR,en⟩,o6⟩
 have yr:=cw.trans aR
 have mh:=nx.ext yr
 have z3:=ah.size
 have hL:(Z3 h).length=8:=rfl
 replace o6:Sl w6 (.slice (some ⟨b43,0,none⟩) 8 8) 215 2 8 ((Z3 h).flatMap λq=>[I (q.1:Int),I (q.2:Int)]):=o6
 refine Rs zfX O$ ON O$ OC$ Po.qb (e:=[(2,_),(3,_),(5,_),(43,_),(44,_),(45,_)]) ?_
 refine OE$ Rr (α:=Nat) (0) (λi=>[(5,ptr wp 0),(43,.slice (some ⟨b43,0,none⟩) 8 8),(44,I 8),(45,I (i:Int))]) (λi w'=>WrR wp F w6 w' (Ri ((Z3 h).take i))/\i<=8) (λi=>8-i) ?hI ?hround
 case hI=>exact⟨⟨F,mh,Kp.refl _ _,λk hk=> .inl hk⟩,Nat.zero_le _⟩
 case hround=>
  rintro i w7 ⟨⟨F7,pA,aB,pB⟩,hi⟩ ih
  try dsimp only
  refine qN O$ Qw O$ OC$ An$ OQ O (λh0=>?_)$ λh0=>?_
  ·obtain⟨⟨v,c⟩,hq⟩:∃q,(Z3 h)[i]? =some q:=⟨_,List.getElem?_eq_getElem (by rw[hL];omega)⟩
   have Br:v<2^c/\c<=64/\v<=134217728:=by
    have hm:=List.mem_of_getElem? hq;simp only[Z3,List.mem_cons,List.not_mem_nil,or_false,Prod.mk.injEq] at hm;rcases hm with⟨rfl,rfl⟩|⟨rfl,rfl⟩|⟨rfl,rfl⟩|⟨rfl,rfl⟩|⟨rfl,rfl⟩|⟨rfl,rfl⟩|⟨rfl,rfl⟩|⟨rfl,rfl⟩<;>refine⟨by omega,by omega,by omega⟩
   have eL:(Ri ((Z3 h).take i)).length+c<=192:=by
    have e:Ri ((Z3 h).take (i+1))=Ri ((Z3 h).take i)++Pc c v:=by rw[PC hq];simp[Ri]
    have e2:=congrArg List.length e;rw[List.length_append,bitsN_length] at e2
    have e3:(Ri (Z3 h)).length=(Ri ((Z3 h).take (i+1))).length+(Ri ((Z3 h).drop (i+1))).length:=by
     conv=>lhs;rw[<-List.take_append_drop (i+1) (Z3 h)]
     unfold Ri;rw[List.flatMap_append,List.length_append]
    have e4:=Ur h;omega
   have hH:=o6.kp aB (λg hg e=>by have e1:b43=g:=Rx hg;have:=mh.lt e;have:=nx.lt e;have:=cw.size;omega);have kJ:=z1i (f:=λq:Nat×Nat=>[I (q.1:Int),I (q.2:Int)]) (λ_=>rfl) hH.rd hq;refine OD$ QA$ qN O$ qV (PR zfX Vz O O (by omega))$ qV (Pp (news:=[I (v:Int),I (c:Int)]) zkX O Vz O kJ O)$ OJ O O (Ry (cs:=[_,_]) Vz O) ?_;rintro _ w8 ⟨b8,rfl,ja,cT,cj⟩;refine OT O (PG (news:=[I (v:Int),I (c:Int)]) Vz O O O O cj (by simp)) ?_;rintro w9 ⟨rg,aw⟩;replace rg:OP w9 b8 [I (v:Int),I (c:Int)] 215:=rg;have iR:Ext w7 w9:=cT.It aw (λi e=>by omega);refine OC$ R6 O$ OW zcK O$ qV (OM U3 O O rg O)$ qV ((Q7 O U3 Rt (by omega)))$ OW zdz O$ qV (OM U3 O O rg O)$ P5 Wl O (Se (pA.ext iR) v c Br.2.1 Br.1 (by omega)) ?_;rintro _ w10 ⟨rfl,F10,Ed,aC,cq⟩;refine OC$ Oz$ OK O$ PS O$ ON O$ OC ((ih (i+1) _ ⟨⟨F10,?_,(aB.trans iR.kp).It aC (λk hk=>(pB k hk).symm),λk hk=>?_⟩,by omega⟩ (by omega)).qb)
   ·rw[PC hq,show Ri ((Z3 h).take i++[(v,c)])=Ri ((Z3 h).take i)++Pc c v by simp[Ri]];exact Ed
   ·rcases cq k hk with e| e
    ·exact pB k e
    ·have:=aB.size;have:=iR.size;exact .inr (by omega)
  ·have dl:i=8:=by omega
   subst dl;rw[show(Z3 h).take 8=Z3 h from rfl] at pA;refine OO O$ Pn O$ P5 z7s O (Xk pA) ?_;rintro _ w8 ⟨rfl,rfl⟩;have gQ:(Ph (Ri (Z3 h))).length=24:=by rw[Py,Ur]
   refine ON O$ SU O$ SA O$ QW O$ qV (YH O O (by first|omega|(simp;done)|(simp;omega))) ?_;refine ON O$ Qm O$ OB func75 O (⟨_,rfl,?_,((ad.trans aZ).trans yr).It aB (λk hk=>by have:=qP k hk;have:=ae.size;have:=ad.size;omega)⟩);simp[PX,hdT,z84]
def z65 {w:World}{ga:Option Addr}{gc:Nat}{g:List (List Nat)}(h:GrM w (.slice ga g.length gc) g)(hg:Rh g):Pm prog 74 [.slice ga g.length gc] w λu w'=>u=I (PT g:Int)/\w'=w:=by
 have hn:=hg.n
 obtain⟨vs,fO,nv⟩:=h.ex
 refine py (e:=[(0,_)]) func74 O ntmps74 O O$ qN O$ QS O$ OV O$ PK O$ Rs WQ O$ ON O$ OC$ OE$ Rr (α:=Nat) (0) (λi=>[(3,I (PT (g.take i):Int)),(6,.slice ga g.length gc),(7,I (g.length:Int)),(8,I (i:Int))]) (λi w'=>w'=w/\i<=g.length) (λi=>g.length-i) ?hI ?hround
 case hI=>exact⟨rfl,Nat.zero_le _⟩
 case hround=>
  rintro i w4 ⟨rfl,hi⟩ ih;have uy:=TR hg i
  try dsimp only
  refine qN O$ Qw O$ OC$ An$ OQ O (λh0=>?_)$ λh0=>?_
  ·obtain⟨l,hl⟩:∃l,g[i]? =some l:=⟨_,List.getElem?_eq_getElem (by omega)⟩;have eP:=hg.len (List.mem_of_getElem? hl);obtain⟨a,c,e1,e2,e3⟩:=nv i l hl
   obtain⟨gb,go,gc',e4⟩:∃b o c',Value.slice ga g.length gc= .slice (some ⟨b,o,none⟩) g.length c':=by
    rcases fO.2 with⟨c,hc,h0⟩|⟨b,off,c',hc,-⟩
    ·omega
    ·exact⟨b,off,c',hc⟩
   cases e4;have Bt:=XO (g.take i) l;rw[<-PC hl] at Bt;refine OD$ QA$ qN O$ qV (PR WQ Tz O O (by omega))$ qV (Ps Pu O O (PU fO e1))$ OV O$ OK O$ Pa O$ Rs Pu O$ PS O$ OV O$ Oz$ OK O$ PS O ?_;refine ON O$ OC ?_;rw[show(PT (g.take i):Int)+(l.length:Int)=(PT (g.take (i+1)):Int) by omega];exact(ih (i+1) _ ⟨rfl,by omega⟩ (by omega)).qb
  ·have dl:i=g.length:=by omega
   subst dl;rw[List.take_length];refine OO O$ Pn O$ OV O$ OB func74 O ?_;exact⟨_,rfl,rfl,rfl⟩
def WM (p:Qk)(g:List (List Nat))(E:List (Nat×Nat)):∀(d i:Nat),(Qv p g E i).length<=(Qv p g E (i+d)).length
 |0,i=>Nat.le_refl _
 | d + 1, i => by
   have h:=WM p g E d i;rw[<-Nat.add_assoc,T5,List.length_append];omega
def z7R (p:Qk)(g:List (List Nat))(E:List (Nat×Nat))(n:Nat):Nof (Wk p g E n):=by
 unfold Wk Nof
 rw[List.pairwise_map]
 refine List.pairwise_lt_range.imp fun {i j} gW=>?_
 have:=WM p g E (j-i) i
 rwa [show i+(j-i)=j by omega] at this
def z0u (p:Qk)(g:List (List Nat))(E:List (Nat×Nat)){n i:Nat}(h:i<=n):(Wk p g E n)[i]? =some (Qv p g E i).length:=by
 unfold Wk
 rw[List.getElem?_map,List.getElem?_range (by omega)];rfl
def zfl (p:Qk)(g:List (List Nat))(E:List (Nat×Nat))(n:Nat):∀v∈Wk p g E n,v<=(Qv p g E n).length:=λv hv=>by
 unfold Wk at hv
 obtain⟨j,hj,rfl⟩:=List.mem_map.1 hv
 have h1:=List.mem_range.1 hj
 have:=WM p g E (n-j) j
 rwa [show j+(n-j)=n by omega] at this
def z5t {l:List Nat}(dh:1<=l.length)(hn:l.length<=64)(mK:Nof l){z:Nat}(hz:l[l.length-1]? =some z):(Yl l (TQ l.length (z+1))).length=(TQ l.length (z+1)).size:=by
 have h1:=z1y (TQ l.length (z+1)).width mK hz
 have h2:=UD (TQ l.length (z+1)).width l
 have h3:(S8 (TQ l.length (z+1)).width l).length=32:=by
  cases l with
  |nil=>simp at dh
  |cons v l=>simp[S8]
 have h4:(TQ l.length (z+1)).bits=z / 2^(TQ l.length (z+1)).width+l.length:=by
  show(z+1-1) / _+_=_;rw[Nat.add_sub_cancel]
  rfl
 unfold Yl Fm.size Fm.UL Fm.high
 rw[List.length_append,List.length_append,List.length_append,Py,Py,Py,Py,List.length_append,bitsN_length,bitsN_length,h1,h2,h3,h4]
 show _=12+(l.length*_+7) / 8+_+4*((l.length+63) / 64)
 have h5:(l.length+63) / 64=1:=by omega
 rw[h5]
def Xt (p:Qk)(g:List (List Nat))(E:List (Nat×Nat)):OI:=
 hdT ⟨g.length,PT g,p,(Qv p g E g.length).length⟩++Ph (Qv p g E g.length)++Yl (Wk p g E g.length) (TQ (g.length+1) ((Qv p g E g.length).length+1))
structure zbc (p:Qk)(g:List (List Nat))(E:List (Nat×Nat)):Prop where
 el:E.length=g.length
 ok:zed p g E
 bits:(Qv p g E g.length).length<=2688000
def z6Z {w:World}{p:Qk}(hp:p.Qq){g:List (List Nat)}(hg:Rh g)(bh:1<=g.length){ga:Option Addr}{gc:Nat}(jX:GrM w (.slice ga g.length gc) g)(hG:OP w 1 (Sg .gamma) 294)(hU:OP w 2 (Sg .unary) 294):
  Pm prog 47 [.slice ga g.length gc,bpV p] w λu w'=>∃E,zbc p g E/\u= .tuple #[S (Xt p g E),I 0]/\Ext w w':=by
 have hn:=hg.n
 have uC:=TR hg g.length
 rw[List.take_length] at uC
 refine py (e:=[(0,_),(1,_)]) func47 O ntmps47 O O$ qN O$ OJ O O (R4 O (cs:=Vl p) O) ?_
 rintro _ w1 ⟨b3,rfl,dG,ad,ar⟩
 refine SA O$ QW O$ qV (Pp (news:=Vl p) U75 O RD O (ar.cells (n:=5) O) O)$ P5 zjP O (zah hp hg (jX.ext ad) (ad.OA hG) (ad.OA hU)) ?_
 rintro _ w2 ⟨E,v,rfl,qY,L9,sA,cL,tv,ae⟩
 have aG:=ad.trans ae
 have aa:=Ext.P4 w2
 obtain⟨va,vc,rfl,-⟩:=cL.rd.shape
 have yt:=z7R p g E g.length
 have io:=zfl p g E g.length
 have aI:=z2V p g E g.length
 have sE:=z0u p g E (Nat.le_refl g.length)
 obtain⟨vb,vc2,e5⟩:∃b c,Value.slice va (g.length+1) vc= .slice (some ⟨b,0,none⟩) (g.length+1) c:=by
  rcases cL.shape with⟨-,h0⟩|⟨b,c,e,hc⟩
  ·omega
  ·exact⟨b,c,e⟩
 cases e5
 refine ON O$ qV (Ru (v:=S (Ph (Qv p g E g.length))) O O)$ qV (Ru (v:= .slice (some ⟨vb,0,none⟩) (g.length+1) vc) O O)$ qV (Ru (v:=I 0) O O)$ SA O$ Qm O$ PK O$ QE O$ Qg O$ An ?_
 have La:PHd.Qq ⟨g.length,PT g,p,(Qv p g E g.length).length⟩:=⟨bh,(by show g.length<=_;omega),(by show PT g<=_;omega),(by show(Qv p g E g.length).length<=_;omega),hp⟩
 refine QV (λw'=>Ext w2 w') O$ OZ 0 O O (aa)$ OG 1 O (SE WQ O) aa$ OZ 2 O O (aa)$ OZ 5 O O (aa)$ OZ 6 O O (aa)$ OG 7 O (SE WQ O) aa$ OG 8 O (PR U34 Tv O O (by omega)) aa$ qT 4 O (λ_ hS=>Pp (news:=Vl p) U75 O RD O ((hS.OA (ae.OA ar)).cells (n:=5) O) O) aa$ qT 9 O (λ_ hS=>Ps Rt O O (PU (cL.ext hS).rd (show((Wk p g E g.length).map OY)[g.length]? =some (OY (Qv p g E g.length).length) by rw[List.getElem?_map,sE];rfl))) aa ?_
 refine OG 10 O (PJ O Rt U3 (by omega)) aa$ RT 3 O zkj O (z65 ((jX.ext aG).ext aa) hg) ?_
 rintro _ w3 ⟨rfl,rfl⟩
 refine⟨aa,?_⟩
 refine OG 11 O (Sa (cs:=[_,_,_,_,_,_,_,_]) TT O zel O O) aa$ RT 12 O zkU O (za2 ⟨g.length,PT g,p,(Qv p g E g.length).length⟩ La _) ?_
 rintro _ w3 ⟨rfl,ah⟩
 refine⟨aa.trans ah,?_⟩
 have eA:=aa.trans ah
 refine OZ 13 O O (aa.trans ah)$ qT 14 O (λ_ hS=>Ru (v:=S (hdT ⟨g.length,PT g,p,(Qv p g E g.length).length⟩)) O O) (aa.trans ah)$ OG 16 O (Rp O) (aa.trans ah)$ OG 15 O (Ru (v:=I 0) O O) (aa.trans ah)$ OG 17 O (Rp O) (aa.trans ah)$ qE$ Po.qb (e:=[(4,_),(5,_),(6,_),(7,_),(8,_),(9,_)]) ?_
 refine PK O$ QE O ?_
 have Ee:Rd w3 (.slice (some ⟨vb,0,none⟩) (Wk p g E g.length).length vc) 1 (Wk p g E g.length).length ((Wk p g E g.length).map OY):=by rw[aI];exact(cL.ext eA).rd
 have hz:(Wk p g E g.length)[(Wk p g E g.length).length-1]? =some (Qv p g E g.length).length:=by rw[aI];exact sE
 have CE:=z41 (by omega) (by omega) yt (λv hv=>by have:=io v hv;omega) Ee hz
 have uy:=z5t (by omega) (by omega) yt hz
 have Lb:(TQ (Wk p g E g.length).length ((Qv p g E g.length).length+1)).size<=40000000:=by
  have h1:=z3j (n:=(Wk p g E g.length).length) (u:=(Qv p g E g.length).length+1) (by omega) (by omega) (by omega) (by omega);have h2:=Fm.Xi h1;obtain⟨h3,h4,h5⟩:=h1;unfold Fm.size Fm.UL;omega
 rw[aI] at CE uy Lb
 have pQ:=Xe ⟨g.length,PT g,p,(Qv p g E g.length).length⟩
 have gQ:=Py (Qv p g E g.length)
 refine Qg O$ Pn O$ P5 zkQ O (CE) ?_
 rintro _ w4 ⟨rfl,aA⟩
 refine ON O$ qV (Ru (v:=S (Yl (Wk p g E g.length) (TQ (g.length+1) ((Qv p g E g.length).length+1)))) O O)$ qV (Ru (v:=I 0) O O)$ SA O$ QS O$ Pa O$ qV (YH O O (by first|omega|(simp;done)|(simp;omega))) ?_
 refine ON O$ qV (YH O O (by first|omega|(simp;done)|(simp;omega))) ?_
 refine ON O$ Qm O$ OB func47 O ?_
 exact⟨_,rfl,E,⟨qY,L9,sA⟩,rfl,(aG.trans eA).trans aA⟩
/-! ### Bytes of a word, the least first -/
def PW:List Nat->Nat
 |[]=>0
 |b::r=>b+256*PW r
def Vr {s a b c d:Nat}(hb:b<2^s)(hd:d<2^s):(b+2^s*a)&&&(d+2^s*c)=(b&&&d)+2^s*(a&&&c):=by
 apply Nat.eq_of_testBit_eq
 intro j
 have sA:b&&&d<2^s:=Nat.lt_of_le_of_lt Nat.and_le_left hb
 rw[Nat.testBit_and,Nat.add_comm b,Nat.add_comm d,Nat.add_comm (b&&&d),Nat.testBit_two_pow_mul_add _ hb,Nat.testBit_two_pow_mul_add _ hd,Nat.testBit_two_pow_mul_add _ sA]
 by_cases h:j<s
 ·simp only[if_pos h,Nat.testBit_and]
 ·simp only[if_neg h,Nat.testBit_and]
theorem zd8 {s a b m:Nat}(hb:b<2^s)(hm:m<2^s):(b+2^s*a)&&&m=b&&&m:=by
 have:=Vr (a:=a) (c:=0) hb hm
 simpa using this
def z1D (m:Nat)(hm:m<256):∀L:List Nat,(∀b∈L,b<256)->PW L&&&PW (List.replicate L.length m)=PW (L.map (·&&&m))
 |[],_=>by simp[PW]
 | b :: r, h => by
   have ih:=z1D m hm r (λx hx=>h x (List.mem_cons_of_mem b hx));rw[List.length_cons,List.replicate_succ,PW,PW,List.map_cons,PW,<-ih];exact Vr (s:=8) (h b List.mem_cons_self) hm
def z3p (s m:Nat)(hs:s<=8)(hm:m<2^(8-s)):∀L:List Nat,(∀b∈L,b<256)->PW L / 2^s&&&PW (List.replicate L.length m)=PW (L.map λb=>b / 2^s&&&m)
 |[],_=>by simp[PW]
 | b :: r, h => by
   have ih:=z3p s m hs hm r (λx hx=>h x (List.mem_cons_of_mem b hx));have hb:=h b List.mem_cons_self;have e256:256=2^s*2^(8-s):=by rw[<-Nat.pow_add,show s+(8-s)=8 by omega]
   have hp:0<2^s:=Nat.two_pow_pos s;have wO:b / 2^s<2^(8-s):=by rw[Nat.div_lt_iff_lt_mul hp,Nat.mul_comm,<-e256];exact hb
   have e1:(b+256*PW r) / 2^s=b / 2^s+2^(8-s)*PW r:=by
    rw[e256,Nat.mul_assoc,Nat.add_mul_div_left _ _ hp]
   have e2:b / 2^s+2^(8-s)*PW r=(b / 2^s+2^(8-s)*(PW r%2^s))+2^8*(PW r / 2^s):=by
    have h1:=Nat.div_add_mod (PW r) (2^s);have e3:2^8=2^(8-s)*2^s:=by rw[Nat.mul_comm];exact e256
    rw[e3,Nat.mul_assoc,Nat.add_assoc,<-Nat.mul_add,Nat.add_comm (PW r%2^s),h1]
   have h3:b / 2^s+2^(8-s)*(PW r%2^s)<2^8:=by
    have h4:PW r%2^s+1<=2^s:=Nat.mod_lt _ hp;have h5:=Nat.mul_le_mul_left (2^(8-s)) h4;rw[Nat.mul_add,Nat.mul_one] at h5;have e3:2^8=2^(8-s)*2^s:=by rw[Nat.mul_comm];exact e256
    omega
   have Lc:m<2^8:=Nat.lt_of_lt_of_le hm (Nat.pow_le_pow_right (by decide) (by omega));rw[List.length_cons,List.replicate_succ,PW,PW,List.map_cons,PW,<-ih,e1,e2];have:=Vr (s:=8) (a:=PW r / 2^s) (c:=PW (List.replicate r.length m)) h3 Lc;rw[show m+256*PW (List.replicate r.length m)=m+2^8*PW (List.replicate r.length m) from rfl,this,zd8 wO hm]
theorem z1H (f g:Nat->Nat):∀L:List Nat,PW (L.map f)+PW (L.map g)=PW (L.map λb=>f b+g b)
 |[]=>rfl
 | b :: r => by
   rw[List.map_cons,List.map_cons,List.map_cons,PW,PW,PW,<-z1H f g r,Nat.mul_add];omega
def z4M:∀L:List Nat,(∀c∈L,c / 16<=4/\c%16<=4)->(PW L / 16+PW L)&&&PW (List.replicate L.length 15)=PW (L.map λc=>c / 16+c%16)/\PW L%16<=4
 |[],_=>⟨by simp[PW],by simp[PW]⟩
 | c :: r, h => by
   obtain⟨ih,ih2⟩:=z4M r (λx hx=>h x (List.mem_cons_of_mem c hx));obtain⟨h1,h2⟩:=h c List.mem_cons_self;have e:(c+256*PW r) / 16+(c+256*PW r)=(c / 16+16*(PW r%16)+c)+2^8*(PW r / 16+PW r):=by omega
   have aS:c / 16+16*(PW r%16)+c<2^8:=by omega
   have Ld:(c / 16+16*(PW r%16)+c)&&&15=c / 16+c%16:=by
    have:=Nat.and_two_pow_sub_one_eq_mod (c / 16+16*(PW r%16)+c) 4;rw[show(2:Nat)^4-1=15 from rfl,show(2:Nat)^4=16 from rfl] at this;rw[this];omega
   refine⟨?_,by rw[PW];omega⟩;rw[List.length_cons,List.replicate_succ,PW,PW,List.map_cons,PW,<-ih,e];have:=Vr (s:=8) (a:=PW r / 16+PW r) (c:=PW (List.replicate r.length 15)) aS (by decide:15<2^8);rw[show 15+256*PW (List.replicate r.length 15)=15+2^8*PW (List.replicate r.length 15) from rfl,this,Ld]
def z3Z:∀L:List Nat,(∀b∈L,b<256)->(Pc (8*L.length) (PW L)).count true=(L.map λb=>(Pc 8 b).count true).sum
 |[],_=>rfl
 | b :: r, h => by
   have ih:=z3Z r (λx hx=>h x (List.mem_cons_of_mem b hx));have hb:=h b List.mem_cons_self;rw[List.length_cons,Nat.mul_add,Nat.mul_one,RY,List.count_append,PW];have e1:(b+256*PW r) / 2^8=PW r:=by omega
   rw[List.map_cons,List.sum_cons,show(Pc 8 (b+256*PW r))=Pc 8 b from Wo (by omega),e1,ih];omega
def s1B (b:Nat):Nat:=(b / 2&&&85)+(b&&&85)
def s2B (b:Nat):Nat:=(b / 4&&&51)+(b&&&51)
def zaa:∀b:Fin 256,s1B b<256/\s2B (s1B b)<256/\s2B (s1B b) / 16<=4/\s2B (s1B b)%16<=4/\s2B (s1B b) / 16+s2B (s1B b)%16=(Pc 8 b).count true:=by decide+kernel
def Y4 {b:Nat}(h:b<256):s1B b<256/\s2B (s1B b)<256/\s2B (s1B b) / 16<=4/\s2B (s1B b)%16<=4/\s2B (s1B b) / 16+s2B (s1B b)%16=(Pc 8 b).count true:=zaa ⟨b,h⟩
def Zo (x:Nat):List Nat:=[x%256,x / 256%256,x / 65536%256,x / 16777216%256,x / 4294967296%256,x / 1099511627776%256,x / 281474976710656%256,x / 72057594037927936%256]
def z5X {x:Nat}(h:x<18446744073709551616):PW (Zo x)=x:=by
 simp only[Zo,PW]
 omega
def z9X (x:Nat):∀b∈Zo x,b<256:=λb hb=>by
 simp only[Zo,List.mem_cons,List.not_mem_nil,or_false] at hb
 rcases hb with rfl|rfl|rfl|rfl|rfl|rfl|rfl|rfl<;>exact Nat.mod_lt _ (by decide)
def z6j {x:Nat}(h:x<18446744073709551616):∃D:List Nat,D.length=8/\(∀d∈D,d<=8)/\
  ((((x / 2&&&6148914691236517205)+(x&&&6148914691236517205)) / 4&&&3689348814741910323)+(((x / 2&&&6148914691236517205)+(x&&&6148914691236517205))&&&3689348814741910323)) / 16+((((x / 2&&&6148914691236517205)+(x&&&6148914691236517205)) / 4&&&3689348814741910323)+(((x / 2&&&6148914691236517205)+(x&&&6148914691236517205))&&&3689348814741910323))&&&1085102592571150095=PW D/\D.sum=(Pc 64 x).count true:=by
 have hv:=z5X h
 have hl:=z9X x
 have hL:(Zo x).length=8:=rfl
 generalize Zo x=L at hv hl hL
 have m0:6148914691236517205=PW (List.replicate L.length 85):=by rw[hL];rfl
 have m1:3689348814741910323=PW (List.replicate L.length 51):=by rw[hL];rfl
 have m2:1085102592571150095=PW (List.replicate L.length 15):=by rw[hL];rfl
 have f1:=z3p 1 85 (by decide) (by decide) L hl
 have f2:=z1D 85 (by decide) L hl
 rw[show(2:Nat)^1=2 from rfl] at f1
 have jh:∀b∈L.map s1B,b<256:=λb hb=>by
  obtain⟨y,hy,rfl⟩:=List.mem_map.1 hb;exact(Y4 (hl y hy)).1
 have e1:(x / 2&&&6148914691236517205)+(x&&&6148914691236517205)=PW (L.map s1B):=by
  rw[m0,<-hv,f1,f2,z1H];rfl
 have f3:=z3p 2 51 (by decide) (by decide) (L.map s1B) jh
 have f4:=z1D 51 (by decide) (L.map s1B) jh
 rw[show(2:Nat)^2=4 from rfl] at f3
 rw[List.length_map] at f3 f4
 have e2:(PW (L.map s1B) / 4&&&3689348814741910323)+(PW (L.map s1B)&&&3689348814741910323)=PW ((L.map s1B).map s2B):=by
  rw[m1,f3,f4,z1H];rfl
 rw[e1,e2]
 have gj:∀c∈(L.map s1B).map s2B,c / 16<=4/\c%16<=4:=λc hc=>by
  obtain⟨z,hz,rfl⟩:=List.mem_map.1 hc;obtain⟨y,hy,rfl⟩:=List.mem_map.1 hz;have:=Y4 (hl y hy);exact⟨this.2.2.1,this.2.2.2.1⟩
 have f5:=(z4M _ gj).1
 rw[List.length_map,List.length_map] at f5
 refine⟨((L.map s1B).map s2B).map λc=>c / 16+c%16,by rw[List.length_map,List.length_map,List.length_map];exact hL,λd hd=>?_,by rw[m2];exact f5,?_⟩
 ·obtain⟨c,hc,rfl⟩:=List.mem_map.1 hd;have:=gj c hc;omega
 ·have uD:=z3Z L hl;rw[hL,hv] at uD;rw[show 8*8=64 from rfl] at uD;rw[uD,List.map_map,List.map_map]
  congr 1
  refine List.map_congr_left λb hb=>?_;exact(Y4 (hl b hb)).2.2.2.2
def zbV {D:List Nat}(h8:D.length=8)(hd:∀d∈D,d<=8):let x4:=PW D+PW D / 256;let x5:=x4+x4 / 65536;let x6:=x5+x5 / 4294967296;PW D<1152921504606846976/\x6%128=D.sum/\D.sum<=64:=by
 obtain⟨d0,d1,d2,d3,d4,d5,d6,d7,rfl⟩:∃d0 d1 d2 d3 d4 d5 d6 d7,D=[d0,d1,d2,d3,d4,d5,d6,d7]:=by
  match D,h8 with
  |[a,b,c,d,e,f,g,i],_=>exact⟨a,b,c,d,e,f,g,i,rfl⟩
 have k0:=hd d0 (by simp)
 have k1:=hd d1 (by simp)
 have k2:=hd d2 (by simp)
 have k3:=hd d3 (by simp)
 have k4:=hd d4 (by simp)
 have k5:=hd d5 (by simp)
 have k6:=hd d6 (by simp)
 have k7:=hd d7 (by simp)
 have h3:PW [d0,d1,d2,d3,d4,d5,d6,d7] / 256=PW [d1,d2,d3,d4,d5,d6,d7]:=by
  rw[PW,Nat.add_mul_div_left _ _ (by decide),Nat.div_eq_of_lt (by omega),Nat.zero_add]
 have h4:PW [d0,d1,d2,d3,d4,d5,d6,d7]+PW [d1,d2,d3,d4,d5,d6,d7]=(d0+d1+256*(d1+d2))+65536*((d2+d3)+256*(d3+d4)+65536*((d4+d5)+256*(d5+d6)+65536*((d6+d7)+256*d7))):=by
  simp only[PW];omega
 have h5:(PW [d0,d1,d2,d3,d4,d5,d6,d7]+PW [d1,d2,d3,d4,d5,d6,d7]) / 65536=(d2+d3)+256*(d3+d4)+65536*((d4+d5)+256*(d5+d6)+65536*((d6+d7)+256*d7)):=by
  rw[h4,Nat.add_mul_div_left _ _ (by decide),Nat.div_eq_of_lt (by omega),Nat.zero_add]
 dsimp only
 rw[h3,h5,h4]
 have h6:(d0+d1+256*(d1+d2))+65536*((d2+d3)+256*(d3+d4)+65536*((d4+d5)+256*(d5+d6)+65536*((d6+d7)+256*d7)))+((d2+d3)+256*(d3+d4)+65536*((d4+d5)+256*(d5+d6)+65536*((d6+d7)+256*d7)))=
   ((d0+d1+d2+d3)+256*(d1+d2+d3+d4)+65536*((d2+d3+d4+d5)+256*(d3+d4+d5+d6)))+4294967296*((d4+d5+d6+d7)+256*(d5+d6+d7)+65536*(d6+d7+256*d7)):=by omega
 rw[h6,Nat.add_mul_div_left _ _ (by decide),Nat.div_eq_of_lt (by omega),Nat.zero_add]
 refine⟨by simp only[PW];omega,?_,by simp only[List.sum_cons,List.sum_nil];omega⟩
 simp only[List.sum_cons,List.sum_nil]
 have h7:(d0+d1+d2+d3)+256*(d1+d2+d3+d4)+65536*((d2+d3+d4+d5)+256*(d3+d4+d5+d6))+4294967296*((d4+d5+d6+d7)+256*(d5+d6+d7)+65536*(d6+d7+256*d7))+((d4+d5+d6+d7)+256*(d5+d6+d7)+65536*(d6+d7+256*d7))=
   (d0+d1+d2+d3+d4+d5+d6+d7)+128*(2*(d1+d2+d3+d4)+512*((d2+d3+d4+d5)+256*(d3+d4+d5+d6))+33554432*((d4+d5+d6+d7)+256*(d5+d6+d7)+65536*(d6+d7+256*d7))+(2*(d5+d6+d7)+512*(d6+d7+256*d7))):=by omega
 rw[h7,Nat.add_mul_mod_self_left,Nat.mod_eq_of_lt (by omega)]
 omega
def zaP (x:Nat)(hx:x<18446744073709551616)(w:World):Pm prog 237 [OY x] w λv w'=>v=I ((Pc 64 x).count true:Int)/\w'=w:=by
 obtain⟨D,h1,h2,h3,h4⟩:=z6j hx
 obtain⟨f1,f2,f3⟩:=zbV h1 h2
 have a1:x / 2&&&6148914691236517205<=6148914691236517205:=Nat.and_le_right
 have a2:x&&&6148914691236517205<=6148914691236517205:=Nat.and_le_right
 rw[<-h4]
 refine py (e:=[(0,_)]) func237 O ntmps237 O O$ qN O$ QW O$ qV (Uw 1 2 O O (by decide) O)$ qV (Ux O O (by omega) (by omega))$ ON O$ qV (Ux O O (by omega) (by omega))$ qV (UU O O)$ QS O ?_
 rw[Nat.mod_eq_of_lt (show(x / 2&&&6148914691236517205)+(x&&&6148914691236517205)<18446744073709551616 by omega)]
 generalize hy:(x / 2&&&6148914691236517205)+(x&&&6148914691236517205)=y at h3
 have yu:y<18446744073709551616:=by omega
 have a3:y / 4&&&3689348814741910323<=3689348814741910323:=Nat.and_le_right
 have a4:y&&&3689348814741910323<=3689348814741910323:=Nat.and_le_right
 refine ON O$ qV (Uw 2 4 O O (by decide) O)$ qV (Ux O O (by omega) (by omega))$ ON O$ qV (Ux O O (by omega) (by omega))$ qV (UU O O)$ QS O ?_
 rw[Nat.mod_eq_of_lt (show(y / 4&&&3689348814741910323)+(y&&&3689348814741910323)<18446744073709551616 by omega)]
 generalize hz:(y / 4&&&3689348814741910323)+(y&&&3689348814741910323)=z at h3
 have nJ:z<=7378697629483820646:=by omega
 refine ON O$ qV (Uw 4 16 O O (by decide) O)$ ON O$ qV (UU O O) ?_
 rw[Nat.mod_eq_of_lt (show z / 16+z<18446744073709551616 by omega)]
 refine qV (Ux O O (by omega) (by omega))$ QS O ?_
 rw[h3]
 generalize PW D=x3 at f1 f2
 refine Pa O$ qV (Uw 8 256 O O (by decide) O)$ qV (UU O O)$ QS O ?_
 rw[Nat.mod_eq_of_lt (show x3+x3 / 256<18446744073709551616 by omega)]
 generalize aA:x3+x3 / 256=x4 at f2
 have yv:x4<=1157495777000000000:=by omega
 refine Pa O$ qV (Uw 16 65536 O O (by decide) O)$ qV (UU O O)$ OV O$ Po.qb (e:=[(0,_),(2,_)]) ?_
 refine qN O ?_
 rw[Nat.mod_eq_of_lt (show x4+x4 / 65536<18446744073709551616 by omega)]
 generalize aU:x4+x4 / 65536=x5 at f2
 have Le:x5<=1160000000000000000:=by omega
 refine Pa O$ qV (Uw 32 4294967296 O O (by decide) O)$ qV (UU O O)$ QS O ?_
 rw[Nat.mod_eq_of_lt (show x5+x5 / 4294967296<18446744073709551616 by omega)]
 generalize aR:x5+x5 / 4294967296=x6 at f2
 have Lf:x6<=1170000000000000000:=by omega
 refine ON O$ qV (PJ O Rt U3 (by omega))$ qV (XC O O (by omega) (by omega)) ?_
 rw[show x6&&&127=D.sum by rw[<-f2];exact Nat.and_two_pow_sub_one_eq_mod x6 7]
 refine OV O$ OB func237 O ?_
 exact⟨_,rfl,rfl,rfl⟩
def z9M {x:Nat}(hx:x<18446744073709551616):PN x<=64:=R3 (by omega)
def zaO (x:Nat)(hx:x<18446744073709551616)(w:World):Pm prog 238 [OY x] w λv w'=>v=I ((64-PN x:Nat):Int)/\w'=w:=by
 have tA:=z9M hx
 refine py (e:=[(0,_)]) func238 O ntmps238 O O$ qN O$ QW O$ P5 z2o O (Ui x hx w) ?_
 rintro _ w ⟨rfl,rfl⟩
 refine Ro O ?_
 rw[show(64:Int)-(PN x:Int)=((64-PN x:Nat):Int) by omega]
 refine OV O$ OB func238 O ?_
 exact⟨_,rfl,rfl,rfl⟩
def methT (P:Program)(t:TypeId)(name:String):Option FuncId:=match P.info? t with
 | some i => match i.methods.toList.find? (·.name == name) with
   | some m => match m.path.toList, m.func with
     | [], some (f, pr) => match P.underlying t with
       |some (.pointer _)=>cond pr (some f) none
       |some _=>cond pr none (some f)
       |none=>none
     |_,_=>none
   |none=>none
 |none=>none
section
variable {P:Program}{e:Env}{d:Option Nat}{ty t t':TypeId}{pos:String}{aft:Array Edge}{g:Option (Nat×Bool)}{x y:Operand}{w:World}{m n:Nat}
theorem TN {i:TypeInfo}(h:P.info? t=some i):(typeInfo t).run P w= .ok i w:=by simp[typeInfo,program,Sem.run,h]
theorem zak {f:FuncId}{name:String}{u:Value}(h:methT P t name=some f)(n:Nat):(method (n+1) t u name).run P w= .ok (f,u) w:=by
 unfold methT at h
 split at h<;>try cases h
 rename_i i hi
 split at h<;>try cases h
 rename_i m hm
 split at h<;>try cases h
 rename_i f' pr jz jA
 have ol:i.methods.find? (·.name==name)=some m:=by rw[<-hm,Array.find?_toList]
 split at h<;>try cases h
 ·rename_i el hu
  cases pr<;>simp at h;subst h;simp[method,TN hi,ol,jz,follow,jA,receiverAt,run_underlying hu,Place.get]
 ·rename_i td Is hu
  cases pr<;>simp at h;subst h;unfold method;simp only[Sem.run_bind,TN hi,Result.andThen_ok,ol,jz,follow,Sem.run_pure,jA,receiverAt,run_underlying hu,Place.get]
def yci {f:FuncId}{nm:String}{args:List Operand}{ts:Array TypeId}{vs:List Value}{u:Value}(hf:CF P f)(hm:methT P t nm=some f)(hx:look e x=some (.iface t u))(ha:looks e args=some vs):
  Yc P e ⟨d,.call ⟨.invoke x nm,args.toArray,ts⟩,ty,pos,aft,g⟩ f (u::vs) w:=fun ρ hρ=>by
 have BC:=λw=>zak (P:=P) (w:=w) (u:=u) hm (P.types.size+(Made.depth-1))
 rw[show P.types.size+(Made.depth-1)+1=P.types.size+Made.depth from rfl] at BC
 have tY:(program).run P w= .ok P w:=rfl
 have ol:=TF hρ _ _ ha
 have h0:=hρ _ _ hx
 simp[execOp,resolve,ol,h0,Deferred.ofValue,invoke,callMethod,tY,BC,Tl hf]
def zfE (hx:look e x=some (I (m:Int)))(hy:look e y=some (I 7))(hm:m<2^62):Y P e ⟨d,.binOp .andNot t x y t',ty,pos,aft,g⟩ (I ((m / 8*8:Nat):Int)) w w:=fun ρ hρ=>by
 have h1:m<2^IntKind.i64.bits:=by simp only[IntKind.bits];omega
 have h3:m&&&18446744073709551608=m / 8*8:=by
  have h4:=Vr (s:=3) (a:=m / 8) (b:=m%8) (c:=2305843009213693951) (d:=0) (Nat.mod_lt _ (by decide)) (by decide);rw[Nat.and_zero,Nat.zero_add,Nat.zero_add] at h4;have h5:=Nat.and_two_pow_sub_one_eq_mod (m / 8) 61;rw[show(2:Nat)^61-1=2305843009213693951 from rfl,Nat.mod_eq_of_lt (by omega)] at h5;rw[h5,show(2:Nat)^3=8 from rfl,show 8*2305843009213693951=18446744073709551608 from rfl,show m%8+8*(m / 8)=m by omega] at h4;rw[h4];omega
 have h6:(BitVec.ofInt IntKind.i64.bits (m:Int)&&&~~~(BitVec.ofInt IntKind.i64.bits 7)).toNat=m / 8*8:=by
  rw[BitVec.toNat_and,QF h1,show(~~~(BitVec.ofInt IntKind.i64.bits 7)).toNat=18446744073709551608 by decide,h3]
 simp only[execOp,eqGuard_andNot,binOp_andNot,intBits_andNot,hρ _ _ hx,hρ _ _ hy,pure_bind,Sem.run_pure,bits,h6]
 rw[wrap_i64 ⟨by omega,by omega⟩]
def zkW {r v q:Nat}(hr:r<=63)(hv:v<2^r)(hq:2^r=q)(hx:look e x=some (.int .u64 ((q+v:Nat):Int)))(hy:look e y=some (.int .u64 (q:Int))):Y P e ⟨d,.binOp .andNot t x y t',ty,pos,aft,g⟩ (.int .u64 (v:Int)) w w:=fun ρ hρ=>by
 subst hq
 have hp:2^r<=2^63:=Nat.pow_le_pow_right (by decide) hr
 have tA:2^64=2^r*2^(64-r):=by rw[<-Nat.pow_add,show r+(64-r)=64 by omega]
 have h2:2^(64-r)=2*2^(63-r):=by rw[<-Nat.pow_succ',show 64-r=(63-r)+1 by omega]
 have CT:0<2^(63-r):=Nat.two_pow_pos _
 have h1:2^r+v<2^IntKind.u64.bits:=by simp only[IntKind.bits];omega
 have h3:2^r<2^IntKind.u64.bits:=by simp only[IntKind.bits];omega
 have h4:(2^r+v)&&&(2^64-1-2^r)=v:=by
  have h5:=Vr (s:=r) (a:=1) (b:=v) (c:=2^(64-r)-2) (d:=2^r-1) hv (by have:=Nat.two_pow_pos r;omega);rw[Nat.mul_one,Nat.and_two_pow_sub_one_eq_mod,Nat.mod_eq_of_lt hv,Nat.one_and_eq_mod_two,h2,show(2*2^(63-r)-2)%2=0 by omega,Nat.mul_zero,Nat.add_zero] at h5
  have h6:2^r-1+2^r*(2*2^(63-r)-2)=2^64-1-2^r:=by
   rw[Nat.mul_sub,<-h2,<-tA];have:=Nat.two_pow_pos r;omega
  rw[h6,Nat.add_comm v] at h5;exact h5
 have h6:(BitVec.ofInt IntKind.u64.bits ((2^r+v:Nat):Int)&&&~~~(BitVec.ofInt IntKind.u64.bits ((2^r:Nat):Int))).toNat=v:=by
  rw[BitVec.toNat_and,BitVec.toNat_not,QF h1,QF h3];exact h4
 simp only[execOp,eqGuard_andNot,binOp_andNot,intBits_andNot,hρ _ _ hx,hρ _ _ hy,pure_bind,Sem.run_pure,bits,h6]
 rw[z1v (k:= .u64) O (by simp only[IntKind.bits];omega)]
end
structure Src (t:TypeId)(u:Value)(T:OI) where
 inv:(Nat->Prop)->World->Prop
 fl:FuncId
 fr:FuncId
 cl:CF prog fl
 cr:CF prog fr
 ml:methT prog t "Length"=some fl
 mr:methT prog t "ReadAt"=some fr
 ext:∀{X Y:Nat->Prop} {w w':World},inv X w->Ext w w'->(∀k,Y k->X k\/w.heap.size<=k)->inv Y w'
 step:∀{X Y S:Nat->Prop} {w w':World},inv X w->Kp S w w'->(∀k,S k->X k)->(∀k,Y k->X k\/w.heap.size<=k)->inv Y w'
 len:∀{X:Nat->Prop} {w:World},inv X w->Pm prog fl [u] w λv w'=>v=I (T.length:Int)/\Ext w w'
 rd:∀{X:Nat->Prop} {w:World} (off n:Nat),inv X w->(∀k,X k->k<w.heap.size)->off+n<=T.length->Pm prog fr [u,I (off:Int),I (n:Int)] w λv w'=>v= .tuple #[S ((T.drop off).take n),I 0]/\inv X w'/\Kp (λk=>¬X k) w w'
def Src.own {t:TypeId}{u:Value}{T:OI}(R:Src t u T){X S:Nat->Prop}{w w':World}(h:R.inv X w)(hk:Kp S w w')(hS:∀k,S k->X k):R.inv X w':=R.step h hk hS λ_ e=> .inl e
def z1x {s:OI}{i:Nat}{c:UInt8}(h:s[i]? =some c):Pz (P7 (s.take (i+1)))=Pz (P7 (s.take i))*256+c.toNat:=by
 rw[PC h,YA,RS,show P7 [c]=Pc 8 c.toNat by simp[P7],Q0,bitsN_length]
 have:=c.toNat_lt
 omega
def Xa (s:OI)(hs:s.length<=8)(w:World):Pm prog 162 [S s] w λv w'=>v=OY (Pz (P7 s))/\Ext w w':=by
 refine py (e:=[(0,_)]) func162 O ntmps162 O O$ qN O$ QS O$ OV O$ PK O$ OJ O O (zco U9 SG U5 O) ?_
 rintro _ w1 ⟨b7,c7,rest,rfl,⟨mg,ad,ai⟩,DT⟩
 refine Rs SG O$ ON O$ OC$ OE$ Rr (α:=Nat) (0) (λi=>[(3,OY (Pz (P7 (s.take i)))),(7,.slice (some ⟨b7,0,none⟩) s.length c7),(8,I (s.length:Int)),(9,I (i:Int))]) (λi w'=>w'=w1/\i<=s.length) (λi=>s.length-i) ?hI ?hround
 case hI=>exact⟨rfl,Nat.zero_le _⟩
 case hround=>
  rintro i w2 ⟨rfl,hi⟩ ih
  try dsimp only
  refine qN O$ Qw O$ OC$ An$ OQ O (λh0=>?_)$ λh0=>?_
  ·obtain⟨c,hc⟩:∃c,s[i]? =some c:=⟨_,List.getElem?_eq_getElem (by omega)⟩;have fL:=c.toNat_lt;have lU:=z1x hc
   have aS:Pz (P7 (s.take i))<72057594037927936:=by
    have h1:=R1 (P7 (s.take i));rw[bitsT_length,List.length_take] at h1;have h2:2^(8*min i s.length)<=2^56:=Nat.pow_le_pow_right (by decide) (by omega);omega
   have bj:w2.cell? ⟨b7,0+i*1,none⟩=some (Tu c):=by
    rw[ai.cell,Nat.zero_add,Nat.mul_one,List.getElem?_append_left (by rw[List.length_map];omega),List.getElem?_map,hc];rfl
   refine OD$ QA$ qN O$ qV (PR SG Ye O O (by omega))$ qV (Ps U5 O O bj) ?_
   generalize Pz (P7 (s.take i))=q at lU aS
   refine OV O$ R6 O$ qV (Rf 8 256 O O (by decide) O)$ ON O$ qV ((zby O U5 Rt (by decide)))$ qV (z1a O O (by omega) (by omega)) ?_
   have pz:(q*256%18446744073709551616 |||c.toNat)=Pz (P7 (s.take (i+1))):=by
    rw[lU,Nat.mod_eq_of_lt (by omega),Nat.mul_comm q];exact(Nat.two_pow_add_eq_or_of_lt (i:=8) fL q).symm
   rw[pz];refine OV O$ Oz$ OK O$ PS O$ ON O$ OC ?_;exact(ih (i+1) _ ⟨rfl,by omega⟩ (by omega)).qb
  ·have dl:i=s.length:=by omega
   subst dl;rw[List.take_length];refine OO O$ Pn O$ OV O$ OB func162 O ?_;exact⟨_,rfl,rfl,ad⟩
section
variable {P:Program}{e:Env}{d:Option Nat}{ty t t':TypeId}{pos:String}{aft:Array Edge}{g:Option (Nat×Bool)}{x y:Operand}{w:World}
theorem zde {ms:Array (String×TypeId)}{tx:TypeId}{v:Value}(ht:P.underlying t=some (.interface ms)):(binOp .eql t (.iface tx v) .nilIface).run P w= .ok (.bool false) w:=by
 have h:P.methodsAt t=ms:=by unfold Program.methodsAt;rw[ht]
 exact run_eql_held_nil w t tx v (by rw[h];exact ht)
def zdP {ms:Array (String×TypeId)}{tx:TypeId}{v:Value}(ht:P.underlying t=some (.interface ms))(hx:look e x=some (.iface tx v))(hy:look e y=some .nilIface):Y P e ⟨d,.binOp .eql t x y t',ty,pos,aft,g⟩ (.bool false) w w:=fun ρ hρ=>by
 have hg:∀a b,(eqGuard .eql t a b (.iface tx v) .nilIface).run P w= .ok () w:=λa b=>rfl
 simp only[execOp,hρ _ _ hx,hρ _ _ hy,Sem.run_bind,hg,Result.andThen_ok,zde ht,Sem.run_pure]
def zjh {tx:TypeId}{v:Value}(hx:look e x=some (.iface tx v)):Y P e ⟨d,.nilCheck x,ty,pos,aft,g⟩ (.iface tx v) w w:=fun ρ hρ=>by simp[execOp,hρ _ _ hx]
end
structure VD (l:List Nat)(f:Fm)(z:Nat):Prop where
 n1:1<=l.length
 n2:l.length<=64
 nof:Nof l
 last:l[l.length-1]? =some z
 zb:z<=999999998
 fe:f=TQ l.length (z+1)
def VD.small {l:List Nat}{f:Fm}{z:Nat}(h:VD l f z):f.small:=by
 rw[h.fe]
 exact z3j h.n1 (by have:=h.n2;omega) (by omega) (by have:=h.zb;omega)
theorem VD.len {l:List Nat}{f:Fm}{z:Nat}(h:VD l f z):(Yl l f).length=f.size:=by
 rw[h.fe]
 exact z5t h.n1 h.n2 h.nof h.last
theorem VD.n {l:List Nat}{f:Fm}{z:Nat}(h:VD l f z):f.n=l.length:=by rw[h.fe];rfl
theorem VD.u {l:List Nat}{f:Fm}{z:Nat}(h:VD l f z):f.u=z+1:=by rw[h.fe];rfl
def VD.size_le {l:List Nat}{f:Fm}{z:Nat}(h:VD l f z):f.size<=40000000/\12<=f.size:=by
 have h1:=h.small
 have h2:=Fm.Xi h1
 obtain⟨h3,h4,h5⟩:=h1
 unfold Fm.size Fm.UL
 have:12<=f.high:=by unfold Fm.high;omega
 omega
def piece {A B C:OI}{off n o:Nat}(h:off=A.length+o)(hn:o+n<=B.length):((A++B++C).drop off).take n=(B.drop o).take n:=by
 rw[h,List.append_assoc,List.drop_length_add_append,List.drop_append_of_le_length (by omega),List.take_append_of_le_length (by rw[List.length_drop];omega)]
def T6 (f:Fm):List Bool:=Pc 32 f.n++Pc 64 f.u
theorem z2q (f:Fm):P7 (Ph (T6 f))=T6 f:=by
 obtain⟨z,h1,h2,h3⟩:=Si (T6 f)
 have hl:(T6 f).length=96:=by simp[T6]
 have hz:z=0:=by omega
 rw[h1,hz,List.replicate_zero,List.append_nil]
theorem Uv (f:Fm):(Ph (T6 f)).length=12:=by
 rw[Py];simp[T6]
def zg3 (f:Fm)(hn:f.n<4294967296):Pz (P7 ((Ph (T6 f)).take 4))=f.n:=by
 rw[Ut,z2q]
 unfold T6
 rw[List.take_left' (by simp),Q0]
 exact Nat.mod_eq_of_lt hn
def zg1 (f:Fm)(hu:f.u<18446744073709551616):Pz (P7 ((Ph (T6 f)).drop 4))=f.u:=by
 rw[TH,z2q]
 unfold T6
 rw[List.drop_left' (by simp),Q0]
 exact Nat.mod_eq_of_lt hu
theorem zbe (l:List Nat)(f:Fm):((Yl l f).drop 0).take 12=Ph (T6 f):=by
 have h:=piece (A:=[]) (B:=Ph (T6 f)) (C:=Ph (Su f.width l)++(Ph (hiB f.width 0 0 l)++Ph (S8 f.width l))) (off:=0) (n:=12) (o:=0) O (by rw[Uv];omega)
 rw[List.nil_append] at h
 unfold Yl
 rw[List.append_assoc,List.append_assoc]
 refine h.trans ?_
 rw[List.drop_zero,List.take_of_length_le (by rw[Uv];omega)]
def elC (f:Fm)(t:TypeId)(u:Value):List Value:=[I (f.n:Int),OY f.u,I (f.width:Int),I (f.bits:Int),.iface t u]
def z5U {t:TypeId}{u:Value}{l:List Nat}{f:Fm}{z:Nat}(he:VD l f z)(R:Src t u (Yl l f)){X:Nat->Prop}{w:World}(hI:R.inv X w)(hX:∀k,X k->k<w.heap.size):
  Pm prog 130 [.iface t u] w λv w'=>∃x,v= .tuple #[ptr x 0,I 0]/\OP w' x (elC f t u) 277/\w.heap.size<=x/\R.inv (λk=>X k\/k=x) w'/\Kp (λk=>¬X k) w w':=by
 obtain⟨et,dw⟩:=he.size_le
 have aI:=he.len
 have qy:=he.n
 have BA:=he.u
 have jS:=he.n2
 have dh:=he.n1
 have x8:=he.zb
 refine py (e:=[(0,_)]) func130 O ntmps130 O O$ qN O$ Qm O$ QA$ Pn O$ qV (zdP z74 O O)$ OV O$ OL O$ Pn O$ Qp O O (yci R.cl R.ml O O) (R.len hI) ?_
 rintro _ w1 ⟨rfl,ad⟩
 rw[aI]
 have mM:=R.ext hI ad (λk hk=> .inl hk)
 have dr:∀k,X k->k<w1.heap.size:=λk hk=>by have:=hX k hk;have:=ad.size;omega
 refine Qw O$ PH$ OV O$ SH O$ Oz$ Pn O$ Qp O O (yci R.cr R.mr O O) (R.rd 0 12 mM dr (by rw[aI];omega)) ?_
 rintro _ w2 ⟨rfl,cV,am⟩
 rw[zbe]
 have dL:Kp (λk=>¬X k) w w2:=ad.kp.trans am
 have fT:∀k,X k->k<w2.heap.size:=λk hk=>by have:=dr k hk;have:=am.size;omega
 have pQ:=Uv f
 have ur:((Ph (T6 f)).take 4).length<=8:=by rw[List.length_take];omega
 have nP:((Ph (T6 f)).drop 4).length<=8:=by rw[List.length_drop];omega
 have uE:=zg3 f (by omega)
 have Iu:=zg1 f (by omega)
 generalize Ph (T6 f)=hb at pQ ur nP uE Iu
 have aa:=Ext.P4 w2
 refine ON O$ SU O$ Qm O$ PK O$ QE O$ Qg O$ An$ QV (λw'=>Ext w2 w') O$ OZ 0 O O (aa)$ OG 1 O (z5z U9 O O (by omega)) aa$ OZ 3 O O (aa)$ OG 4 O (z0T U9 O O (by omega)) aa$ RT 2 O z7V O (Xa (hb.take 4) ur _) ?_
 rintro _ w3 ⟨rfl,ah⟩
 refine⟨aa.trans ah,?_⟩
 refine RT 5 O z7V O (Xa (hb.drop 4) nP _) ?_
 rintro _ w4 ⟨rfl,aA⟩
 refine⟨(aa.trans ah).trans aA,?_⟩
 have dU:=(aa.trans ah).trans aA
 rw[uE,Iu]
 have jB:=R.ext cV dU (λk hk=> .inl hk)
 refine OG 6 O (Rp O) ((aa.trans ah).trans aA)$ OG 7 O (Rp O) ((aa.trans ah).trans aA)$ qE$ Po.qb (e:=[(0,_),(2,_),(3,_),(6,_),(7,_)]) ?_
 refine PK O$ QB O$ PH$ Pa O$ QB O$ PH$ PM O$ Pa O$ Rg O$ PH$ ON O$ Rg O$ PH$ qV (zeA O O U4) ?_
 refine PM O$ Qg O$ Pn O$ qV (PJ O Rt U3 (by omega))$ ON O ?_
 have Lg:TQ f.n f.u=f:=by rw[qy,BA];exact he.fe.symm
 have jU:=Y7 f.n f.u (by omega) (by omega) (by omega) (by omega) w4
 rw[Lg] at jU
 refine P5 zc2 O (jU) ?_
 rintro _ w5 ⟨rfl,aU⟩
 refine OJ O O (Ry (cs:=[_,_,_,_]) Tj O) ?_
 rintro _ w6 ⟨b8,rfl,ja,aR,cj⟩
 refine OT O (PG (news:=fmC f) Tj O O O O cj (by simp)) ?_
 rintro w7 ⟨rh,aB⟩
 replace rh:OP w7 b8 (fmC f) 220:=rh
 have i8:Ext w5 w7:=aR.It aB (λi e=>by omega)
 have yw:=aU.trans i8
 have mv:=R.ext jB yw (λk hk=> .inl hk)
 refine OC$ An$ qN O$ qV (Pp (news:=fmC f) z4g O Tj O (rh.cells (n:=4) O) O)$ P5 zep O (z2O f he.small _) ?_
 rintro _ w8 ⟨rfl,cT⟩
 have Ef:=R.ext mv cT (λk hk=> .inl hk)
 refine ON O$ Qp O O (yci R.cl R.ml O O) (R.len Ef) ?_
 rintro _ w9 ⟨rfl,fN⟩
 rw[aI]
 have i4:=R.ext Ef fN (λk hk=> .inl hk)
 have iR:=cT.trans fN
 have yx:=(dU.trans yw).trans iR
 refine QE O$ PH$ OC$ Po.qb (e:=[(0,_),(2,_),(3,_),(8,_),(51,_)]) ?_
 refine SH O$ qN O$ qV (Pp (news:=fmC f) z4g O Tj O ((iR.OA rh).cells (n:=4) O) O)$ ON O$ qV (Sa (cs:=[_,_,_,_,_]) zii O zgx O O)$ OJ O O (R4 O (cs:=elC f t u) O) ?_
 rintro _ w10 ⟨x,rfl,hx,bJ,fM⟩
 refine Qm O$ OB func130 O ?_
 exact⟨_,rfl,x,rfl,fM,by have:=dL.size;have:=yx.size;omega,R.ext i4 bJ (λk hk=>hk.imp id λe=>by omega),dL.trans (yx.trans bJ).kp⟩
def z8J {t:TypeId}{u:Value}{f:Fm}{x:Nat}{w:World}(hB:OP w x (elC f t u) 277):Pm prog 131 [ptr x 0] w λv w'=>v=I (f.n:Int)/\w'=w:=by
 replace hB:OP w x [I (f.n:Int),OY f.u,I (f.width:Int),I (f.bits:Int),.iface t u] 277:=hB
 refine py (e:=[(0,_)]) func131 O ntmps131 O O$ Qx O$ PK O$ qV (PY z2S O O)$ Qg O$ Pn O$ Pq O$ OW Sq O$ OW YD O$ qV (OM U3 O O hB O)$ OV O$ OB func131 O ?_
 exact⟨_,rfl,rfl,rfl⟩
theorem zbd (k:Nat)(a b:List Nat):Su k (a++b)=Su k a++Su k b:=by simp[Su]
def zdH {k i v:Nat}{l:List Nat}(h:l[i]? =some v)(rest:List Bool):((Su k l++rest).drop (i*k)).take k=Pc k (v%2^k):=by
 have hi:=(List.getElem?_eq_some_iff.1 h).1
 have e:l=l.take i++(v::l.drop (i+1)):=by
  conv=>lhs;rw[<-List.take_append_drop i l]
  congr 1
  rw[List.drop_eq_getElem_cons hi,(List.getElem?_eq_some_iff.1 h).2]
 have hl:(Su k (l.take i)).length=i*k:=by rw[UD,List.length_take,Nat.min_eq_left (by omega)]
 rw[e,zbd,List.append_assoc,List.drop_left' hl]
 show((Pc k (v%2^k)++Su k (l.drop (i+1)))++rest).take k=_
 rw[List.append_assoc,List.take_left' (by simp)]
def z2f {B:OI}{o n a m:Nat}(h:a+m<=8*n):((P7 ((B.drop o).take n)).drop a).take m=((P7 B).drop (8*o+a)).take m:=by
 rw[Ut,TH,List.drop_take,List.drop_drop,List.take_take,Nat.min_eq_left (by omega)]
def zd1 (l:List Nat)(f:Fm){o n:Nat}(h:o+n<=(Ph (Su f.width l)).length):((Yl l f).drop (12+o)).take n=((Ph (Su f.width l)).drop o).take n:=by
 unfold Yl
 rw[List.append_assoc (Ph (Pc 32 f.n++Pc 64 f.u)++Ph (Su f.width l))]
 exact piece (by rw[show Ph (Pc 32 f.n++Pc 64 f.u)=Ph (T6 f) from rfl,Uv]) h
def z9o {t:TypeId}{u:Value}{l:List Nat}{f:Fm}{z:Nat}(he:VD l f z)(R:Src t u (Yl l f)){X:Nat->Prop}{w:World}(hI:R.inv X w)(hX:∀k,X k->k<w.heap.size){x:Nat}(hx:X x)(hB:OP w x (elC f t u) 277){i v:Nat}(hv:l[i]? =some v):
  Pm prog 229 [ptr x 0,I (i:Int)] w λr w'=>r= .tuple #[OY (v%2^f.width),I 0]/\R.inv X w'/\Kp (λk=>¬X k) w w':=by
 have dl:=(List.getElem?_eq_some_iff.1 hv).1
 have aI:=he.len
 obtain⟨xD,yz⟩:=he.size_le
 have jS:=he.n2
 have wK:f.width<=30:=by rw[he.fe];exact Zg (by have:=he.zb;omega)
 replace hB:OP w x [I (f.n:Int),OY f.u,I (f.width:Int),I (f.bits:Int),.iface t u] 277:=hB
 refine py (e:=[(0,_),(1,_)]) func229 O ntmps229 O O$ qN O$ Qm O$ PK O$ Pq O$ OW Sq O$ OW Td O$ qV (OM U3 O O hB O)$ Rg O$ OC$ OQ O (λh0=>?_)$ λh0=>?_
 ·have nV:f.width=0:=by omega
  refine qN O$ Qm O$ OB func229 O (⟨_,rfl,?_,hI,Kp.refl _ _⟩);rw[nV,Nat.pow_zero,Nat.mod_one]
  rfl
 ·have I6:1<=f.width:=by omega
  have Lh:i*f.width<=64*30:=Nat.mul_le_mul (by omega) wK;have Iv:(i+1)*f.width=i*f.width+f.width:=by rw[Nat.add_mul,Nat.one_mul]
  have fh:(i+1)*f.width<=l.length*f.width:=Nat.mul_le_mul_right _ dl;have e1:((i*f.width:Nat):Int)=(i:Int)*(f.width:Int):=Int.natCast_mul _ _;have e2:(((i+1)*f.width:Nat):Int)=((i:Int)+1)*(f.width:Int):=Int.natCast_mul _ _;have hg:=Ext.P4 w;refine OD$ An$ QV (λw'=>Ext w w') O$ OZ 0 O O (hg)$ OZ 1 O O (hg)$ OG 2 O (Q8 O) hg$ OG 3 O (Pr Sq O) hg$ OG 4 O (Pr Td O) hg$ qT 5 O (λ_ h=>OM U3 O O (h.OA hB) O) hg$ OZ 7 O O (hg)$ OG 8 O (UO O O (by omega)) hg$ OZ 9 O O (hg)$ OG 10 O (Q8 O) hg$ OG 11 O (Pr Sq O) hg ?_;refine OG 12 O (Pr Td O) hg$ qT 13 O (λ_ h=>OM U3 O O (h.OA hB) O) hg$ OG 6 O (Yb O O (by rw[<-e1];omega)) hg ?_;rw[<-e1];refine OG 15 O (Rp O) hg$ OG 14 O (Yb O O (by rw[<-e2];omega)) hg ?_;rw[<-e2,Iv];refine OG 16 O (Rp O) hg$ qE$ Po.qb (e:=[(0,_),(4,_),(5,_),(6,_),(7,_)]) ?_;refine Pn O$ Pq O$ OW z3e O$ qV (OM z74 O O hB O)$ ON O$ qV (WY O O (by omega))$ PS O$ ON O$ PS O$ qV (WY O O (by omega))$ ON O$ qV (WY O O (by omega))$ Ro O ?_;have uF:=hg.OA hB;have Li:=R.ext hI hg (λk hk=> .inl hk);have Lj:∀k,X k->k<w.drew.heap.size:=λk hk=>by have:=hX k hk;have:=hg.size;omega
  have Eg:(Ph (Su f.width l)).length=(l.length*f.width+7) / 8:=by rw[Py,UD]
  have Eh:=zdH (k:=f.width) hv;have qo:∀rest,((Su f.width l++rest).drop (i*f.width)).take f.width=Pc f.width (v%2^f.width):=Eh;rw[Iv] at fh
  generalize i*f.width=fr at Lh fh qo e1
  rw[show(12:Int)+(fr:Int) / 8=((12+fr / 8:Nat):Int) by omega,show((fr+f.width:Nat):Int)+7=((fr+f.width+7:Nat):Int) by omega,show((fr+f.width+7:Nat):Int) / 8-(fr:Int) / 8=(((fr+f.width+7) / 8-fr / 8:Nat):Int) by omega];have uG:fr / 8+((fr+f.width+7) / 8-fr / 8)<=(Ph (Su f.width l)).length:=by rw[Eg];omega
  have md:=zd1 l f uG
  have uH:12+fr / 8+((fr+f.width+7) / 8-fr / 8)<=(Yl l f).length:=by
   have e:(Yl l f).length=12+(Ph (Su f.width l)).length+(Ph (hiB f.width 0 0 l)).length+(Ph (S8 f.width l)).length:=by
    unfold Yl;rw[List.length_append,List.length_append,List.length_append,show Ph (Pc 32 f.n++Pc 64 f.u)=Ph (T6 f) from rfl,Uv]
   omega
  refine Qp O O (yci R.cr R.mr O O) (R.rd (12+fr / 8) ((fr+f.width+7) / 8-fr / 8) Li Lj uH) ?_;rintro _ w1 ⟨rfl,mM,az⟩;rw[md];have dz:Kp (λk=>¬X k) w w1:=hg.kp.trans az;have ai:=dz.OA hB (λe=>e hx)
  have gQ:(((Ph (Su f.width l)).drop (fr / 8)).take ((fr+f.width+7) / 8-fr / 8)).length=(fr+f.width+7) / 8-fr / 8:=by
   rw[List.length_take,List.length_drop];omega
  obtain⟨zz,nJ,-,-⟩:=Si (Su f.width l);have bY:=z2f (B:=Ph (Su f.width l)) (o:=fr / 8) (n:=(fr+f.width+7) / 8-fr / 8) (a:=fr%8) (m:=f.width) (by omega);rw[show 8*(fr / 8)+fr%8=fr by omega,nJ,qo] at bY
  generalize ((Ph (Su f.width l)).drop (fr / 8)).take ((fr+f.width+7) / 8-fr / 8)=pt at gQ bY
  refine ON O$ SU O$ Qm O$ PK O$ QE O$ OC$ Po.qb (e:=[(0,_),(4,_),(5,_),(6,_),(8,_),(9,_),(52,_)]) ?_;refine SH O$ Pn O$ P5 z89 O (WX pt (by omega) w1) ?_;rintro _ w2 ⟨r,rfl,di,ae,dt⟩;refine QS O$ Pa O$ qV (XC O O (by omega) (by omega)) ?_;rw[show fr&&&7=fr%8 from Nat.and_two_pow_sub_one_eq_mod fr 3];refine P5 zar O (ZF di (fr%8) (by omega)) ?_;rintro _ w3 ⟨rfl,lV,av⟩;have aZ:Ext w1 w3:=ae.It av (λi e=>by omega);have ar:=aZ.OA ai;refine qM O$ Pa O$ Pq O$ OW Sq O$ OW Td O$ qV (OM U3 O O ar O)$ P5 z4i O (Vx lV f.width (by omega)) ?_;rintro v4 w4 wo
  have jm:v4= .tuple #[OY (v%2^f.width),I 0]/\Kp (λk=>k=r) w3 w4:=by
   rcases wo with⟨-,e,-,hk⟩|⟨e,-,-⟩
   ·rw[bY,Q0,Nat.mod_mod] at e;exact⟨e,hk⟩
   ·omega
  obtain⟨rfl,au⟩:=jm;have eT:Ext w1 w4:=aZ.It au (λi e=>by omega);refine ON O$ SU O$ Qm O$ Po.qb (e:=[(4,_),(5,_),(11,_)]) ?_;refine Pn O$ Qm O$ OB func229 O ?_;exact⟨_,rfl,rfl,R.ext mM eT (λk hk=> .inl hk),dz.trans eT.kp⟩
theorem z1E (n:Nat):Pz (List.replicate n false)=0:=by
 rw[<-VJ,Q0];simp
theorem z43 (b:List Bool)(k:Nat):Pz (b++List.replicate k false)=Pz b*2^k:=by
 rw[RS,z1E,List.length_replicate,Nat.add_zero]
theorem z2i (b:List Bool)(k:Nat):Pz (List.replicate k false++b)=Pz b:=by
 rw[RS,z1E];simp
theorem z0P {D:List Bool}{a b m:Nat}(ha:m<=D.length+a)(hb:m<=D.length+b):(D++List.replicate a false).take m=(D++List.replicate b false).take m:=by
 rw[List.take_append,List.take_append,List.take_replicate,List.take_replicate,Nat.min_eq_left (by omega),Nat.min_eq_left (by omega)]
def wdB (H:List Bool)(a:Nat):List Bool:=List.replicate (a%8) false++(H.drop a++List.replicate 64 false).take (64-a%8)
def z8D (H:List Bool)(a:Nat):(wdB H a).length=64:=by
 unfold wdB
 rw[List.length_append,List.length_replicate,List.length_take,List.length_append,List.length_replicate]
 omega
def z8Q {H:List Bool}{fq n:Nat}(hf:8*fq<H.length)(hn:n=min 8 ((H.length+7) / 8-fq)):
  P7 (((Ph H).drop fq).take n)++List.replicate (64-8*n) false=(H.drop (8*fq)++List.replicate 64 false).take 64:=by
 obtain⟨z,h1,h2,h3⟩:=Si H
 rw[Ut,TH,h1,List.drop_append_of_le_length (by omega)]
 have hD:(H.drop (8*fq)).length=H.length-8*fq:=List.length_drop
 generalize H.drop (8*fq)=D at hD
 rcases Nat.lt_or_ge n 8 with h| h
 ·have e:8*n=D.length+z:=by omega
  rw[List.take_of_length_le (by rw[List.length_append,List.length_replicate];omega),List.append_assoc,List.replicate_append_replicate];rw[z0P (a:=64) (b:=z+(64-8*n)) (by omega) (by omega),List.take_of_length_le (by rw[List.length_append,List.length_replicate];omega)]
 ·have e:n=8:=by omega
  subst e;rw[show 64-8*8=0 from rfl,List.replicate_zero,List.append_nil];exact z0P (by omega) (by omega)
def z9W {W:List Bool}(hW:W.length=64){d:Nat}(hd:d<=64):Pz W%2^(64-d)=Pz (List.replicate d false++W.drop d):=by
 have h1:=RS (W.take d) (W.drop d)
 rw[List.take_append_drop,List.length_drop,hW] at h1
 have h2:=R1 (W.drop d)
 rw[List.length_drop,hW] at h2
 rw[z2i,h1,Nat.add_comm,Nat.add_mul_mod_self_right,Nat.mod_eq_of_lt h2]
def z9R {H:List Bool}{a:Nat}(ha:a<H.length):List.replicate (a%8) false++((H.drop (8*(a / 8))++List.replicate 64 false).take 64).drop (a%8)=wdB H a:=by
 unfold wdB
 congr 1
 have hd:a%8<=(H.drop (8*(a / 8))).length:=by rw[List.length_drop];omega
 rw[List.drop_take,List.drop_append_of_le_length hd,List.drop_drop,show 8*(a / 8)+a%8=a by omega]
def zbP {H:List Bool}{a r:Nat}(ha:a<H.length)(hr:a / 8*8+64=H.length+r):∃q,Pz (wdB H a)=q*2^r:=by
 have hD:(H.drop a).length=H.length-a:=List.length_drop
 refine⟨Pz (List.replicate (a%8) false++H.drop a),?_⟩
 rw[<-z43]
 congr 1
 unfold wdB
 rw[List.append_assoc,z0P (a:=64) (b:=r) (by omega) (by omega),List.take_of_length_le (by rw[List.length_append,List.length_replicate];omega)]
theorem z9U {d:Nat}(hd:d<=64):18446744073709551615 / 2^d=2^(64-d)-1:=by
 have hp:0<2^d:=Nat.two_pow_pos d
 have h1:2^64=2^d*2^(64-d):=by rw[<-Nat.pow_add,show d+(64-d)=64 by omega]
 have h2:0<2^(64-d):=Nat.two_pow_pos _
 have h3:18446744073709551615=(2^d-1)+2^d*(2^(64-d)-1):=by
  rw[Nat.mul_sub,<-h1,Nat.mul_one];have h4:2^d<=2^64:=Nat.pow_le_pow_right (by decide) hd;omega
 rw[h3,Nat.add_mul_div_left _ _ hp,Nat.div_eq_of_lt (by omega),Nat.zero_add]
def z86 {b:List Bool}(h:b.length=64):Pz b<18446744073709551616:=by
 have:=R1 b
 rw[h] at this
 exact this
def zf3 (l:List Nat)(f:Fm)(hf:f.high=12+(Ph (Su f.width l)).length){o n:Nat}(h:o+n<=(Ph (hiB f.width 0 0 l)).length):((Yl l f).drop (f.high+o)).take n=((Ph (hiB f.width 0 0 l)).drop o).take n:=by
 unfold Yl
 exact piece (by rw[List.length_append,show Ph (Pc 32 f.n++Pc 64 f.u)=Ph (T6 f) from rfl,Uv,hf]) h
theorem VD.high {l:List Nat}{f:Fm}{z:Nat}(he:VD l f z):f.high=12+(Ph (Su f.width l)).length:=by
 unfold Fm.high
 rw[Py,UD,he.n]
theorem VD.bits {l:List Nat}{f:Fm}{z:Nat}(he:VD l f z):f.bits=(hiB f.width 0 0 l).length:=by
 rw[z1y f.width he.nof he.last]
 rw[he.fe]
 show(z+1-1) / _+_=_
 rw[Nat.add_sub_cancel]
 rfl
def z6T {t:TypeId}{u:Value}{l:List Nat}{f:Fm}{z:Nat}(he:VD l f z)(R:Src t u (Yl l f)){X:Nat->Prop}{w:World}(hI:R.inv X w)(hX:∀k,X k->k<w.heap.size){x b3 b8 v0:Nat}(hx:X x)(h3:X b3)(h8:X b8)(tw:b8≠x/\b8≠b3)(hB:OP w x (elC f t u) 277)(ar:OP w b3 [ptr x 0] 137)(cj:OP w b8 [OY v0] 39){a:Nat}(ha:a<f.bits):
  Pm prog 236 [I (a:Int),ptr b3 0,ptr b8 0] w λr w'=>r=I 0/\R.inv X w'/\Kp (λk=>¬X k\/k=b8) w w'/\OP w' b8 [OY (Pz (wdB (hiB f.width 0 0 l) a))] 39:=by
 have aI:=he.len
 obtain⟨xD,yz⟩:=he.size_le
 have uI:=he.small
 have pQ:=Fm.Xi uI
 have eL:=uI.2.2
 have bY:=he.bits
 have yA:=he.high
 have gQ:(Ph (hiB f.width 0 0 l)).length=(f.bits+7) / 8:=by rw[Py,bY]
 replace hB:OP w x [I (f.n:Int),OY f.u,I (f.width:Int),I (f.bits:Int),.iface t u] 277:=hB
 refine py (e:=[(0,_),(1,_),(2,_)]) func236 O ntmps236 O O$ qN O$ QW O$ qV (zfE O O (by omega))$ QS O$ qV ((OM z2S O O ar O))$ Pq O$ OW Sq O$ OW YF O$ qV ((OM U3 O O hB O))$ PS O$ qV (WY O O (by omega))$ ON O$ qV (WY O O (by omega)) ?_
 refine Ro O ?_
 rw[show((f.bits:Int)+7) / 8-((a / 8*8:Nat):Int) / 8=(((f.bits+7) / 8-a / 8:Nat):Int) by omega]
 refine qV (ymi O O) ?_
 rw[show min (8:Int) (((f.bits+7) / 8-a / 8:Nat):Int)=((min 8 ((f.bits+7) / 8-a / 8):Nat):Int) by omega]
 obtain⟨n,hn⟩:∃n,n=min 8 ((f.bits+7) / 8-a / 8):=⟨_,rfl⟩
 rw[<-hn]
 have hg:=Ext.P4 w
 refine OV O$ An$ QV (λw'=>Kp (λk=>¬X k) w w') O$ qT 0 O (λ_ hS=>(OM z2S O O (hS.OA ar (λe=>e h3)) O)) (hg.kp)$ OG 1 O (Q8 O) (hg.kp)$ OG 2 O (Pr z3e O) (hg.kp)$ qT 3 O (λ_ hS=>(OM z74 O O (hS.OA hB (λe=>e hx)) O)) (hg.kp)$ qT 4 O (λ_ hS=>(OM z2S O O (hS.OA ar (λe=>e h3)) O)) (hg.kp)$ OG 5 O (Q8 O) (hg.kp)$ OG 6 O (Pr Sq O) (hg.kp)$ OZ 9 O O (hg.kp)$ OG 10 O (WY O O (by omega)) (hg.kp)$ OZ 12 O O (hg.kp)$ qT 7 O (λ_ hS=>Pp (news:=fmC f) z4g O Tj O ((hS.OA hB (λe=>e hx)).cells (n:=4) O) O) (hg.kp) ?_
 refine OG 13 O (zjh O) (hg.kp)$ OZ 14 O O (hg.kp)$ RT 8 O zeP O (z3V f uI _) ?_
 rintro _ w1 ⟨rfl,ad⟩
 refine⟨(hg.trans ad).kp,?_⟩
 have ce:=hg.trans ad
 refine OG 11 O (UO O O (by omega)) ((hg.trans ad).kp) ?_
 rw[show(f.high:Int)+((a / 8*8:Nat):Int) / 8=((f.high+a / 8:Nat):Int) by omega]
 have mM:=R.ext hI ce (λk hk=> .inl hk)
 have dr:∀k,X k->k<w1.heap.size:=λk hk=>by have:=hX k hk;have:=ce.size;omega
 have uG:a / 8+n<=(Ph (hiB f.width 0 0 l)).length:=by rw[gQ];omega
 have uH:f.high+a / 8+n<=(Yl l f).length:=by
  rw[aI];have e:f.size=f.UL+4*((f.n+63) / 64):=rfl;have e2:f.UL=f.high+(f.bits+7) / 8:=rfl;omega
 have md:=zf3 l f yA uG
 have oz:=z8Q (H:=hiB f.width 0 0 l) (fq:=a / 8) (n:=n) (by omega) (by rw[<-bY];exact hn)
 refine qO 15$ W3 (i:=15) O O O (yci R.cr R.mr O O) (R.rd (f.high+a / 8) n mM dr uH) ?_
 rintro _ w2 ⟨rfl,cV,am⟩
 refine⟨ce.kp.trans am,?_⟩
 rw[md]
 have dL:Kp (λk=>¬X k) w w2:=ce.kp.trans am
 have ak:=dL.OA hB (λe=>e hx)
 have dv:=dL.OA ar (λe=>e h3)
 have up:=dL.OA cj (λe=>e h8)
 have Ei:(((Ph (hiB f.width 0 0 l)).drop (a / 8)).take n).length=n:=by rw[List.length_take,List.length_drop];omega
 generalize ((Ph (hiB f.width 0 0 l)).drop (a / 8)).take n=pt at oz Ei
 refine OZ 16 O O (ce.kp.trans am)$ OG 17 O (Ru O O) (ce.kp.trans am)$ OG 18 O (Ru O O) (ce.kp.trans am)$ OG 19 O (Rp O) (ce.kp.trans am)$ OG 20 O (Rp O) (ce.kp.trans am)$ qE$ Po.qb (e:=[(0,_),(1,_),(2,_),(4,_),(5,_),(6,_),(7,_),(8,_)]) ?_
 refine Pn O$ P5 z7V O (Xa pt (by omega) w2) ?_
 rintro _ w3 ⟨rfl,ah⟩
 refine ON O$ qV (Yb O O (by omega))$ Ro O ?_
 rw[show(64:Int)-8*(n:Int)=((64-8*n:Nat):Int) by omega]
 refine qV (Rf (64-8*n) (2^(64-8*n)) O O (by omega) O) ?_
 have Ej:=z43 (P7 pt) (64-8*n)
 rw[oz] at Ej
 have Lk:((hiB f.width 0 0 l).drop (8*(a / 8))++List.replicate 64 false).take 64=((hiB f.width 0 0 l).drop (8*(a / 8))++List.replicate 64 false).take 64:=rfl
 obtain⟨W0,yB⟩:∃W0,W0=((hiB f.width 0 0 l).drop (8*(a / 8))++List.replicate 64 false).take 64:=⟨_,rfl⟩
 have yC:W0.length=64:=by rw[yB,List.length_take,List.length_append,List.length_replicate];omega
 have Iw:=z9R (H:=hiB f.width 0 0 l) (a:=a) (by omega)
 rw[<-yB] at Ej Iw
 have fh:=z9W yC (d:=a%8) (by omega)
 rw[Iw] at fh
 have uJ:=z86 yC
 rw[<-Ej,Nat.mod_eq_of_lt uJ]
 refine OT O (QG Tv O O O (ah.OA up) (by simp)) ?_
 rintro w4 ⟨eS,au⟩
 replace eS:OP w4 b8 [OY (Pz W0)] 39:=eS
 have aK:=au.OA (ah.OA ak) (λe=>tw.1 e.symm)
 have eC:=au.OA (ah.OA dv) (λe=>tw.2 e.symm)
 have jB:=R.own (R.ext cV ah (λk hk=> .inl hk)) au (λk e=>by rw[e];exact h8)
 have af:=Ext.P4 w4
 refine OC$ An$ P9 [6] (λw'=>Ext w4 w') (by kernel_rfl) O$ qL 0 O (λ_ h=>OM Rt O O (h.OA eS) O) af$ PQ 1 O O (af)$ PQ 2 O O (af)$ Pl 3 O (Xw O O (by omega)) af ?_
 rw[show(a:Int)-((a / 8*8:Nat):Int)=((a%8:Nat):Int) by omega]
 refine Pl 4 O (Uw (m:=18446744073709551615) (a%8) (2^(a%8)) O O (by show a%8<=64;omega) O) af ?_
 rw[z9U (d:=a%8) (by omega)]
 have Ll:2^(64-a%8)<=2^64:=Nat.pow_le_pow_right (by decide) (by omega)
 refine Pl 5 O (Ux O O (by omega) (by omega)) af ?_
 rw[Nat.and_two_pow_sub_one_eq_mod,fh]
 refine Tt [6]$ qO 6$ PE (i:=6) O O (QG Tv O O O (af.OA eS) (by simp)) ?_
 rintro w5 ⟨bI,aj⟩
 refine⟨trivial,?_⟩
 replace bI:OP w5 b8 [OY (Pz (wdB (hiB f.width 0 0 l) a))] 39:=bI
 have aH:=aj.OA (af.OA aK) (λe=>tw.1 e.symm)
 have cW:=aj.OA (af.OA eC) (λe=>tw.2 e.symm)
 have kH:=R.own (R.ext jB af (λk hk=> .inl hk)) aj (λk e=>by rw[e];exact h8)
 have dm:Kp (λk=>¬X k\/k=b8) w w5:=(((dL.OH λk e=> .inl e).trans ah.kp).trans (au.OH λk e=> .inr e)).trans (af.kp.trans (aj.OH λk e=> .inr e))
 have Ek:=z86 (z8D (hiB f.width 0 0 l) a)
 refine qE$ PK O$ PS O$ qV ((OM z2S O O cW O))$ Pq O$ OW Sq O$ OW YF O$ qV ((OM U3 O O aH O))$ Ro O$ OV O$ Po.qb (e:=[(2,_),(4,_),(8,_),(9,_)]) ?_
 refine Pn O$ QB O$ OC$ OQ O (λh0=>?_)$ λh0=>?_
 ·obtain⟨r,hr⟩:∃r,a / 8*8+64=f.bits+r:=⟨a / 8*8+64-f.bits,by omega⟩;obtain⟨q,hq⟩:=zbP (H:=hiB f.width 0 0 l) (a:=a) (r:=r) (by omega) (by omega);rw[show((a / 8*8:Nat):Int)+64-(f.bits:Int)=(r:Int) by omega];have hp:=Nat.two_pow_pos r
  have yD:Pz (wdB (hiB f.width 0 0 l) a) / 2^r*2^r%18446744073709551616=Pz (wdB (hiB f.width 0 0 l) a):=by
   rw[Nat.mod_eq_of_lt (Nat.lt_of_le_of_lt (Nat.div_mul_le_self _ _) Ek),hq,Nat.mul_div_cancel _ hp]
  refine OK O$ qV (OM Rt O O bI O)$ ON O$ qV (Uw r (2^r) O O (by show r<=64;omega) O) ?_;refine ON O$ qV (Rf r (2^r) O O (by omega) O) ?_;rw[yD];refine OT O (QG Tv O O O bI (by simp)) ?_;rintro w6 ⟨kT,aM⟩;refine qM O$ ON O$ OV O$ OB func236 O ?_;exact⟨_,rfl,rfl,R.own kH aM (λk e=>by rw[e];exact h8),dm.trans (aM.OH λk e=> .inr e),kT⟩
 ·refine OD$ Pn O$ OV O$ OB func236 O ?_;exact⟨_,rfl,rfl,kH,dm,bI⟩
def z3T:∀{W:List Bool} {k p:Nat},Rv W k=some p->∃z r,W=List.replicate z false++true::r
 |true::W,k,p,h=>⟨0,W,rfl⟩
 | false :: W, k, p, h => by
   simp only[Rv,Option.map_eq_some_iff] at h;obtain⟨q,hq,-⟩:=h;obtain⟨z,r,e⟩:=z3T hq
   exact⟨z+1,r,by rw[e,List.replicate_succ];rfl⟩
 |[],k,p,h=>by simp[Rv] at h
theorem z5M (z:Nat)(r:List Bool)(k:Nat):Rv (List.replicate z false++true::r) (k+1)=Rv (List.replicate (z+1) false++r) k:=by
 rw[Up,Up,Rv,Option.map_map]
 congr 1
 funext j;show j+1+z=j+(z+1);omega
theorem z9f (z:Nat)(r:List Bool):Rv (List.replicate z false++true::r) 0=some z:=by
 rw[Up,Rv];simp
def z6x (z:Nat)(r:List Bool):PN (Pz (List.replicate z false++true::r))=r.length+1:=by
 rw[XP]
 have:=R1 r
 exact z7C (by omega) (by rw[Nat.pow_succ];omega)
theorem z2t (n:Nat):(List.replicate n false).count true=0:=by
 rw[List.count_replicate];rfl
theorem z2J (H:List Bool)(a:Nat):(wdB H a).count true=((H.drop a).take (64-a%8)).count true:=by
 unfold wdB
 rw[List.count_append,z2t,Nat.zero_add,List.take_append,List.count_append,List.take_replicate,z2t];omega
def zdv {W:List Bool}(h:W.length=64):(Pc 64 (Pz W)).count true=W.count true:=by
 have:=z1l W
 rw[h] at this
 rw[this]
def zdt {H:List Bool}{a k q:Nat}(h:Rv (H.drop a) k=some q)(hk:k<(wdB H a).count true):Rv (wdB H a) k=some (a%8+q):=by
 rw[z2J] at hk
 have h1:=Wy ((H.drop a).take (64-a%8)) ((H.drop a).drop (64-a%8)) k
 rw[List.take_append_drop,if_pos hk,h] at h1
 unfold wdB
 rw[Up,List.take_append,Wy,if_pos hk,<-h1]
 show some (q+a%8)=_
 rw[Nat.add_comm]
def z9z {H:List Bool}{a k q:Nat}(h:Rv (H.drop a) k=some q)(hk:(wdB H a).count true<=k):64-a%8<=q/\Rv (H.drop (a / 8*8+64)) (k-(wdB H a).count true)=some (q-(64-a%8)):=by
 rw[z2J] at hk⊢
 have h1:=Wy ((H.drop a).take (64-a%8)) ((H.drop a).drop (64-a%8)) k
 rw[List.take_append_drop,if_neg (by omega),h] at h1
 obtain⟨p,hp,Lm⟩:=Option.map_eq_some_iff.1 h1.symm
 have h2:=(z0x hp).1
 rw[List.length_drop] at h2
 rw[List.length_take,Nat.min_eq_left (by omega)] at Lm
 rw[List.drop_drop,show a+(64-a%8)=a / 8*8+64 by omega] at hp
 exact⟨by omega,by rw[hp];congr 1;omega⟩
def za5 {t:TypeId}{u:Value}{l:List Nat}{f:Fm}{z:Nat}(he:VD l f z)(R:Src t u (Yl l f)){X:Nat->Prop}{w:World}(hI:R.inv X w)(hX:∀k,X k->k<w.heap.size){x:Nat}(hx:X x)(hB:OP w x (elC f t u) 277){p k q:Nat}(az:k<=1000000)(hq:Rv ((hiB f.width 0 0 l).drop p) k=some q):
  Pm prog 228 [ptr x 0,I (p:Int),I (k:Int)] w λr w'=>r= .tuple #[I ((p+q:Nat):Int),I 0]/\R.inv X w'/\Kp (λj=>¬X j) w w':=by
 have bY:=he.bits
 have eL:=he.small.2.2
 have cE:=hX x hx
 refine py (e:=[(0,_),(1,_),(2,_)]) func228 O ntmps228 O O$ qN O$ OJ O O (R4 O (cs:=[ptr x 0]) O) ?_
 rintro _ w1 ⟨b3,rfl,dG,ad,ar⟩
 refine SA O$ QS O$ OJ O O (Ry (cs:=[_]) Tv O) ?_
 rintro _ w2 ⟨b8,rfl,ja,ae,cj⟩
 have z1:=ad.size
 have z2:=ae.size
 have l3:=ar.lt
 have l8:=cj.lt
 have aJ:=ad.trans ae
 have cV:R.inv (λj=>X j\/j=b3\/j=b8) w2:=R.ext hI aJ (λj hj=>by rcases hj with e|e|e;exact .inl e;exact .inr (by omega);exact .inr (by omega))
 replace cj:OP w2 b8 [OY 0] 39:=cj
 refine qM O$ qV (ymf (first:=[]) (caps:=[.tmp 3,.tmp 8]) O O)$ OV O$ PK O$ OV O$ OE$ Rr (α:=Nat×Nat×Nat×Nat) ((p,k,q,0)) (λy=>[(2,I (y.2.1:Int)),(3,ptr b3 0),(8,ptr b8 0),(9,.func (.func 236) #[] #[ptr b3 0,ptr b8 0]),(10,I (y.1:Int))]) (λy w'=>R.inv (λj=>X j\/j=b3\/j=b8) w'/\Kp (λj=>¬X j) w w'/\w2.heap.size<=w'.heap.size/\OP w' x (elC f t u) 277/\OP w' b3 [ptr x 0] 137/\OP w' b8 [OY y.2.2.2] 39/\Rv ((hiB f.width 0 0 l).drop y.1) y.2.1=some y.2.2.1/\y.1+y.2.2.1=p+q/\y.2.1<=1000000) (λy=>f.bits-y.1) ?hI ?hround
 case hI=>exact⟨cV,aJ.kp,Nat.le_refl _,aJ.OA hB,ae.OA ar,cj,hq,rfl,az⟩
 case hround =>
  rintro⟨a,k4,q4,v4⟩ w4 ⟨jB,au,Ix,aK,eC,eS,cG,DC,yE⟩ ih;dsimp only at jB au Ix aK eC eS cG DC yE;have yF:=(z0x cG).1;rw[List.length_drop] at yF;have pT:a<f.bits:=by omega
  have El:∀j,(X j\/j=b3\/j=b8)->j<w4.heap.size:=λj hj=>by
   rcases hj with e|e| e
   ·have:=hX j e;omega
   ·omega
   ·omega
  have fD:OP w4 x [I (f.n:Int),OY f.u,I (f.width:Int),I (f.bits:Int),.iface t u] 277:=aK
  try dsimp only
  refine PK O$ qV ((OM z2S O O eC O))$ Pq O$ OW Sq O$ OW YF O$ qV ((OM U3 O O fD O))$ Qw O$ OC$ OQ O (λh0=>?_)$ λh0=>?_
  ·refine OD$ QA$ An$ Qt O$ Qp O O (RN zh8 O O) (z6T he R jB El (.inl hx) (.inr (.inl O)) (.inr (.inr O)) ⟨by omega,by omega⟩ aK eC eS pT) ?_;rintro _ w5 ⟨rfl,kH,aj,bI⟩;have z5:=aj.size;have dm:Kp (λj=>¬X j) w w5:=au.It aj (λj hj=>by rcases hj with e|e;exact .inr (λh=>e (.inl h));exact .inl (by omega));have aH:=aj.OA aK (λe=>by rcases e with e|e;exact e (.inl hx);omega);have cW:=aj.OA eC (λe=>by rcases e with e|e;exact e (.inr (.inl O));omega);have yG:=z8D (hiB f.width 0 0 l) a;have yH:=z86 yG;have BD:=zdv yG;have nA:=λh=>zdt (H:=hiB f.width 0 0 l) cG h;have Iy:=λh=>z9z (H:=hiB f.width 0 0 l) cG h
   generalize wdB (hiB f.width 0 0 l) a=W at yG yH BD nA Iy bI
   have fL:W.count true<=64:=by rw[<-yG];exact List.count_le_length
   refine QW O$ QE O$ Qg O$ An$ qN O$ qV (OM Rt O O bI O)$ P5 zgE O (zaP (Pz W) yH w5) ?_;rintro _ w5 ⟨rfl,rfl⟩;rw[BD];refine QS O$ Pa O$ zle O$ OC$ OQ O (λh1=>?_)$ λh1=>?_
   ·obtain⟨et,dw⟩:=Iy (by omega);refine Qt O$ Ro O$ OV O$ OO O$ R6 O ?_;rw[show(k4:Int)-((W.count true:Nat):Int)=((k4-W.count true:Nat):Int) by omega];refine qV (zfE O O (by omega))$ PS O$ OV O ?_;rw[show((a / 8*8:Nat):Int)+64=((a / 8*8+64:Nat):Int) by omega];exact(ih (a / 8*8+64,k4-W.count true,q4-(64-a%8),Pz W) _ ⟨kH,dm,by omega,aH,cW,bI,dw,by dsimp only;omega,by dsimp only;omega⟩ (by dsimp only;omega)).qb
   ·have sy:=nA (by omega);refine OD$ QA$ Rr (α:=List Bool×Nat) ((W,k4)) (λy=>[(2,I (y.2:Int)),(8,ptr b8 0),(10,I (a:Int))]) (λy w'=>R.inv (λj=>X j\/j=b3\/j=b8) w'/\Kp (λj=>¬X j) w w'/\OP w' b8 [OY (Pz y.1)] 39/\y.1.length=64/\Rv y.1 y.2=some (a%8+q4)/\y.2<=1000000) (λy=>y.2) ?hI ?hround
    case hI=>exact⟨kH,dm,bI,yG,sy,yE⟩
    case hround=>
     rintro⟨W6,k6⟩ w6 ⟨qq,aM,kT,mh,pU,Em⟩ ih2;dsimp only at qq aM kT mh pU Em;obtain⟨zz,r,rfl⟩:=z3T pU;have BE:=z6x zz r;have Ln:=XP zz r;have sF:=R1 r;have yI:=z86 mh;rw[List.length_append,List.length_replicate,List.length_cons] at mh
     try dsimp only
     refine PK O$ QB O$ OC$ OQ O (λh2=>?_)$ λh2=>?_
     ·obtain⟨k7,rfl⟩:∃k7,k6=k7+1:=⟨k6-1,by omega⟩;rw[z5M] at pU;have dQ:=Ext.P4 w6;refine OD$ QA$ P9 [6] (λw'=>Ext w6 w') (by kernel_rfl) O$ qL 0 O (λ_ h=>OM Rt O O (h.OA kT) O) dQ$ qL 1 O (λ_ h=>OM Rt O O (h.OA kT) O) dQ$ R9 (i:=2) (by kernel_rfl)$ RV (i:=2) O O O (yc zeF O) (zaO _ yI _) ?_;rintro _ w7 ⟨rfl,rfl⟩;refine⟨dQ,?_⟩;rw[BE];refine Pl 3 O (Xw O O (by omega)) dQ ?_;rw[show(63:Int)-((64-(r.length+1):Nat):Int)=(r.length:Int) by omega];refine Pl 4 O (Rf r.length (2^r.length) O O (by omega) O) dQ ?_;have gQ:2^r.length<=2^63:=Nat.pow_le_pow_right (by decide) (by omega);rw[show 1*2^r.length%18446744073709551616=2^r.length by rw[Nat.one_mul];exact Nat.mod_eq_of_lt (by omega)];rw[Ln];refine Pl 5 O (zkW (by omega) sF O O O) dQ$ Tt [6]$ qO 6$ PE (i:=6) O O (QG Tv O O O (dQ.OA kT) (by simp)) ?_;rintro w8 ⟨uK,aL⟩;refine⟨trivial,?_⟩;replace uK:OP w8 b8 [OY (Pz r)] 39:=uK;refine qE$ Oz$ R6 O$ Ro O$ OV O ?_;rw[show((k7+1:Nat):Int)-1=(k7:Int) by omega];refine(ih2 (List.replicate (zz+1) false++r,k7) _ ⟨R.own (R.ext qq dQ (λj hj=> .inl hj)) aL (λj e=> .inr (.inr e)),(aM.trans dQ.kp).It aL (λj e=> .inl (by omega)),?_,?_,pU,by dsimp only;omega⟩ (by dsimp only;omega)).qb
      ·dsimp only;rw[z2i];exact uK
      ·dsimp only;rw[List.length_append,List.length_replicate];omega
     ·have En:k6=0:=by omega
      subst En;rw[z9f] at pU;have NV:zz=a%8+q4:=Rx pU;refine OO O$ Pn O$ qV (zfE O O (by omega))$ qV (OM Rt O O kT O)$ P5 zeF O (zaO _ yI _) ?_;rintro _ w7 ⟨rfl,rfl⟩;rw[BE];refine PS O ?_;rw[show((a / 8*8:Nat):Int)+((64-(r.length+1):Nat):Int)=((p+q:Nat):Int) by omega];refine Qm O$ OB func228 O ?_;exact⟨_,rfl,rfl,R.ext qq (Ext.refl _) (λj hj=> .inl (.inl hj)),aM⟩
  ·omega
def zas (l:List Nat)(f:Fm)(hf:f.UL=12+(Ph (Su f.width l)).length+(Ph (hiB f.width 0 0 l)).length)(h4:(Ph (S8 f.width l)).length=4):((Yl l f).drop f.UL).take 4=Ph (S8 f.width l):=by
 have h:=piece (A:=Ph (Pc 32 f.n++Pc 64 f.u)++Ph (Su f.width l)++Ph (hiB f.width 0 0 l)) (B:=Ph (S8 f.width l)) (C:=[]) (off:=f.UL) (n:=4) (o:=0) (by rw[List.length_append,List.length_append,show Ph (Pc 32 f.n++Pc 64 f.u)=Ph (T6 f) from rfl,Uv,hf];omega) (by omega)
 have h2:((Ph (S8 f.width l)).drop 0).take 4=Ph (S8 f.width l):=by rw[List.drop_zero];exact List.take_of_length_le (by omega)
 rw[List.append_nil] at h
 exact h.trans h2
def zch {k:Nat}{l:List Nat}{y:Nat}(h:l[0]? =some y)(hy:y<4294967296):Pz (P7 (Ph (S8 k l)))=y / 2^k/\(Ph (S8 k l)).length=4:=by
 obtain⟨r,rfl⟩:∃r,l=y::r:=by
  cases l with
  |nil=>simp at h
  |cons a r=>simp at h;subst h;exact⟨r,rfl⟩
 have hr:S8 k (y::r)=Pc 32 (y / 2^k):=rfl
 obtain⟨z,h1,h2,h3⟩:=Si (Pc 32 (y / 2^k))
 rw[bitsN_length] at h2
 have hz:z=0:=by omega
 rw[hr,h1,hz,List.replicate_zero,List.append_nil,Q0,Py,bitsN_length]
 have:=Nat.div_le_self y (2^k)
 exact⟨Nat.mod_eq_of_lt (by omega),rfl⟩
def z2v {t:TypeId}{u:Value}{l:List Nat}{f:Fm}{z:Nat}(he:VD l f z)(R:Src t u (Yl l f)){X:Nat->Prop}{w:World}(hI:R.inv X w)(hX:∀k,X k->k<w.heap.size){x:Nat}(hx:X x)(hB:OP w x (elC f t u) 277){i v:Nat}(hv:l[i]? =some v):
  Pm prog 222 [ptr x 0,I (i:Int)] w λr w'=>r= .tuple #[OY v,I 0]/\R.inv X w'/\Kp (λj=>¬X j) w w':=by
 have dl:=(List.getElem?_eq_some_iff.1 hv).1
 have aI:=he.len
 have jS:=he.n2
 have qy:=he.n
 have x8:=he.zb
 have wK:f.width<=30:=by rw[he.fe];exact Zg (by omega)
 have uI:=he.small
 have sG:∀j y k y2,l[j]? =some y->l[k]? =some y2->j<=k->y<=y2:=λj y k y2 hj hk yJ=>by
  obtain⟨a1,a2⟩:=List.getElem?_eq_some_iff.1 hj;obtain⟨b1,b2⟩:=List.getElem?_eq_some_iff.1 hk;rcases Nat.lt_or_ge j k with h| h
  ·have:=List.pairwise_iff_getElem.1 he.nof j k a1 b1 h
   rwa [a2,b2] at this
  ·have e:j=k:=Nat.le_antisymm yJ h;subst e;rw[hj] at hk;cases hk;exact Nat.le_refl _
 have Ik:v<=z:=sG i v _ z hv he.last (by omega)
 obtain⟨y0,Eo⟩:∃y,l[0]? =some y:=⟨_,List.getElem?_eq_getElem (by omega)⟩
 have Ep:y0<=v:=sG 0 y0 i v Eo hv (Nat.zero_le _)
 obtain⟨Lo,im⟩:=zch (k:=f.width) Eo (by omega)
 have yK:=zas l f (by
  have e:f.UL=f.high+(f.bits+7) / 8:=rfl
  rw[e,he.high,Py (hiB f.width 0 0 l),he.bits]) im
 have dh:=z0S f.width l 0 0 0 y0 he.nof Eo (λy _=>Nat.zero_le _)
 have pV:=z0S f.width l 0 0 i v he.nof hv (λy _=>Nat.zero_le _)
 simp only[Nat.add_zero,Nat.sub_zero] at dh pV
 have eW:=Zf (hiB f.width 0 0 l) 0 (y0 / 2^f.width) i dh
 rw[Nat.zero_add,pV] at eW
 have Iz:y0 / 2^f.width<=v / 2^f.width:=Nat.div_le_div_right Ep
 have sH:f.UL+4<=(Yl l f).length:=by
  rw[aI];have e:f.size=f.UL+4*((f.n+63) / 64):=rfl;rw[e,qy];omega
 have fU:f.UL<=40000000:=by have:=he.size_le.1;rw[aI] at sH;omega
 replace hB:OP w x [I (f.n:Int),OY f.u,I (f.width:Int),I (f.bits:Int),.iface t u] 277:=hB
 refine py (e:=[(0,_),(1,_)]) func222 O ntmps222 O O$ qN O$ Qm O$ QA$ Pn O$ qV (PY z2S O O)$ OV O$ OL O$ Pn O$ Qw O$ PH$ Pa O$ ON O$ Pq O ?_
 refine OW Sq O$ OW YD O$ qV (OM U3 O O hB O)$ U8 O$ PH$ PM O$ OV O$ SH O$ Oz$ An ?_
 have hg:=Ext.P4 w
 refine QV (λw'=>Kp (λk=>¬X k) w w') O$ OZ 0 O O (hg.kp)$ OG 1 O (Q8 O) (hg.kp)$ OG 2 O (Pr z3e O) (hg.kp)$ qT 3 O (λ_ h=>OM z74 O O (h.OA hB (λe=>e hx)) O) (hg.kp)$ OZ 4 O O (hg.kp)$ OG 5 O (Q8 O) (hg.kp)$ OG 6 O (Pr Sq O) (hg.kp)$ OZ 9 O O (hg.kp)$ OG 10 O (WY O O (by omega)) (hg.kp)$ OG 11 O (Yb O O (by omega)) (hg.kp)$ qT 7 O (λ_ hS=>Pp (news:=fmC f) z4g O Tj O ((hS.OA hB (λe=>e hx)).cells (n:=4) O) O) (hg.kp)$ OG 13 O (zjh O) (hg.kp)$ OZ 14 O O (hg.kp) ?_
 refine RT 8 O zdU O (z4H f uI _) ?_
 rintro _ w1 ⟨rfl,ad⟩
 refine⟨(hg.trans ad).kp,?_⟩
 have ce:=hg.trans ad
 have mM:=R.ext hI ce (λk hk=> .inl hk)
 have dr:∀k,X k->k<w1.heap.size:=λk hk=>by have:=hX k hk;have:=ce.size;omega
 refine OG 12 O (UO O O (by omega)) ((hg.trans ad).kp) ?_
 rw[show(f.UL:Int)+4*((i:Int) / 64)=((f.UL:Nat):Int) by omega]
 refine qO 15$ W3 (i:=15) O O O (yci R.cr R.mr O O) (R.rd f.UL 4 mM dr sH) ?_
 rintro _ w2 ⟨rfl,cV,am⟩
 refine⟨ce.kp.trans am,?_⟩
 rw[yK]
 have dL:Kp (λk=>¬X k) w w2:=ce.kp.trans am
 refine OZ 16 O O (ce.kp.trans am)$ OG 17 O (Ru O O) (ce.kp.trans am)$ OG 18 O (Ru O O) (ce.kp.trans am)$ OG 19 O (Rp O) (ce.kp.trans am)$ OG 20 O (Rp O) (ce.kp.trans am)$ qE$ Po.qb (e:=[(0,_),(1,_),(4,_),(5,_),(6,_),(7,_)]) ?_
 refine PK O$ QE O$ Qg O$ Qt O$ P5 z7V O (Xa (Ph (S8 f.width l)) (by omega) w2) ?_
 rintro _ w3 ⟨rfl,ah⟩
 rw[Lo]
 have ct:Kp (λk=>¬X k) w w3:=dL.trans ah.kp
 have Er:=R.ext cV ah (λk hk=> .inl hk)
 have pN:∀k,X k->k<w3.heap.size:=λk hk=>by have:=hX k hk;have:=ct.size;omega
 have ar:=ct.OA hB (λe=>e hx)
 have Lp:y0 / 2^f.width<=y0:=Nat.div_le_self _ _
 have Lq:v / 2^f.width<=v:=Nat.div_le_self _ _
 have pz:v / 2^f.width*2^f.width%18446744073709551616 |||v%2^f.width=v:=by
  have h1:=Nat.div_mul_le_self v (2^f.width);rw[Nat.mod_eq_of_lt (by omega),Nat.mul_comm,<-Nat.two_pow_add_eq_or_of_lt (Nat.mod_lt _ (Nat.two_pow_pos _))];exact Nat.div_add_mod v (2^f.width)
 have iB:v%2^f.width<=v:=Nat.mod_le _ _
 generalize Lr:v / 2^f.width=vq at eW Iz Lq pz
 generalize y0 / 2^f.width=yq at eW Iz Lp
 refine qV (PJ O Rt U3 (by omega))$ ON O$ qV (yre O O (by omega)) ?_
 rw[show(i:Int)%64=(i:Int) by omega]
 refine P5 zgf O (za5 he R Er pN hx ar (k:=i) (by omega) eW) ?_
 rintro _ w4 ⟨rfl,jB,au⟩
 rw[show yq+(vq+i-yq)=vq+i by omega]
 have fW:=ct.trans au
 have El:∀k,X k->k<w4.heap.size:=λk hk=>by have:=hX k hk;have:=fW.size;omega
 have aK:=fW.OA hB (λe=>e hx)
 refine ON O$ SU O$ Qm O$ PK O$ QE O$ Qg O$ Qt O$ P5 zjm O (z9o he R jB El hx aK hv) ?_
 rintro _ w5 ⟨rfl,kH,aj⟩
 have dm:=fW.trans aj
 have aH:=dm.OA hB (λe=>e hx)
 have BA:=he.u
 refine ON O$ SU O$ Qm O$ Po.qb (e:=[(0,_),(1,_),(4,_),(5,_),(7,_),(8,_),(9,_)]) ?_
 refine PK O$ QE O$ Qg O$ Qt O$ Ro O ?_
 rw[show((vq+i:Nat):Int)-(i:Int)=(vq:Int) by omega]
 refine qV ((Q7 O U3 Rt (by omega)))$ ON O$ Pq O$ OW Sq O$ OW Td O$ qV (OM U3 O O aH O)$ qV (Rf f.width (2^f.width) O O (by omega) O)$ ON O ?_
 have BF:=Nat.mod_lt (vq*2^f.width) (show 0<18446744073709551616 by decide)
 refine qV (z1a O O (by omega) (by omega)) ?_
 rw[pz]
 refine OV O$ An$ Qt O$ Qw O$ PH$ Pa O$ ON O$ Pq O$ OW Sq O$ OW zcz O$ qV (OM Rt O O aH O)$ U8 O$ PH$ PM O ?_
 refine OC$ Po.qb (e:=[(4,_),(5,_),(10,_),(93,_)]) ?_
 refine SH O$ Pn O$ Qm O$ OB func222 O ?_
 exact⟨_,rfl,rfl,kH,dm⟩
def zb8 (a b:OI)(w:World)(hl:(a++b).length<=100000000000):Pm prog 137 [S (a++b),S a] w λu w'=>u= .bool true/\w'=w:=by
 rw[List.length_append] at hl
 have jQ:(a++b).length=a.length+b.length:=List.length_append
 have ht:(a++b).take a.length=a:=List.take_left
 refine py (e:=[(0,_),(1,_)]) func137 O ntmps137 O O$ qN O$ QW O$ qV (Wg U9 O)$ ON O$ qV (Wg U9 O)$ U8 O$ Rz$ Pa O$ ON O$ qV (Wg U9 O)$ qV (z5z U9 O O (by omega))$ ON O ?_
 rw[ht]
 refine qV (zkr O O)$ Rz$ QX O$ OV O$ OB func137 O ?_
 exact⟨_,rfl,rfl,rfl⟩
def zat (a b:OI)(w:World)(hl:(a++b).length<=100000000000):Pm prog 186 [S (a++b),S a] w λu w'=>u= .tuple #[S b,.bool true]/\w'=w:=by
 have jQ:(a++b).length=a.length+b.length:=List.length_append
 have hd:(a++b).drop a.length=b:=List.drop_left
 refine py (e:=[(0,_),(1,_)]) func186 O ntmps186 O O$ qN O$ Qm O$ An$ Qt O$ P5 zhV O (zb8 a b w hl) ?_
 rintro _ w ⟨rfl,rfl⟩
 refine qV ((RZ O))$ Qg O$ Qt O$ qV (Wg U9 O)$ qV (z0T U9 O O (by omega)) ?_
 rw[hd]
 refine Qm O$ OB func186 O ?_
 exact⟨_,rfl,rfl,rfl⟩
def z77 (a b:OI)(w:World)(hl:(a++b).length<=100000000000):Pm prog 157 [S (a++b),S a] w λu w'=>u= .tuple #[S b,.bool true]/\w'=w:=by
 refine py (e:=[(0,_),(1,_)]) func157 O ntmps157 O O$ qN O$ SA O$ QS O$ Pa O$ P5 zgO O (zat a b w hl) ?_
 rintro _ w ⟨rfl,rfl⟩
 refine SU O$ Qm O$ OB func157 O ?_
 exact⟨_,rfl,rfl,rfl⟩
def T9 {w:World}{r a b6 b7:Nat}{s:OI}(h:TO w r s a)(aT:OP w b6 [ptr r 0] 273)(bO:OP w b7 [.bool false] 4)(h6:b6≠r/\b7≠r/\b6≠b7)(n v:Nat)(hn:n<=64)(hv:v<2^n)(nv:v<=134217728)(rest:List Bool)(hb:(P7 s).drop a=Pc n v++rest):
  Pm prog 159 [I (n:Int),ptr b6 0,ptr b7 0] w λu w'=>u=I (v:Int)/\TO w' r s (a+n)/\OP w' b6 [ptr r 0] 273/\OP w' b7 [.bool false] 4/\Kp (λk=>k=r\/k=b7) w w':=by
 have aI:a+n<=8*s.length:=by
  have e:=congrArg List.length hb;rw[List.length_drop,bitsT_length,List.length_append,bitsN_length] at e;have:=h.2.1;omega
 have Es:Pz (((P7 s).drop a).take n)=v:=by
  rw[hb,List.take_left' (by simp),Q0];exact Nat.mod_eq_of_lt hv
 refine py (e:=[(0,_),(1,_),(2,_)]) func159 O ntmps159 O O$ qN O$ QS O$ qV (OM Ve O O aT O)$ ON O$ P5 z4i O (Vx h n hn) ?_
 rintro v1 w1 fO
 have jm:v1= .tuple #[OY v,I 0]/\TO w1 r s (a+n)/\Kp (λk=>k=r) w w1:=by
  rcases fO with⟨-,e,h1,hk⟩|⟨e,-,-⟩
  ·rw[Es] at e;exact⟨e,h1,hk⟩
  ·omega
 obtain⟨rfl,h1,az⟩:=jm
 have yL:=az.OA bO h6.2.1
 have Et:=az.OA aT h6.1
 refine ON O$ SU O$ SA O$ QS O$ qV (OM U4 O O yL O)$ Pa O$ QE O$ PM O$ Pa O$ QB O$ PH$ PM O$ OT O (QG UH O O O yL (by simp)) ?_
 rintro w2 ⟨ez,am⟩
 refine qM O$ ON O$ qV (Ux O O (by omega) (by omega)) ?_
 rw[show v&&&268435455=v from(Nat.and_two_pow_sub_one_eq_mod v 28).trans (Nat.mod_eq_of_lt (by omega))]
 refine qV (PJ O Rt U3 (by omega))$ OV O$ OB func159 O ?_
 exact⟨_,rfl,rfl,⟨am.OA h1.1 (λe=>h6.2.1 e.symm),h1.2⟩,am.OA Et h6.2.2,ez,(az.OH λk e=> .inl e).trans (am.OH λk e=> .inr e)⟩
def Tb {s:List Bool}{n v a:Nat}{rest:List Bool}(h:s.drop a=Pc n v++rest):s.drop (a+n)=rest:=by
 rw[<-List.drop_drop,h,List.drop_left' (by simp)]
def zdx (h:PHd):P7 (Ph (Ri (Z3 h)))=Pc 32 h.n++(Pc 32 h.m++(Pc 8 h.p.Pb++(Pc 8 h.p.chain++(Pc 8 h.p.interval++(Pc 8 h.p.zeta++(Pc 32 h.p.most++(Pc 64 h.bits++[]))))))):=by
 obtain⟨z,h1,h2,h3⟩:=Si (Ri (Z3 h))
 have hl:=Ur h
 have hz:z=0:=by omega
 rw[h1,hz,List.replicate_zero,List.append_nil]
 rfl
def z9K (h:PHd)(hh:h.Qq)(w:World):Pm prog 128 [S (hdT h)] w λu w'=>u= .tuple #[hdV h,I 0]/\Ext w w':=by
 obtain⟨g1,g2,g3,g4,g5⟩:=id hh
 obtain⟨q1,q2,q3⟩:=id g5
 obtain⟨r1,r2,r3,r4⟩:=id q1
 have r1':h.p.Pb<=16:=r1
 have r2':h.p.interval<=64:=by
  have:h.p.interval=0\/2<=h.p.interval/\h.p.interval<=64:=r2;omega
 have r4':h.p.zeta<=16:=r4
 have Ls:=Xe h
 have ri:=zdx h
 rw[show P7 (Ph (Ri (Z3 h)))=(P7 (Ph (Ri (Z3 h)))).drop 0 from List.drop_zero.symm] at ri
 have gQ:(Ph (Ri (Z3 h))).length=24:=by rw[Py,Ur]
 refine py (e:=[(0,_)]) func128 O ntmps128 O O$ qN O$ OJ O O (Ry (cs:=[_,_,_,_,_,_,_,_]) TT O) ?_
 rintro _ w1 ⟨b2,rfl,bN,ad,ak⟩
 refine QW O$ Qp O O (yc (args:=[.tmp 11,.const (Value.string (⟨#[119,116,108,49]⟩))]) zgg O) (z77 z84 (Ph (Ri (Z3 h))) _ (by rw[show z84++Ph (Ri (Z3 h))=hdT h from rfl];omega)) ?_
 rintro _ w1 ⟨rfl,rfl⟩
 refine ON O$ SU O$ Qm O$ PK O$ qV ((RZ O))$ Pa O$ qV (Wg U9 O)$ Qw O$ PH$ PM O$ Qg O$ Pn O ?_
 generalize Ph (Ri (Z3 h))=pt at ri gQ
 refine P5 z89 O (WX pt (by omega) w1) ?_
 rintro _ w2 ⟨r,rfl,di,ae,dt⟩
 refine OJ O O (Ry (cs:=[_]) z2E O) ?_
 rintro _ w3 ⟨b6,rfl,nN,ah,aT⟩
 refine OT O (QG z2E O O O aT (by simp)) ?_
 rintro w4 ⟨rj,au⟩
 replace rj:OP w4 b6 [ptr r 0] 273:=rj
 refine qM O$ OJ O O (Ry (cs:=[_]) UH O) ?_
 rintro _ w5 ⟨b7,rfl,mg,aU,bO⟩
 refine OT O (QG UH O O O bO (by simp)) ?_
 rintro w6 ⟨rk,aM⟩
 replace rk:OP w6 b7 [.bool false] 4:=rk
 have z1:=ad.size
 have z2:=ae.size
 have z3:=ah.size
 have z4:=au.size
 have z5:=aU.size
 have lr:=di.1.lt
 have l6:=rj.lt
 have l2:=ak.lt
 have uL:=aM.OA (aU.OA rj) (by omega)
 have ir:TO w6 r pt 0:=⟨aM.OA (aU.OA (au.OA (ah.OA di.1) (by omega))) (by omega),di.2⟩
 have bB:Ext w1 w6:=(((ae.trans ah).It au (λi e=>by omega)).trans aU).It aM (λi e=>by omega)
 refine qM O$ qV (ymf (first:=[]) (caps:=[.tmp 6,.tmp 7]) O O)$ QW O$ Qp O O (RN ZZ O O) (T9 ir uL rk ⟨by omega,by omega,by omega⟩ 32 h.n (by decide) (by omega) (by omega) _ ri) ?_
 rintro _ v0 ⟨rfl,Eu,yM,yN,yO⟩
 have yP:=Tb ri
 refine ON O$ Qp O O (RN ZZ O O) (T9 Eu yM yN ⟨by omega,by omega,by omega⟩ 32 h.m (by decide) (by omega) (by omega) _ yP) ?_
 rintro _ v1 ⟨rfl,yQ,yR,yS,yT⟩
 have yU:=Tb yP
 refine qV (Sa (cs:=[_,_,_,_,_,_,_,_]) TT O zel O O)$ OJ O O (Ry (cs:=[_,_,_,_,_,_,_,_]) TT O) ?_
 rintro _ w7 ⟨b9,rfl,jb,co,cK⟩
 have zv1:=yO.size
 have zv2:=yT.size
 have z7:=co.size
 have z6:=aM.size
 have l9:=cK.lt
 refine OT O (PG (news:=[I (h.n:Int),I (h.m:Int),I 0,I 0,I 0,I 0,I 0,I 0]) TT O O O O cK (by simp)) ?_
 rintro w8 ⟨uM,aL⟩
 replace uM:OP w8 b9 [I (h.n:Int),I (h.m:Int),I 0,I 0,I 0,I 0,I 0,I 0] 134:=uM
 have l7:=rk.lt
 have cT:Ext v1 w8:=co.It aL (λi e=>by omega)
 have nj:TO w8 r pt (0+32+32):=⟨cT.OA yQ.1,yQ.2⟩
 have er:=cT.OA yR
 have Ev:=cT.OA yS
 have pI:Kp (λk=>k=r\/k=b7) w6 w8:=(yO.trans yT).trans cT.kp
 refine OC$ Po.qb (e:=[(2,_),(3,_),(7,_),(8,_),(9,_)]) ?_
 refine Pn O$ Qp O O (RN ZZ O O) (T9 nj er Ev ⟨by omega,by omega,by omega⟩ 8 h.p.Pb (by decide) (by omega) (by omega) _ yU) ?_
 rintro _ v2 ⟨rfl,Ew,yV,yW,Ex⟩
 have yX:=Tb yU
 refine ON O$ Qp O O (RN ZZ O O) (T9 Ew yV yW ⟨by omega,by omega,by omega⟩ 8 h.p.chain (by decide) (by omega) (by omega) _ yX) ?_
 rintro _ v3 ⟨rfl,Ey,yY,yZ,Ez⟩
 have zd:=Tb yX
 refine ON O$ Qp O O (RN ZZ O O) (T9 Ey yY yZ ⟨by omega,by omega,by omega⟩ 8 h.p.interval (by decide) (by omega) (by omega) _ zd) ?_
 rintro _ v4 ⟨rfl,EA,zf,zg,EB⟩
 have zh:=Tb zd
 refine ON O$ Qp O O (RN ZZ O O) (T9 EA zf zg ⟨by omega,by omega,by omega⟩ 8 h.p.zeta (by decide) (by omega) (by omega) _ zh) ?_
 rintro _ v5 ⟨rfl,EC,zi,zj,ED⟩
 have zk:=Tb zh
 refine ON O$ Qp O O (RN ZZ O O) (T9 EC zi zj ⟨by omega,by omega,by omega⟩ 32 h.p.most (by decide) (by omega) (by omega) _ zk) ?_
 rintro _ v6 ⟨rfl,zm,zn,zo,EE⟩
 have zp:=Tb zk
 have jq:Kp (λk=>k=r\/k=b7) w8 v6:=(((Ex.trans Ez).trans EB).trans ED).trans EE
 have EF:=jq.OA uM (by omega)
 refine qV (Sa (cs:=[_,_,_,_,_]) RD O zcY O O)$ OW Yj O$ OT O (PG (news:=Vl h.p) RD O O O O EF (by simp)) ?_
 rintro w9 ⟨uN,aw⟩
 replace uN:OP w9 b9 [I (h.n:Int),I (h.m:Int),I (h.p.Pb:Int),I (h.p.chain:Int),I (h.p.interval:Int),I (h.p.zeta:Int),I (h.p.most:Int),I 0] 134:=uN
 have pC:TO w9 r pt (0+32+32+8+8+8+8+32):=⟨aw.OA zm.1 (by omega),zm.2⟩
 have iS:=aw.OA zn (by omega)
 have EG:=aw.OA zo (by omega)
 refine qM O$ ON O$ Qp O O (RN ZZ O O) (T9 pC iS EG ⟨by omega,by omega,by omega⟩ 64 h.bits (by decide) (by omega) (by omega) _ zp) ?_
 rintro _ v7 ⟨rfl,Lt,IA,zr,zt⟩
 have Lu:=Tb zp
 have EH:=zt.OA uN (by omega)
 refine OW Vc O$ OT O (QG PV O O O EH (by simp)) ?_
 rintro w10 ⟨lX,aC⟩
 replace lX:OP w10 b9 (hdC h) 134:=lX
 have zu:=aC.OA zr (by omega)
 have zv:Kp (λk=>k=r\/k=b7\/k=b9) w6 w10:=((((pI.trans jq).OH λk e=>by omega).trans (aw.OH λk e=>by omega)).trans (zt.OH λk e=>by omega)).trans (aC.OH λk e=>by omega)
 have gH:Ext w1 w10:=bB.It zv (λk e=>by omega)
 refine OC$ An$ qN O$ qV (OM U4 O O zu O)$ ON O$ qV (Pp (news:=hdC h) z6u O TT O (lX.cells (n:=8) O) O)$ P5 zaY O (XV h hh _) ?_
 rintro _ w11 ⟨rfl,aV⟩
 refine QE O$ PM O$ OC$ Po.qb (e:=[(2,_),(3,_),(9,_),(51,_)]) ?_
 refine SH O$ qN O$ qV (Pp (news:=hdC h) z6u O TT O ((aV.OA lX).cells (n:=8) O) O) ?_
 have zw:=(gH.trans aV).OA ak
 refine OT O (PG (news:=hdC h) TT O O O O zw (by simp)) ?_
 rintro w12 ⟨jC,bA⟩
 replace jC:OP w12 b2 (hdC h) 134:=jC
 replace jC:OP w12 b2 [I (h.n:Int),I (h.m:Int),I (h.p.Pb:Int),I (h.p.chain:Int),I (h.p.interval:Int),I (h.p.zeta:Int),I (h.p.most:Int),I (h.bits:Int)] 134:=jC
 refine OV O$ Pf func128 (.cell z6u O TT O (OP.cells (n:=8) jC (news:=[_,_,_,_,_,_,_,_]) O) O (.tmp O .nil)) ?_
 exact⟨_,rfl,rfl,((ad.trans gH).trans aV).It bA (λk e=>by omega)⟩
def z9N (h:PHd)(hh:h.Qq)(bN:h.n<=500)(w:World):Pm prog 129 [hdV h] w λu w'=>u= .tuple #[I ((28+(h.bits+7) / 8+(TQ (h.n+1) (h.bits+1)).size:Nat):Int),I 0]/\Ext w w':=by
 obtain⟨g1,g2,g3,g4,g5⟩:=id hh
 have hs:=z3j (n:=h.n+1) (u:=h.bits+1) (by omega) (by omega) (by omega) (by omega)
 have cD:(TQ (h.n+1) (h.bits+1)).size<=40000000:=by
  have h2:=Fm.Xi hs;obtain⟨h3,h4,h5⟩:=hs;unfold Fm.size Fm.UL;omega
 refine py (e:=[(0,_)]) func129 O ntmps129 O O$ qN O$ OJ O O (R4 O (cs:=hdC h) O) ?_
 rintro _ w1 ⟨b1,rfl,bL,ad,ai⟩
 replace ai:OP w1 b1 [I (h.n:Int),I (h.m:Int),I (h.p.Pb:Int),I (h.p.chain:Int),I (h.p.interval:Int),I (h.p.zeta:Int),I (h.p.most:Int),I (h.bits:Int)] 134:=ai
 refine Qm O$ An$ qN O$ qV (Pp (news:=hdC h) z6u O TT O (ai.cells (n:=8) O) O)$ P5 zaY O (XV h hh _) ?_
 rintro _ w2 ⟨rfl,ae⟩
 have aX:=ae.OA ai
 refine QW O$ QE O$ Qg O$ qN O$ OW Ua O$ qV (OM U3 O O aX O)$ PS O$ OW Vc O$ qV (OM U3 O O aX O)$ qV ((Q7 O U3 Rt (by omega))) ?_
 rw[show(h.n:Int)+1=((h.n+1:Nat):Int) by omega]
 refine P5 zhl O (z6S (h.n+1) h.bits (by omega) (by omega) (by omega) _) ?_
 rintro _ w3 ⟨rfl,ah⟩
 have bV:=ah.OA aX
 refine ON O$ qV (Ru (v:=I ((TQ (h.n+1) (h.bits+1)).size:Int)) O O)$ qV (Ru (v:=I 0) O O) ?_
 generalize (TQ (h.n+1) (h.bits+1)).size=q at cD
 refine SA O$ QS O$ OW Vc O$ qV (OM U3 O O bV O)$ PS O$ qV (WY O O (by omega))$ PS O$ ON O$ PS O$ ON O$ Qm O$ Po.qb (e:=[(2,_),(3,_)]) ?_
 refine OB func129 O (⟨_,rfl,?_,(ad.trans ae).trans ah⟩)
 show Value.tuple #[I (28+((h.bits:Int)+7) / 8+(q:Int)),I 0]= .tuple #[I ((28+(h.bits+7) / 8+q:Nat):Int),I 0]
 rw[show(28:Int)+((h.bits:Int)+7) / 8+(q:Int)=((28+(h.bits+7) / 8+q:Nat):Int) by omega]
section
variable {P:Program}{e:Env}{d:Option Nat}{ty t:TypeId}{pos:String}{aft:Array Edge}{g:Option (Nat×Bool)}{x:Operand}{w:World}
def z6v {f:FuncId}{name:String}{u:Value}(h:methT P t name=some f):(nilAhead (P.types.size+Made.depth) t u name).run P w= .ok (some false) w:=by
 rw[show P.types.size+Made.depth=P.types.size+(Made.depth-1)+1 from rfl]
 unfold methT at h
 split at h<;>try cases h
 rename_i i hi
 split at h<;>try cases h
 rename_i m hm
 split at h<;>try cases h
 rename_i f' pr jz jA
 have ol:i.methods.find? (·.name==name)=some m:=by rw[<-hm,Array.find?_toList]
 unfold nilAhead
 split at h<;>try cases h
 ·rename_i el hu
  cases pr<;>simp at h;subst h;simp[TN hi,ol,jz,followBlind,jA]
 ·rename_i td Is hu
  cases pr<;>simp at h;subst h;simp only[Sem.run_bind,TN hi,Result.andThen_ok,ol,jz,followBlind,Sem.run_pure,jA,run_underlying hu];cases td<;>first|exact absurd rfl (Is _)|rfl
def zho {td:TypeDesc}{v:Value}(ht:P.underlying t=some td)(hn:∀ms,td≠ .interface ms)(hx:look e x=some v):Y P e ⟨d,.makeInterface t x,ty,pos,aft,g⟩ (.iface t v) w w:=fun ρ hρ=>by
 simp only[execOp,hρ _ _ hx,Instr.makeInterface,Sem.run_bind,run_underlying ht,Result.andThen_ok]
 cases td<;>first|rfl|exact(hn _ rfl).elim
def ymm {nm:String}{v:Value}(hx:look e x=some v):Y P e ⟨d,.makeFunc (.method nm) #[x] #[],ty,pos,aft,g⟩ (.func (.method nm) #[v] #[]) w w:=fun ρ hρ=>by
 simp[execOp,hρ _ _ hx,Instr.makeFunc]
def zl1 {f:FuncId}{nm:String}{tx:TypeId}{v:Value}(hm:methT P tx nm=some f)(hx:look e x=some (.func (.method nm) #[.iface tx v] #[])):Y P e ⟨d,.nilCheck x,ty,pos,aft,g⟩ (.func (.method nm) #[.iface tx v] #[]) w w:=fun ρ hρ=>by
 have hn:=z6v (w:=w) (u:=v) hm
 have tY:(program).run P w= .ok P w:=rfl
 simp[execOp,hρ _ _ hx,tY,hn]
end
def z0a (t:TypeId)(u:Value)(a n:Nat):Value:= .agg #[.iface t u,I (a:Int),I (n:Int)]
def z4c (t:TypeId)(u:Value)(a n:Nat)(w:World):Pm prog 282 [z0a t u a n] w λv w'=>v=I (n:Int)/\Ext w w':=by
 unfold z0a
 refine py (e:=[(0,_)]) func282 O ntmps282 O O$ qN O$ OJ O O (R4 O (cs:=[.iface t u,I (a:Int),I (n:Int)]) O) ?_
 rintro _ w1 ⟨b1,rfl,bL,ad,ai⟩
 refine QS O$ OW z3o O$ qV (OM U3 O O ai O)$ OV O$ OB func282 O ?_
 exact⟨_,rfl,rfl,ad⟩
def z7p {t:TypeId}{u:Value}{T:OI}(R:Src t u T){X:Nat->Prop}{w:World}(a n:Nat)(pW:a+n<=T.length)(hT:T.length<=100000000000)(off m:Nat)(hI:R.inv X w)(hX:∀k,X k->k<w.heap.size)(h:off+m<=n):
  Pm prog 283 [z0a t u a n,I (off:Int),I (m:Int)] w λv w'=>v= .tuple #[S ((((T.drop a).take n).drop off).take m),I 0]/\R.inv X w'/\Kp (λk=>¬X k) w w':=by
 have e:(((T.drop a).take n).drop off).take m=(T.drop (a+off)).take m:=by
  rw[List.drop_take,List.take_take,List.drop_drop,show min m (n-off)=m by omega]
 rw[e]
 unfold z0a
 refine py (e:=[(0,_),(1,_),(2,_)]) func283 O ntmps283 O O$ qN O$ OJ O O (R4 O (cs:=[.iface t u,I (a:Int),I (n:Int)]) O) ?_
 rintro _ w1 ⟨b1,rfl,bL,ad,ai⟩
 refine Qm O$ PK O$ Qw O$ Pa O$ Qw O$ PH$ PM O$ Pa O$ OW z3o O$ qV (OM U3 O O ai O)$ QB O$ PH$ PM O$ Pa O ?_
 refine OW z3o O$ qV (OM U3 O O ai O)$ ON O$ Ro O$ QB O$ PH$ PM O$ OC$ Po.qb (e:=[(1,_),(2,_),(3,_),(6,_),(7,_),(27,_)]) ?_
 refine SH O$ qN O$ OW zcU O$ qV (OM z74 O O ai O)$ OW zcr O$ qV (OM U3 O O ai O)$ ON O$ PS O$ ON O ?_
 rw[show(a:Int)+(off:Int)=((a+off:Nat):Int) by omega]
 refine Qp O O (yci R.cr R.mr O O) (R.rd (a+off) m (R.ext hI ad (λk hk=> .inl hk)) (λk hk=>by have:=hX k hk;have:=ad.size;omega) (by omega)) ?_
 rintro _ w2 ⟨rfl,cV,am⟩
 refine SU O$ Qm O$ OB func283 O ?_
 exact⟨_,rfl,rfl,cV,ad.kp.trans am⟩
def zem {t:TypeId}{u:Value}{T:OI}(R:Src t u T)(a n:Nat)(B:OI)(pW:a+n<=T.length)(hT:T.length<=100000000000)(hB:(T.drop a).take n=B):Src 233 (z0a t u a n) B where
 inv:=R.inv
 fl:=282
 fr:=283
 cl:=zgS
 cr:=zh9
 ml:=by kernel_rfl
 mr:=by kernel_rfl
 ext:=R.ext
 step:=R.step
 len:=fun {X w} h=>by
  have e:B.length=n:=by rw[<-hB,List.length_take,List.length_drop];omega
  rw[e];exact z4c t u a n w
 rd:=fun {X w} off m h hX ho=>by
  have e:B.length=n:=by rw[<-hB,List.length_take,List.length_drop];omega
  rw[<-hB];exact z7p R a n pW hT off m h hX (by omega)
def W1 (p:Qk)(g:List (List Nat))(E:List (Nat×Nat)):PHd:=⟨g.length,PT g,p,(Qv p g E g.length).length⟩
def pfm (p:Qk)(g:List (List Nat))(E:List (Nat×Nat)):Fm:=TQ (g.length+1) ((Qv p g E g.length).length+1)
structure SV (p:Qk)(g:List (List Nat))(E:List (Nat×Nat)):Prop where
 Qq:p.Qq
 gr:Rh g
 n1:1<=g.length
 pk:zbc p g E
section
variable {p:Qk}{g:List (List Nat)}{E:List (Nat×Nat)}
def SV.head (h:SV p g E):(W1 p g E).Qq:=by
 have hn:=h.gr.n
 have hb:=h.pk.bits
 have uC:=TR h.gr g.length
 rw[List.take_length] at uC
 exact⟨h.n1,(by show g.length<=_;omega),(by show PT g<=_;omega),(by show(Qv p g E g.length).length<=_;omega),h.Qq⟩
theorem SV.ef (h:SV p g E):VD (Wk p g E g.length) (pfm p g E) (Qv p g E g.length).length:=by
 have hn:=h.gr.n
 have hb:=h.pk.bits
 have aI:=z2V p g E g.length
 refine⟨by omega,by omega,z7R p g E g.length,?_,by omega,?_⟩
 ·rw[aI,Nat.add_sub_cancel];exact z0u p g E (Nat.le_refl g.length)
 ·rw[aI];rfl
def Wh (p:Qk)(g:List (List Nat))(E:List (Nat×Nat)):Nat:=28+((Qv p g E g.length).length+7) / 8
theorem SV.len (h:SV p g E):(Xt p g E).length=Wh p g E+(pfm p g E).size:=by
 unfold Xt Wh
 rw[List.length_append,List.length_append,Xe,Py]
 have:=h.ef.len
 show _+(Yl (Wk p g E g.length) (pfm p g E)).length=_
 rw[this]
def SV.small (h:SV p g E):(Xt p g E).length<=50000000/\40<=(Xt p g E).length:=by
 have h1:=h.ef.size_le
 have h2:=h.len
 have h3:=h.pk.bits
 unfold Wh at h2
 omega
theorem zda:((Xt p g E).drop 0).take 28=hdT (W1 p g E):=by
 unfold Xt
 rw[List.drop_zero,List.append_assoc,<-Xe (W1 p g E)]
 exact List.take_left
theorem SV.index (h:SV p g E):((Xt p g E).drop (Wh p g E)).take (pfm p g E).size=Yl (Wk p g E g.length) (pfm p g E):=by
 have h1:(hdT (W1 p g E)++Ph (Qv p g E g.length)).length=Wh p g E:=by
  rw[List.length_append,Xe,Py];rfl
 have h2:=h.ef.len
 unfold Xt
 show((hdT (W1 p g E)++Ph (Qv p g E g.length)++Yl (Wk p g E g.length) (pfm p g E)).drop _).take _=_
 rw[<-h1,List.drop_left,<-h2,List.take_length]
theorem zcR (h:SV p g E)(a n:Nat)(hn:8*(a+n)<=(Qv p g E g.length).length+7):((Xt p g E).drop (28+a)).take n=((Ph (Qv p g E g.length)).drop a).take n:=by
 unfold Xt
 exact piece (by rw[Xe]) (by rw[Py];omega)
end
def gwC (h:PHd)(t:TypeId)(u:Value)(x:Nat):List Value:=[I (h.n:Int),I (h.m:Int),I (h.p.Pb:Int),I (h.p.chain:Int),I (h.p.interval:Int),I (h.p.zeta:Int),I (h.p.most:Int),I (h.bits:Int),.iface t u,ptr x 0]
def z6h {t:TypeId}{u:Value}{p:Qk}{g:List (List Nat)}{E:List (Nat×Nat)}(hp:SV p g E)(R:Src t u (Xt p g E)){X:Nat->Prop}{w:World}(hI:R.inv X w)(hX:∀k,X k->k<w.heap.size):
  Pm prog 89 [.iface t u] w λv w'=>∃k x,v= .tuple #[ptr k 0,I 0]/\OP w' k (gwC (W1 p g E) t u x) 139/\OP w' x (elC (pfm p g E) 233 (z0a t u (Wh p g E) (pfm p g E).size)) 277/\w.heap.size<=x/\w.heap.size<=k/\x≠k/\R.inv (λj=>X j\/j=x\/j=k) w'/\Kp (λj=>¬X j) w w':=by
 have aI:=hp.len
 obtain⟨et,dw⟩:=hp.small
 have hn:=hp.gr.n
 have dh:=hp.n1
 have se:=hp.pk.bits
 have hg:=Ext.P4 w
 have sI:=hp.head
 have EI:(W1 p g E).bits=(Qv p g E g.length).length:=rfl
 have NW:Wh p g E=28+((W1 p g E).bits+7) / 8:=rfl
 have NX:(W1 p g E).n=g.length:=rfl
 refine py (e:=[(0,_)]) func89 O ntmps89 O O$ qN O$ Qm O$ PK O$ qV (zdP z74 O O)$ Qg O$ An$ QV (λw'=>R.inv X w'/\Kp (λk=>¬X k) w w') O$ OZ 0 O O (⟨R.ext hI hg (λk hk=> .inl hk),hg.kp⟩)$ OZ 1 O O (⟨R.ext hI hg (λk hk=> .inl hk),hg.kp⟩)$ OG 4 O (ymm O) (⟨R.ext hI hg (λk hk=> .inl hk),hg.kp⟩)$ OG 5 O (zl1 R.mr O) (⟨R.ext hI hg (λk hk=> .inl hk),hg.kp⟩)$ OZ 6 O O (⟨R.ext hI hg (λk hk=> .inl hk),hg.kp⟩)$ qO 2 ?_
 refine W3 (i:=2) O O O (yci R.cl R.ml O O) (R.len (R.ext hI hg (λk hk=> .inl hk))) ?_
 rintro _ w1 ⟨rfl,ad⟩
 refine⟨⟨R.ext hI (hg.trans ad) (λk hk=> .inl hk),(hg.trans ad).kp⟩,?_⟩
 have ce:=hg.trans ad
 rw[aI]
 refine OG 3 O (ymi O O) (⟨R.ext hI (hg.trans ad) (λk hk=> .inl hk),(hg.trans ad).kp⟩) ?_
 rw[show min (28:Int) ((Wh p g E+(pfm p g E).size:Nat):Int)=((28:Nat):Int) by omega]
 have mM:=R.ext hI ce (λk hk=> .inl hk)
 have dr:∀k,X k->k<w1.heap.size:=λk hk=>by have:=hX k hk;have:=ce.size;omega
 refine qO 7$ W3 (i:=7) O O O (yci R.cr R.mr O O) (R.rd 0 28 mM dr (by omega)) ?_
 rintro _ w2 ⟨rfl,cV,am⟩
 refine⟨⟨cV,ce.kp.trans am⟩,?_⟩
 rw[zda]
 have dL:Kp (λk=>¬X k) w w2:=ce.kp.trans am
 have fT:∀k,X k->k<w2.heap.size:=λk hk=>by have:=dr k hk;have:=am.size;omega
 refine OZ 8 O O (⟨cV,ce.kp.trans am⟩)$ OG 9 O (Ru O O) (⟨cV,ce.kp.trans am⟩)$ OG 10 O (Ru O O) (⟨cV,ce.kp.trans am⟩)$ OG 11 O (Rp O) (⟨cV,ce.kp.trans am⟩)$ OG 12 O (Rp O) (⟨cV,ce.kp.trans am⟩)$ qE$ PK O$ QE O$ Qg O$ Pn O$ P5 zjq O (z9K (W1 p g E) sI w2) ?_
 rintro _ w3 ⟨rfl,ah⟩
 refine ON O$ qV (Ru (v:=hdV (W1 p g E)) O O)$ qV (Ru (v:=I 0) O O)$ OJ O O (Ry (cs:=[_,_,_,_,_,_,_,_]) TT O) ?_
 rintro _ w4 ⟨b6,rfl,nN,aA,aT⟩
 refine OT O (PG (news:=hdC (W1 p g E)) TT O O O O aT (by simp)) ?_
 rintro w5 ⟨fV,aj⟩
 replace fV:OP w5 b6 (hdC (W1 p g E)) 134:=fV
 have cw:Ext w3 w5:=aA.It aj (λi e=>by omega)
 have iL:=ah.trans cw
 refine OV O$ Po.qb (e:=[(0,_),(2,_),(3,_),(5,_),(6,_)]) ?_
 refine PK O$ QE O$ Qg O$ An$ qN O$ qV (Pp (news:=hdC (W1 p g E)) z6u O TT O (fV.cells (n:=8) O) O)$ P5 zjG O (z9N (W1 p g E) sI (by show g.length<=_;omega) _) ?_
 rintro _ w6 ⟨rfl,aR⟩
 have iM:=iL.trans aR
 have qq:=R.ext cV iM (λk hk=> .inl hk)
 have uL:=aR.OA fV
 refine ON O$ qV (Ru (v:=I ((Wh p g E+(pfm p g E).size:Nat):Int)) O O)$ qV (Ru (v:=I 0) O O)$ SA O$ QW O$ QE O$ PH$ Pa O$ ON O$ Qp O O (yci R.cl R.ml O O) (R.len qq) ?_
 rintro _ w7 ⟨rfl,co⟩
 rw[aI]
 have EJ:=iM.trans co
 have ia:=co.OA uL
 refine QE O$ PH$ PM O ?_
 replace ia:OP w7 b6 [I ((W1 p g E).n:Int),I ((W1 p g E).m:Int),I ((W1 p g E).p.Pb:Int),I ((W1 p g E).p.chain:Int),I ((W1 p g E).p.interval:Int),I ((W1 p g E).p.zeta:Int),I ((W1 p g E).p.most:Int),I ((W1 p g E).bits:Int)] 134:=ia
 refine Qg O$ qN O$ OW Vc O$ qV (OM U3 O O ia O)$ PS O$ qV (WY O O (by omega))$ PS O ?_
 rw[show 28+((((W1 p g E).bits:Nat):Int)+7) / 8=(Wh p g E:Int) by omega]
 refine OV O$ Po.qb (e:=[(0,_),(2,_),(3,_),(5,_),(6,_),(9,_)]) ?_
 refine Qt O$ ON O ?_
 have mv:=R.ext qq co (λk hk=> .inl hk)
 refine Qp O O (yci R.cl R.ml O O) (R.len mv) ?_
 rintro _ w8 ⟨rfl,cT⟩
 rw[aI]
 have jy:=EJ.trans cT
 have Ef:=R.ext mv cT (λk hk=> .inl hk)
 have er:=cT.OA ia
 have z28:=jy.size
 refine ON O$ Ro O ?_
 rw[show((Wh p g E+(pfm p g E).size:Nat):Int)-(Wh p g E:Int)=((pfm p g E).size:Int) by omega]
 refine qV (Sa (cs:=[_,_,_]) ziD O zjw O O)$ qV (zho zkO (λ_ h=>by cases h) rfl) ?_
 have lb6:=er.lt
 have Lv:=R.ext (Y:=λk=>X k\/k=b6) cV jy (λk hk=>hk.imp id λe=>by have:=ah.size;omega)
 have cR:∀k,(X k\/k=b6)->k<w8.heap.size:=λk hk=>by
  rcases hk with hk| e
  ·have:=fT k hk;have:=jy.size;omega
  ·omega
 refine P5 ziZ O (z5U hp.ef (zem R (Wh p g E) (pfm p g E).size (Yl (Wk p g E g.length) (pfm p g E)) (by omega) (by omega) hp.index) (X:=λk=>X k\/k=b6) Lv cR) ?_
 rintro _ w9 ⟨x,rfl,ji,hx,i4,aw⟩
 have iS:=aw.OA er (λhh=>hh (.inr O))
 have EK:Kp (λk=>¬X k) w2 w9:=jy.kp.trans (aw.OH λk hk e=>hk (.inl e))
 have z9:=aw.size
 refine ON O$ qV (Ru (v:=ptr x 0) O O)$ qV (Ru (v:=I 0) O O)$ Qm O$ QA$ Pn O$ QE O$ OV O$ OL O$ An ?_
 have iT:=Ext.P4 w9
 refine QV (λw'=>Ext w9 w') O$ OZ 0 O O (iT)$ OG 2 O (Pr Ua O) iT$ qT 3 O (λ_ h=>OM U3 O O (h.OA iS) O) iT$ OG 4 O (UO O O (by omega)) iT$ RT 1 O zj4 O (z8J (iT.OA ji)) ?_
 rintro _ w10 ⟨rfl,rfl⟩
 refine⟨iT,?_⟩
 rw[show(pfm p g E).n=(W1 p g E).n+1 from rfl]
 refine OG 5 O (yne O O) iT$ OG 6 O (Rp O) iT$ qE$ Po.qb (e:=[(0,_),(2,_),(3,_),(6,_),(10,_),(69,_)]) ?_
 have iv:=iT.OA iS
 have zx:=iT.OA ji
 refine OQ O (λh9=>?_)$ λh9=>?_
 ·exact absurd (by omega) h9
 ·refine OD$ Oz$ qN O$ qV (Pp (news:=hdC (W1 p g E)) z6u O TT O (OP.cells (n:=8) iv O) O)$ Pa O$ qV (Sa (cs:=[_,_,_,_,_,_,_,_,_,_]) zib O zgC O O)$ OJ O O (R4 O (cs:=gwC (W1 p g E) t u x) O) ?_;rintro _ w11 ⟨k,rfl,hk,aV,bc⟩;refine Qm O$ OB func89 O ?_;have EL:=iT.trans aV;have z02:=dL.size;have z28:=jy.size;have zdd:=iT.size;have lbx:=zx.lt;refine⟨_,rfl,k,x,rfl,bc,EL.OA ji,by omega,by omega,by omega,R.ext i4 EL (λj hj=>?_),(dL.trans EK).trans EL.kp⟩;rcases hj with hj|hj|hj
  ·exact .inl (.inl (.inl hj))
  ·exact .inl (.inr hj)
  ·exact .inr (by omega)
structure UJ {t:TypeId}{u:Value}{p:Qk}{g:List (List Nat)}{E:List (Nat×Nat)}(R:Src t u (Xt p g E))(k x:Nat)(X:Nat->Prop)(w:World):Prop where
 ok:SV p g E
 OA:OP w k (gwC (W1 p g E) t u x) 139
 ix:OP w x (elC (pfm p g E) 233 (z0a t u (Wh p g E) (pfm p g E).size)) 277
 xk:X k
 xx:X x
 inv:R.inv X w
 lt:∀j,X j->j<w.heap.size
 x1:X 1
 x2:X 2
 gam:OP w 1 (Sg .gamma) 294
 una:OP w 2 (Sg .unary) 294
section
variable {t:TypeId}{u:Value}{p:Qk}{g:List (List Nat)}{E:List (Nat×Nat)}{R:Src t u (Xt p g E)}{k x:Nat}{X Y S:Nat->Prop}{w w':World}
def UJ.grow (h:UJ R k x X w)(hx:Ext w w')(hY:∀j,Y j->X j\/(w.heap.size<=j/\j<w'.heap.size))(aN:∀j,X j->Y j):UJ R k x Y w':=
 ⟨h.ok,hx.OA h.OA,hx.OA h.ix,aN _ h.xk,aN _ h.xx,R.ext h.inv hx (λj hj=>(hY j hj).imp id And.left),λj hj=>by
  rcases hY j hj with e| e
  ·have:=h.lt j e;have:=hx.size;omega
  ·exact e.2,aN _ h.x1,aN _ h.x2,hx.OA h.gam,hx.OA h.una⟩
def UJ.ext (h:UJ R k x X w)(hx:Ext w w'):UJ R k x X w':=h.grow hx (λj hj=> .inl hj) λj hj=>hj
def UJ.less (h:UJ R k x Y w)(aN:∀j,X j->Y j)(hk:X k)(hx:X x)(h1:X 1)(h2:X 2):UJ R k x X w:=
 ⟨h.ok,h.OA,h.ix,hk,hx,R.ext h.inv (Ext.refl w) (λj hj=> .inl (aN j hj)),λj hj=>h.lt j (aN j hj),h1,h2,h.gam,h.una⟩
theorem UJ.step (h:UJ R k x X w)(hk:Kp S w w')(hS:∀j,S j->X j/\j≠k/\j≠x/\j≠1/\j≠2)(hY:∀j,Y j->X j\/(w.heap.size<=j/\j<w'.heap.size))(aN:∀j,X j->Y j):UJ R k x Y w':=
 ⟨h.ok,hk.OA h.OA (λe=>(hS _ e).2.1 O),hk.OA h.ix (λe=>(hS _ e).2.2.1 O),aN _ h.xk,aN _ h.xx,R.step h.inv hk (λj hj=>(hS j hj).1) (λj hj=>(hY j hj).imp id And.left),λj hj=>by
  rcases hY j hj with e| e
  ·have:=h.lt j e;have:=hk.size;omega
  ·exact e.2,aN _ h.x1,aN _ h.x2,hk.OA h.gam (λe=>(hS _ e).2.2.2.1 O),hk.OA h.una (λe=>(hS _ e).2.2.2.2 O)⟩
def UJ.own (h:UJ R k x X w)(hk:Kp S w w')(hS:∀j,S j->X j/\j≠k/\j≠x/\j≠1/\j≠2):UJ R k x X w':=
 ⟨h.ok,hk.OA h.OA (λe=>(hS _ e).2.1 O),hk.OA h.ix (λe=>(hS _ e).2.2.1 O),h.xk,h.xx,R.own h.inv hk (λj hj=>(hS j hj).1),λj hj=>by have:=h.lt j hj;have:=hk.size;omega,h.x1,h.x2,hk.OA h.gam (λe=>(hS _ e).2.2.2.1 O),hk.OA h.una (λe=>(hS _ e).2.2.2.2 O)⟩
def UJ.src (h:UJ R k x X w)(hk:Kp (λj=>¬X j) w w')(hI:R.inv X w'):UJ R k x X w':=
 ⟨h.ok,hk.OA h.OA (λe=>e h.xk),hk.OA h.ix (λe=>e h.xx),h.xk,h.xx,hI,λj hj=>by have:=h.lt j hj;have:=hk.size;omega,h.x1,h.x2,hk.OA h.gam (λe=>e h.x1),hk.OA h.una (λe=>e h.x2)⟩
def UJ.R2 (R:Src t u (Xt p g E))(h:SV p g E):Src 233 (z0a t u (Wh p g E) (pfm p g E).size) (Yl (Wk p g E g.length) (pfm p g E)):=
 zem R (Wh p g E) (pfm p g E).size _ (by have:=h.len;omega) (by have:=h.small;omega) h.index
theorem UJ.cells (h:UJ R k x X w):OP w k [I ((W1 p g E).n:Int),I ((W1 p g E).m:Int),I ((W1 p g E).p.Pb:Int),I ((W1 p g E).p.chain:Int),I ((W1 p g E).p.interval:Int),I ((W1 p g E).p.zeta:Int),I ((W1 p g E).p.most:Int),I ((W1 p g E).bits:Int),.iface t u,ptr x 0] 139:=h.OA
def zdA (h:UJ R k x X w):Pm prog 30 [ptr k 0] w λv w'=>v=I (g.length:Int)/\w'=w:=by
 have hB:=h.cells
 refine py (e:=[(0,_)]) func30 O ntmps30 O O$ Qx O$ PK O$ qV (PY ZH O O)$ Qg O$ Pn O$ Pq O$ OW VG O$ OW Ua O$ qV (OM U3 O O hB O)$ OV O$ OB func30 O ?_
 exact⟨_,rfl,rfl,rfl⟩
theorem z5Z (h:UJ R k x X w){b v c:Nat}(hv:v<g.length)(hr:Rd w (.slice (some ⟨b,0,none⟩) 1 c) 1 1 [I (v:Int)]):Pm prog 193 [ptr k 0,.slice (some ⟨b,0,none⟩) 1 c] w λv w'=>v=I 0/\w'=w:=by
 have hB:=h.cells
 have hn:(W1 p g E).n=g.length:=rfl
 refine py (e:=[(0,_),(1,_)]) func193 O ntmps193 O O$ Qx O$ PK O$ qV (PY ZH O O)$ Qg O$ PK O$ Rs R0 O$ ON O$ OC$ OE$ Rr (α:=Nat) (0) (λi=>[(0,ptr k 0),(9,.slice (some ⟨b,0,none⟩) 1 c),(10,I 1),(11,I (i:Int))]) (λi w'=>w'=w/\i<=1) (λi=>1-i) ?hI ?hround
 case hI=>exact⟨rfl,Nat.zero_le _⟩
 case hround=>
  rintro i w2 ⟨rfl,hi⟩ ih
  try dsimp only
  refine qN O$ Qw O$ OC$ An$ OQ O (λh0=>?_)$ λh0=>?_
  ·have g7:i=0:=by omega
   subst g7;refine OD$ QA$ qN O$ qV (PR R0 PV O O (by omega))$ qV (Ps U3 O O (PU hr O))$ QW O$ Qw O$ PH$ Pa O$ ON O$ Pq O$ OW VG O$ OW Ua O$ qV (OM U3 O O hB O) ?_;refine U8 O$ PH$ PM O$ Qg O$ Oz$ OK O$ PS O$ ON O$ OC ?_;exact(ih 1 _ ⟨rfl,by omega⟩ (by omega)).qb
  ·refine OO O$ Qx O$ OB func193 O ?_;exact⟨_,rfl,rfl,rfl⟩
def z8X {p:Qk}{g:List (List Nat)}{E:List (Nat×Nat)}{v a n:Nat}{s:OI}(hs:((Ph (Qv p g E g.length)).drop (a / 8)).take n=s)(ha:(Qv p g E v).length=a)(hv:v<g.length)(hn:a+(XR p g E v).length<=8*(a / 8+n)):∃rest,(P7 s).drop (a%8)=XR p g E v++rest:=by
 have cQ:∃r,Qv p g E g.length=Qv p g E (v+1)++r:=by
  have key:∀d i,∃r,Qv p g E (i+d)=Qv p g E i++r:=λd i=>by
   induction d with
   |zero=>exact⟨[],by simp⟩
   | succ d ih =>
     obtain⟨r,hr⟩:=ih;exact⟨r++XR p g E (i+d),by rw[<-Nat.add_assoc,T5,hr,List.append_assoc]⟩
  obtain⟨r,hr⟩:=key (g.length-(v+1)) (v+1);rw[show v+1+(g.length-(v+1))=g.length by omega] at hr;exact⟨r,hr⟩
 obtain⟨r,hr⟩:=cQ
 obtain⟨z,hz,-,-⟩:=Si (Qv p g E g.length)
 rw[<-hs,Ut,TH,hz,hr,T5,List.drop_take,List.drop_drop,show 8*(a / 8)+a%8=a by omega,List.append_assoc,List.append_assoc,List.drop_left' ha,List.take_append,List.take_of_length_le (by omega)]
 exact⟨_,rfl⟩
def z7r (h:UJ R k x X w){v:Nat}(hv:v<g.length):Pm prog 212 [ptr k 0,I (v:Int)] w λr w'=>∃(b a e:Nat) (s:OI) (rest:List Bool),r= .tuple #[ptr b 0,I (e:Int),I 0]/\TO w' b s a/\(P7 s).drop a=XR p g E v++rest/\a+(XR p g E v).length=e/\w.heap.size<=b/\UJ R k x (λj=>X j\/j=b) w'/\Kp (λj=>¬X j) w w':=by
 have hn:=h.ok.gr.n
 have se:=h.ok.pk.bits
 have hB:=h.cells
 have EM:=z0u p g E (n:=g.length) (i:=v) (by omega)
 have zC:=z0u p g E (n:=g.length) (i:=v+1) (by omega)
 have pS:=WM p g E (g.length-(v+1)) (v+1)
 rw[show v+1+(g.length-(v+1))=g.length by omega] at pS
 have eB:=T5 p g E v
 have lT:=congrArg List.length eB
 rw[List.length_append] at lT
 refine py (e:=[(0,_),(1,_)]) func212 O ntmps212 O O$ qN O$ SA O$ SA O$ QW O$ Pq O$ OW z8F O$ qV (OM z2S O O hB O)$ ON O$ P5 ze4 O (z2v h.ok.ef (UJ.R2 R h.ok) h.inv h.lt h.xx h.ix EM) ?_
 rintro _ w1 ⟨rfl,mM,az⟩
 have h1:=h.src az mM
 have ai:=h1.cells
 refine ON O$ SU O$ Qm O$ PK O$ QE O$ Qg O$ Pn O$ Pq O$ OW z8F O$ qV (OM z2S O O ai O)$ ON O$ PS O ?_
 rw[show(v:Int)+1=((v+1:Nat):Int) by omega]
 refine P5 ze4 O (z2v h1.ok.ef (UJ.R2 R h1.ok) h1.inv h1.lt h1.xx h1.ix zC) ?_
 rintro _ w2 ⟨rfl,cV,am⟩
 have h2:=h1.src am cV
 have ak:=h2.cells
 have dL:=az.trans am
 obtain⟨al,pT⟩:∃n,(Qv p g E v).length=n:=⟨_,rfl⟩
 obtain⟨bl,eL⟩:∃n,(Qv p g E (v+1)).length=n:=⟨_,rfl⟩
 rw[pT,eL]
 have EI:(W1 p g E).bits=(Qv p g E g.length).length:=rfl
 refine ON O$ SU O$ Qm O$ Po.qb (e:=[(0,_),(4,_),(5,_),(6,_),(7,_),(8,_),(9,_)]) ?_
 refine QA$ Pn O$ QE O$ OV O$ OL O$ Qt O$ QB O$ PH$ Pa O$ ON O$ Pq O$ OW VG O$ OW Vc O$ qV (OM U3 O O ak O) ?_
 refine qV ((Q7 O U3 Rt (by omega)))$ QB O$ PH$ PM O$ OV O$ SH O$ Oz$ Pn O$ qV (ziY O O O (by simp only[IntKind.bits];omega) (by omega)) ?_
 refine qV (PJ O Rt U3 (by omega))$ OV O$ Po.qb (e:=[(0,_),(4,_),(5,_),(6,_),(7,_),(8,_),(9,_),(10,_)]) ?_
 refine Pn O$ Pq O$ OW zdm O$ qV (OM z74 O O ak O)$ ON O$ PS O$ ON O$ qV (UU O O)$ qV (PJ O Rt U3 (by omega))$ qV (WY O O (by omega))$ ON O$ Ro O ?_
 have uE:28+al / 8+((bl+7) / 8-al / 8)<=(Xt p g E).length:=by have:=h.ok.len;unfold Wh at this;omega
 rw[show 28+((al / 8:Nat):Int)=((28+al / 8:Nat):Int) by omega]
 rw[show((((bl+7)%18446744073709551616:Nat):Int)) / 8-((al / 8:Nat):Int)=(((bl+7) / 8-al / 8:Nat):Int) by omega]
 refine Qp O O (yci R.cr R.mr O O) (R.rd (28+al / 8) ((bl+7) / 8-al / 8) h2.inv h2.lt uE) ?_
 rintro _ w3 ⟨rfl,Er,av⟩
 have h3:=h2.src av Er
 rw[zcR h.ok (al / 8) ((bl+7) / 8-al / 8) (by omega)]
 obtain⟨s,hs⟩:∃s,((Ph (Qv p g E g.length)).drop (al / 8)).take ((bl+7) / 8-al / 8)=s:=⟨_,rfl⟩
 rw[hs]
 refine ON O$ SU O$ Qm O$ Po.qb (e:=[(4,_),(5,_),(6,_),(7,_),(8,_),(9,_),(10,_),(11,_)]) ?_
 refine PK O$ QE O ?_
 have fU:s.length=(bl+7) / 8-al / 8:=by
  rw[<-hs,List.length_take,List.length_drop,Py];omega
 obtain⟨rest,oB⟩:∃rest,(P7 s).drop (al%8)=XR p g E v++rest:=z8X hs pT hv (by omega)
 refine Qg O$ Pn O$ P5 z89 O (WX s (by omega) w3) ?_
 rintro _ w4 ⟨b,rfl,fi,aA,hb⟩
 have lb:=fi.1.lt
 have h4:UJ R k x (λj=>X j\/j=b) w4:=h3.grow aA (λj hj=>hj.imp id λe=>by omega) (λj hj=> .inl hj)
 have fJ:¬X b:=λe=>by have:=h3.lt b e;omega
 refine QS O$ Pa O$ qV (PJ O Rt U3 (by omega))$ ON O$ qV (Yb O O (by omega))$ Ro O ?_
 rw[show(al:Int)-8*((al / 8:Nat):Int)=((al%8:Nat):Int) by omega]
 refine P5 zar O (ZF fi (al%8) (by omega)) ?_
 rintro _ w5 ⟨rfl,mf,aj⟩
 have h5:=h4.own aj (λj e=>by
  subst e
  exact⟨.inr O,λe=>fJ (e▸h.xk),λe=>fJ (e▸h.xx),λe=>fJ (e▸h.x1),λe=>fJ (e▸h.x2)⟩)
 refine qM O$ Pa O$ qV (PJ O Rt U3 (by omega))$ ON O$ qV (Yb O O (by omega))$ Ro O ?_
 rw[show(bl:Int)-8*((al / 8:Nat):Int)=((bl-8*(al / 8):Nat):Int) by omega]
 refine SA O$ Qm O$ Po.qb (e:=[(4,_),(5,_),(6,_)]) ?_
 refine OB func212 O ?_
 have z03:=(dL.trans av).size
 exact⟨_,rfl,b,al%8,bl-8*(al / 8),s,rest,rfl,mf,oB,by omega,by omega,h5,((dL.trans av).trans aA.kp).It aj (λj e=> .inl (by omega))⟩
end
def OU (g:List (List Nat))(v:Nat):List Nat:=(g[v]?).getD []
def Pt (g:List (List Nat))(E:List (Nat×Nat))(v:Nat):Nat:=if OU g v=[] then 0 else((E[v]?).getD (0,0)).1
def Ty (p:Qk)(g:List (List Nat))(E:List (Nat×Nat))(v:Nat):List (Cd×Nat):=if OU g v=[] then [] else Uo p.list v (OU g v) (Qz g v (Pt g E v)) (Pt g E v)
def z92 (p:Qk)(g:List (List Nat))(E:List (Nat×Nat))(v:Nat):XR p g E v=P8 (Qs p.list (OU g v).length (Pt g E v))++P8 (Ty p g E v):=by
 unfold XR Ty Pt
 rw[<-Sy]
 by_cases h:OU g v=[]
 ·have h':(g[v]?).getD []=[]:=h;rw[if_pos h,if_pos h,h',h]
  rfl
 ·rw[if_neg h,if_neg h];have:=z1F p.list v (ref:=Qz g v ((E[v]?).getD (0,0)).1) ((E[v]?).getD (0,0)).1 h;rw[<-this];rfl
section
variable {t:TypeId}{u:Value}{p:Qk}{g:List (List Nat)}{E:List (Nat×Nat)}{R:Src t u (Xt p g E)}{k x:Nat}{X:Nat->Prop}{w w':World}
def SV.ent (h:SV p g E){v:Nat}(hv:v<g.length):ZL p g E v (OU g v).length ((E[v]?).getD (0,0)):=by
 have hl:=h.pk.el
 obtain⟨e,he⟩:∃e,E[v]? =some e:=⟨_,List.getElem?_eq_getElem (by omega)⟩
 have:=h.pk.ok.ent v e he
 rw[he];exact this
def SV.z3A (h:SV p g E){v:Nat}(hv:v<g.length):Pt g E v<=p.Pb/\Pt g E v<=v:=by
 unfold Pt
 split
 ·omega
 ·rcases h.ent hv with e| e
  ·rw[e];exact⟨Nat.zero_le _,Nat.zero_le _⟩
  ·exact⟨e.2.1,e.2.2.1⟩
def SV.suc (h:SV p g E){v:Nat}(hv:v<g.length):PB (OU g v)/\(OU g v).length<=g.length/\∀y∈OU g v,y<g.length:=by
 have hm:OU g v∈g:=by
  unfold OU;rw[List.getElem?_eq_getElem hv];exact List.getElem_mem hv
 exact⟨h.gr.ok _ hm,h.gr.len hm,h.gr.lt _ hm⟩
def z6A (h:UJ R k x X w){v:Nat}(hv:v<g.length):Pm prog 195 [ptr k 0,I (v:Int)] w λr w'=>∃(b a:Nat) (s:OI) (rest:List Bool),r= .tuple #[.agg #[I ((OU g v).length:Int),I (Pt g E v:Int)],ptr b 0,I ((a+(P8 (Ty p g E v)).length:Nat):Int),I 0]/\TO w' b s a/\(P7 s).drop a=P8 (Ty p g E v)++rest/\w.heap.size<=b/\UJ R k x (λj=>X j\/j=b) w'/\Kp (λj=>¬X j) w w':=by
 have hn:=h.ok.gr.n
 obtain⟨et,dw,pL⟩:=h.ok.suc hv
 have fH:=h.ok.z3A hv
 have qZ:=z92 p g E v
 have zD:(OU g v).length=0->Pt g E v=0:=λe=>by unfold Pt;rw[if_pos (List.eq_nil_of_length_eq_zero e)]
 refine py (e:=[(0,_),(1,_)]) func195 O ntmps195 O O$ qN O$ OJ O O (Ry (cs:=[_,_]) Sb O) ?_
 rintro _ w1 ⟨b4,rfl,fZ,ad,aK⟩
 have l4:=aK.lt
 have h1:UJ R k x (λj=>X j\/j=b4) w1:=h.grow ad (λj hj=>hj.imp id λe=>by omega) (λj hj=> .inl hj)
 have aA:∀j,X j->j≠b4:=λj hj e=>by have:=h.lt j hj;omega
 refine SA O$ SA O$ QS O$ Pa O$ P5 zh0 O (z7r h1 hv) ?_
 rintro _ w2 ⟨b,a,e,s,rest,rfl,di,hd,he,hb,h2,am⟩
 have bC:=am.OA aK (λe=>e (.inr O))
 have Lw:=h2.cells
 have lb:=di.1.lt
 have fJ:∀j,X j->j≠b:=λj hj e=>by have:=h.lt j hj;have:=ad.size;omega
 have oC:∀j,j=b->(X j\/j=b4)\/j=b:=λj e=> .inr e
 refine ON O$ qV (Ru (v:=ptr b 0) O O)$ qV (Ru (v:=I (e:Int)) O O)$ qV (Ru (v:=I 0) O O)$ SA O$ Qm O$ PK O$ QE O$ Qg O$ Qt O$ Pq O$ OW VG O$ OW Yj O$ qV (Pp (news:=Vl p) U75 O RD O (OP.cells (i:=2) (n:=5) Lw O) O) ?_
 refine P5 z0H O (SX p w2) ?_
 rintro _ w3 ⟨rfl,ah⟩
 have h3:=h2.ext ah
 have lV:TO w3 b s a:=⟨ah.OA di.1,di.2⟩
 rw[qZ,List.append_assoc] at hd
 refine P5 zeN O (z2k lV p.list h.ok.Qq.1 h3.gam h3.una (λe=>fJ 1 h.x1 e) (λe=>fJ 2 h.x2 e) (OU g v).length (Pt g E v) (by omega) fH.1 zD _ hd) ?_
 rintro _ w4 ⟨rfl,fi,au⟩
 have Ig:=Sh hd
 have h4:=h3.own au (λj e=>⟨.inr e,λe'=>fJ k h.xk (e'▸e),λe'=>fJ x h.xx (e'▸e),λe'=>fJ 1 h.x1 (e'▸e),λe'=>fJ 2 h.x2 (e'▸e)⟩)
 have cC:=au.OA (ah.OA bC) (λe=>by omega)
 have fU:=congrArg List.length qZ
 rw[List.length_append] at fU
 refine ON O$ qV (Ru (v:= .agg #[I ((OU g v).length:Int),I (Pt g E v:Int)]) O O)$ qV (Ru (v:=I 0) O O)$ OJ O O (Ry (cs:=[_,_]) Sb O) ?_
 rintro _ w5 ⟨b11,rfl,jo,aU,bc⟩
 refine OT O (PG (news:=[I ((OU g v).length:Int),I (Pt g E v:Int)]) Sb O O O O bc (by simp)) ?_
 rintro w6 ⟨oD,aM⟩
 replace oD:OP w6 b11 [I ((OU g v).length:Int),I (Pt g E v:Int)] 308:=oD
 have cU:Ext w4 w6:=aU.It aM (λj e=>by omega)
 have h6:=h4.ext cU
 have ir:TO w6 b s (a+(P8 (Qs p.list (OU g v).length (Pt g E v))).length):=⟨cU.OA fi.1,fi.2⟩
 refine OV O$ Po.qb (e:=[(4,_),(5,_),(6,_),(7,_),(8,_),(9,_),(10,_),(11,_)]) ?_
 refine PK O$ QE O$ PH$ Pa O$ P5 YE O (Uc ir) ?_
 rintro _ w6 ⟨rfl,rfl⟩
 refine ON O$ QB O$ PH$ PM O$ Qg O$ qN O$ qV (Pp (news:=[I ((OU g v).length:Int),I (Pt g E v:Int)]) z4h O Sb O (OP.cells (n:=2) oD O) O)$ Pa O ?_
 have bU:=cU.OA cC
 refine OT O (PG (news:=[I ((OU g v).length:Int),I (Pt g E v:Int)]) Sb O O O O bU (by simp)) ?_
 rintro w7 ⟨bq,aB⟩
 replace bq:OP w7 b4 [I ((OU g v).length:Int),I (Pt g E v:Int)] 308:=bq
 have h7:=(h6.own aB (λj e=>⟨.inl (.inr e),λe'=>aA k h.xk (e'▸e),λe'=>aA x h.xx (e'▸e),λe'=>aA 1 h.x1 (e'▸e),λe'=>aA 2 h.x2 (e'▸e)⟩)).less (X:=λj=>X j\/j=b) (λj hj=>hj.imp .inl id) (.inl h.xk) (.inl h.xx) (.inl h.x1) (.inl h.x2)
 have Lx:TO w7 b s (a+(P8 (Qs p.list (OU g v).length (Pt g E v))).length):=⟨aB.OA ir.1 (by omega),ir.2⟩
 refine SA O$ Qm O$ Pf func195 (.cell z4h O Sb O (OP.cells (n:=2) bq (news:=[_,_]) O) O (.tmp O (.tmp O (.tmp O .nil)))) (⟨_,rfl,b,a+(P8 (Qs p.list (OU g v).length (Pt g E v))).length,s,rest,?_,Lx,Ig,by have:=ad.size;omega,h7,?_⟩)
 ·rw[show a+(P8 (Qs p.list (OU g v).length (Pt g E v))).length+(P8 (Ty p g E v)).length=e by omega]
  rfl
 ·have pI:Kp (λj=>¬X j) w w4:=((ad.kp.trans (am.OH λj e e'=>e (.inl e'))).trans ah.kp).It au (λj e=> .inl (by have:=ad.size;omega));exact(pI.trans cU.kp).It aB (λj e=> .inl (by omega))
end
section
variable {t:TypeId}{u:Value}{p:Qk}{g:List (List Nat)}{E:List (Nat×Nat)}{R:Src t u (Xt p g E)}{k x gb pb fb:Nat}{X Y S:Nat->Prop}{w w':World}
abbrev z48 (w:World)(vv:Value)(l:List Nat):Prop:=Sl w vv 59 1 l.length (l.map Px)
def TP (E:List (Nat×Nat))(v:Nat):Nat:=((E[v]?).getD (0,0)).2
structure TdM (R:Src t u (Xt p g E))(k x gb pb fb:Nat)(X:Nat->Prop)(w:World):Prop where
 gw:UJ R k x X w
 bg:OP w gb [ptr k 0] 28
 bp:OP w pb [I (p.Pb:Int),I (p.chain:Int),I (p.interval:Int),I (p.zeta:Int),I (p.most:Int)] 75
 bf:OP w fb [.func (.func 194) #[] #[ptr gb 0,ptr pb 0,ptr fb 0]] 306
 xg:X gb
 xp:X pb
 xf:X fb
theorem TdM.step (h:TdM R k x gb pb fb X w)(hk:Kp S w w')(hS:∀j,S j->X j->False)(h2:UJ R k x Y w')(aN:∀j,X j->Y j):TdM R k x gb pb fb Y w':=
 ⟨h2,hk.OA h.bg (λe=>hS _ e h.xg),hk.OA h.bp (λe=>hS _ e h.xp),hk.OA h.bf (λe=>hS _ e h.xf),aN _ h.xg,aN _ h.xp,aN _ h.xf⟩
def Xj (R:Src t u (Xt p g E))(k x gb pb fb v behind:Nat)(X:Nat->Prop)(w:World):Prop:=
 Pm prog 194 [I (v:Int),I (behind:Int),ptr gb 0,ptr pb 0,ptr fb 0] w λr w'=>∃vv,r= .tuple #[vv,I 0]/\z48 w' vv (OU g v)/\(∀b,vv.ownBlock=some b->w.heap.size<=b)/\UJ R k x (λj=>X j\/vv.ownBlock=some j) w'/\Kp (λj=>¬X j) w w'
def SV.back (h:SV p g E){v:Nat}(hv:v<g.length)(hq:0<Pt g E v):Pt g E v<=v/\TP E v=TP E (v-Pt g E v)+1/\Qz g v (Pt g E v)=OU g (v-Pt g E v)/\0<(OU g (v-Pt g E v)).length/\(OU g (v-Pt g E v)).length<=p.most/\(OU g v).length<=p.most/\OU g v≠[]/\TP E v<=p.chain:=by
 have bu:OU g v≠[]:=λe=>by unfold Pt at hq;rw[if_pos e] at hq;omega
 have hb:Pt g E v=((E[v]?).getD (0,0)).1:=by unfold Pt;rw[if_neg bu]
 rcases h.ent hv with e|⟨h1,h2,h3,l,e',h4,h5,h6,h7⟩
 ·rw[hb,e] at hq;cases hq
 ·rw[<-hb] at h1 h2 h3 h4 h5;have Ly:=of_decide_eq_true h7;have hs:OU g (v-Pt g E v)=l:=by unfold OU;rw[h4];rfl
  refine⟨h3,?_,?_,by rw[hs];omega,by rw[hs];omega,by omega,bu,?_⟩
  ·unfold TP;rw[h5];exact h6
  ·unfold Qz;rw[if_neg (by omega)];rfl
  ·show((E[v]?).getD (0,0)).2<=_;omega
theorem z8W (ax:SV p g E)(jx:g.length<50){v:Nat}(hv:v<g.length){b a:Nat}{s:OI}{rest:List Bool}(hR:TO w b s a)(hd:(P7 s).drop a=P8 (Ty p g E v)++rest)(hG:OP w 1 (Sg .gamma) 294)(hU:OP w 2 (Sg .unary) 294)(h1:¬1=b)(h2:¬2=b)
  {vb:Value} (eX:Pt g E v=0->vb= .slice none 0 0) (hS:0<Pt g E v->z48 w vb (OU g (v-Pt g E v))) (Bq:∀j,vb.ownBlock=some j->j≠b):
  Pm prog 196 [ptr b 0,I (v:Int),I (g.length:Int),.agg #[I ((OU g v).length:Int),I (Pt g E v:Int)],vb,lpV p.list] w λr w'=>∃vv,r= .tuple #[vv,I 0]/\z48 w' vv (OU g v)/\(∀j,vv.ownBlock=some j->w.heap.size<=j)/\TO w' b s (a+(P8 (Ty p g E v)).length)/\Kp (λj=>j=b) w w':=by
 obtain⟨et,dw,pL⟩:=ax.suc hv
 have fH:=ax.z3A hv
 by_cases bu:OU g v=[]
 ·have zD:Pt g E v=0:=by unfold Pt;rw[if_pos bu]
  have EN:Ty p g E v=[]:=by unfold Ty;rw[if_pos bu]
  rw[zD,eX zD,EN,bu];refine(z38 p.list ax.Qq.1 v (by omega) g.length (by omega)).mono λr w' hr=>?_;obtain⟨rfl,hx⟩:=hr;exact⟨_,rfl,Sl.nil _ _ _,λj e=>(by cases e),⟨hx.OA hR.1,hR.2⟩,hx.kp⟩
 ·have EN:Ty p g E v=Uo p.list v (OU g v) (Qz g v (Pt g E v)) (Pt g E v):=by unfold Ty;rw[if_neg bu]
  have jf:PB (Qz g v (Pt g E v))/\(Qz g v (Pt g E v)).length<=60:=by
   have hn:=ax.gr.n;rcases X4 g v (Pt g E v) with e| e
   ·rw[e];exact⟨⟨List.Pairwise.nil,λy hy=>(by cases hy)⟩,by simp⟩
   ·exact⟨ax.gr.ok _ e,by have:=ax.gr.len e;omega⟩
  have Cf:=ZG ax.Qq.1 (x:=v) (by omega) et jf.1 fH.1 (by omega) jf.2;rw[EN] at hd⊢;rcases Nat.eq_zero_or_pos (Pt g E v) with h0|h0
  ·have mq:Qz g v (Pt g E v)=[]:=by unfold Qz;rw[if_pos h0]
   rw[eX h0];have:=z09 hR p.list ax.Qq.1 v (by omega) g.length (by omega) (ra:=none) (rc:=0) (OU g v) (Qz g v (Pt g E v)) et bu (by omega) pL jf.1 (Pt g E v) fH.1 (λ_=>mq) hG hU h1 h2 (λw2 am=>by rw[mq];exact(Sl.nil _ 59 1).rd) (by rw[mq];exact Nat.le_refl _) (by omega) rest hd;rw[mq] at this⊢;exact this
  ·obtain⟨q1,q2,q3,q4,q5,q6,q7,q8⟩:=ax.back hv h0;have EO:=hS h0;rw[<-q3] at EO
   obtain⟨ga,gc,rfl,kl⟩:∃a c,vb= .slice a (Qz g v (Pt g E v)).length c/\(Qz g v (Pt g E v)).length<=c:=by
    rcases EO.shape with⟨-,e⟩|⟨b,c,e,hc⟩
    ·rw[q3] at e;omega
    ·exact⟨_,c,e,hc⟩
   exact z09 hR p.list ax.Qq.1 v (by omega) g.length (by omega) (ra:=ga) (rc:=gc) (OU g v) (Qz g v (Pt g E v)) et bu (by omega) pL jf.1 (Pt g E v) fH.1 (λe=>by omega) hG hU h1 h2 (λw2 am=>(EO.kp am λj e=>Bq j e).rd) kl (by omega) rest hd
end
section
variable {t:TypeId}{u:Value}{p:Qk}{g:List (List Nat)}{E:List (Nat×Nat)}{R:Src t u (Xt p g E)}{k x gb pb fb:Nat}{X Y:Nat->Prop}{w w':World}
theorem ZS (jx:g.length<50){v behind:Nat}(hv:v<g.length)(BG:behind+TP E v<=p.chain)(ht:TdM R k x gb pb fb X w)
  (ih:0<Pt g E v->∀(X':Nat->Prop) (w':World),TdM R k x gb pb fb X' w'->Xj R k x gb pb fb (v-Pt g E v) (behind+1) X' w'):Xj R k x gb pb fb v behind X w:=by
 have ax:=ht.gw.ok
 have hn:=ax.gr.n
 have NY:p.chain<=1000000:=by have:=ax.Qq.2.1;omega
 obtain⟨et,dw,pL⟩:=ax.suc hv
 have fH:=ax.z3A hv
 have uF:=ht.bg
 unfold Xj
 refine py (e:=[(0,_),(1,_),(2,_),(3,_),(4,_)]) func194 O ntmps194 O O$ qN O$ SA O$ QS O$ qV (OM ZH O O uF O)$ ON O$ P5 zgD O (z6A ht.gw hv) ?_
 rintro _ w1 ⟨b,a,s,rest,rfl,iA,ur,bL,h1,az⟩
 have lb1:=iA.1.lt
 have cR:∀j,X j->j≠b:=λj hj e=>by have:=ht.gw.lt j hj;omega
 refine ON O$ qV (Ru (v:= .agg #[I ((OU g v).length:Int),I (Pt g E v:Int)]) O O)$ qV (Ru (v:=ptr b 0) O O)$ qV (Ru (v:=I ((a+(P8 (Ty p g E v)).length:Nat):Int)) O O)$ qV (Ru (v:=I 0) O O)$ OJ O O (Ry (cs:=[_,_]) Sb O) ?_
 rintro _ w2 ⟨b9,rfl,jb,ae,cK⟩
 refine OT O (PG (news:=[I ((OU g v).length:Int),I (Pt g E v:Int)]) Sb O O O O cK (by simp)) ?_
 rintro w3 ⟨cY,av⟩
 replace cY:OP w3 b9 [I ((OU g v).length:Int),I (Pt g E v:Int)] 308:=cY
 have aZ:Ext w1 w3:=ae.It av (λj e=>by omega)
 have l93:=cY.lt
 have z13:=aZ.size
 have h3:UJ R k x (λj=>(X j\/j=b)\/j=b9) w3:=h1.grow aZ (λj hj=>hj.imp id λe=>by omega) (λj hj=> .inl hj)
 have ct:Kp (λj=>¬X j) w w3:=az.trans aZ.kp
 have qK:TdM R k x gb pb fb (λj=>(X j\/j=b)\/j=b9) w3:=ht.step ct (λj e e'=>e e') h3 (λj hj=> .inl (.inl hj))
 have lV:TO w3 b s a:=⟨aZ.OA iA.1,iA.2⟩
 refine SA O$ Qm O$ PK O$ QE O$ Qg O$ Qx O$ An$ qN O$ OW St O$ qV (OM U3 O O cY O)$ QB O$ OC$ Po.qb (e:=[(0,_),(1,_),(2,_),(3,_),(4,_),(7,_),(8,_),(9,_),(10,_),(11,_),(12,_),(13,_),(28,_)]) ?_
 refine PD (λe' w'=>∃vb,e'=[(0,I (v:Int)),(2,ptr gb 0),(3,ptr pb 0),(9,ptr b9 0),(10,ptr b 0),(11,I ((a+(P8 (Ty p g E v)).length:Nat):Int)),(13,vb)]/\UJ R k x (λj=>(X j\/j=b)\/j=b9) w'/\Kp (λj=>¬((X j\/j=b)\/j=b9)) w3 w'/\(Pt g E v=0->vb= .slice none 0 0)/\(0<Pt g E v->z48 w' vb (OU g (v-Pt g E v)))/\(∀j,vb.ownBlock=some j->j≠b)) ?bE$ λbE=>?cM
 case bE=>
  rintro e' w4 ⟨vb,rfl,h4,au,wg,fO,EP⟩;have xY:TdM R k x gb pb fb (λj=>(X j\/j=b)\/j=b9) w4:=qK.step au (λj e e'=>e e') h4 (λj hj=>hj);have mN:=au.OA cY (λe=>e (.inr O));have fi:TO w4 b s a:=⟨au.OA lV.1 (λe=>e (.inl (.inr O))),lV.2⟩;have rl:=xY.bg;have jD:=xY.bp;have EQ:=xY.gw.cells;have af:=Ext.P4 w4;refine An ?_;have ngb:gb≠b:=cR gb ht.xg;have nk:k≠b:=cR k ht.gw.xk;have npb:pb≠b:=cR pb ht.xp;have n9:b9≠b:=by omega
  refine QV (λw'=>Kp (λj=>j=b) w4 w') O$ OZ 0 O O (af.kp)$ OZ 1 O O (af.kp)$ qT 2 O (λ_ h=>(OM ZH O O (h.OA rl ngb) O)) (af.kp)$ OG 3 O (Q8 O) (af.kp)$ OG 4 O (Pr VG O) (af.kp)$ OG 5 O (Pr Ua O) (af.kp)$ qT 6 O (λ_ h=>(OM U3 O O (h.OA EQ nk) O)) (af.kp)$ OZ 8 O O (af.kp)$ qT 7 O (λ_ hS=>Pp (news:=[I ((OU g v).length:Int),I (Pt g E v:Int)]) z4h O Sb O (OP.cells (n:=2) (hS.OA mN n9) O) O) (af.kp)$ qT 9 O (λ_ h=>Pp (news:=Vl p) U75 O RD O (OP.cells (n:=5) (h.OA jD npb) O) O) (af.kp)$ RT 10 O z0H O (SX p w4.drew) ?_;rintro _ w5 ⟨rfl,aU⟩;refine⟨(af.trans aU).kp,?_⟩;have dM:=af.trans aU;have h5:=h4.ext dM;have mf:TO w5 b s a:=⟨dM.OA fi.1,fi.2⟩;have ER:¬1=b:=λe=>cR 1 ht.gw.x1 e;have ES:¬2=b:=λe=>cR 2 ht.gw.x2 e;refine RT 11 O ziA O (z8W ax jx hv mf ur h5.gam h5.una ER ES wg (λe=>(fO e).ext dM) EP) ?_;rintro _ w6 ⟨vv,rfl,g8,nO,ir,aM⟩;refine⟨dM.kp.trans aM,?_⟩;refine OZ 12 O O (dM.kp.trans aM)$ OG 13 O (Ru (v:=vv) O O) (dM.kp.trans aM)$ OG 15 O (Rp O) (dM.kp.trans aM)$ OG 14 O (Ru (v:=I 0) O O) (dM.kp.trans aM)$ OG 16 O (Rp O) (dM.kp.trans aM)$ qE$ PK O$ QE O$ Pa O$ P5 YE O (Uc ir) ?_;rintro _ w6 ⟨rfl,rfl⟩;refine ON O$ QE O$ PH$ PM O$ OC$ Po.qb (e:=[(14,_),(92,_)]) ?_;refine SH O$ Pn O$ Qm O$ OB func194 O ?_;have z34:=au.size;have z45:=dM.size;have z03:=ct.size;have h6:=(h5.step (Y:=λj=>((X j\/j=b)\/j=b9)\/vv.ownBlock=some j) aM (λj e=>⟨.inl (.inr e),λe'=>cR k ht.gw.xk (e'▸e),λe'=>cR x ht.gw.xx (e'▸e),λe'=>cR 1 ht.gw.x1 (e'▸e),λe'=>cR 2 ht.gw.x2 (e'▸e)⟩) (λj hj=>hj.imp id λe=>⟨nO j e,g8.lt e⟩) (λj hj=> .inl hj)).less (X:=λj=>X j\/vv.ownBlock=some j) (λj hj=>hj.imp (λe=> .inl (.inl e)) id) (.inl ht.gw.xk) (.inl ht.gw.xx) (.inl ht.gw.x1) (.inl ht.gw.x2);exact⟨_,rfl,vv,rfl,g8,λj e=>by have:=nO j e;omega,h6,((ct.trans (au.OH λj e e'=>e (.inl (.inl e')))).trans dM.kp).trans (aM.OH λj e e'=>cR j e' e)⟩
 case cM=>
  refine OQ O (λh0=>?_)$ λh0=>?_
  ·have wP:0<Pt g E v:=by omega
   obtain⟨q1,q2,q3,q4,q5,q6,q7,q8⟩:=ax.back hv wP;have zE:=qK.bp;have ET:=qK.bf;refine An$ qN O$ OW St O$ qV ((OM U3 O O cY O))$ ON O$ QB O$ PH$ Pa O$ OW Zu O$ qV ((OM U3 O O zE O))$ U8 O$ PH$ PM O$ ON O ?_;refine OW Th O$ qV ((OM U3 O O cY O))$ OW TC O$ qV ((OM U3 O O zE O))$ QB O$ PH$ PM O$ OC$ Po.qb (e:=[(0,_),(1,_),(2,_),(3,_),(4,_),(7,_),(8,_),(9,_),(10,_),(11,_),(12,_),(13,_),(45,_)]) ?_;refine SH O$ An$ qN O$ qV ((OM zhN O O ET O))$ ON O$ OW St O$ qV ((OM U3 O O cY O))$ Ro O ?_;rw[show(v:Int)-(Pt g E v:Int)=((v-Pt g E v:Nat):Int) by omega];refine ON O$ PS O ?_;rw[show(behind:Int)+1=((behind+1:Nat):Int) by omega];have lY:=ih wP _ w3 qK;unfold Xj at lY;refine Qp O O (RN zef O O) (lY) ?_;rintro _ w4 ⟨vb,rfl,eg,o9,h4,au⟩
   obtain⟨vo,vc,rfl,Br⟩:∃o c,vb= .slice (some ⟨o,0,none⟩) (OU g (v-Pt g E v)).length c/\w3.heap.size<=o:=by
    rcases eg.shape with⟨-,e⟩|⟨o,c,e,hc⟩
    ·omega
    ·exact⟨o,c,e,o9 o (by rw[e];rfl)⟩
   refine ON O$ qV (Ru (v:= .slice (some ⟨vo,0,none⟩) (OU g (v-Pt g E v)).length vc) O O)$ qV (Ru (v:=I 0) O O)$ SA O$ QW O$ QE O ?_;have jD:=(qK.step au (λj e e'=>e e') h4 (λj hj=> .inl hj)).bp;refine OC$ Po.qb (e:=[(0,_),(2,_),(3,_),(7,_),(8,_),(9,_),(10,_),(11,_),(12,_),(13,_),(58,_)]) ?_;refine SH O$ Pn O$ Rs Pu O$ Rg O$ PH$ Pa O$ Rs Pu O$ OW TC O$ qV (OM U3 O O jD O)$ QB O$ PH$ PM O$ Qg O ?_;exact(bE _ _ ⟨_,rfl,h4.less (λj hj=> .inl hj) h3.xk h3.xx h3.x1 h3.x2,au,λe=>by omega,λ_=>eg,λj e=>by have e':vo=j:=Rx e;omega⟩).qb
  ·refine OD ?_;exact(bE _ _ ⟨_,rfl,h3,Kp.refl _ _,λ_=>rfl,λe=>by omega,λj e=>by cases e⟩).qb
theorem z0O (jx:g.length<50):∀(d:Nat) {v behind:Nat} {X:Nat->Prop} {w:World},TP E v<=d->v<g.length->behind+TP E v<=p.chain->TdM R k x gb pb fb X w->Xj R k x gb pb fb v behind X w
 | 0, v, behind, X, w, hd, hv, BG, ht => ZS jx hv BG ht λh0 => by
   obtain⟨q1,q2,-⟩:=ht.gw.ok.back hv h0
   omega
 | d + 1, v, behind, X, w, hd, hv, BG, ht => ZS jx hv BG ht λh0 X' w' Lz => by
   obtain⟨q1,q2,-⟩:=ht.gw.ok.back hv h0;exact z0O jx d (by omega) (by omega) (by omega) Lz
def SV.zaB (h:SV p g E){v:Nat}(hv:v<g.length):TP E v<=p.chain:=by
 rcases h.ent hv with e|⟨h1,h2,h3,l,e',h4,h5,h6,h7⟩
 ·unfold TP;rw[e];exact Nat.zero_le _
 ·have Ly:=of_decide_eq_true h7;unfold TP;omega
theorem z7g (jx:g.length<50){v:Nat}(hv:v<g.length)(h:UJ R k x X w):Pm prog 171 [ptr k 0,I (v:Int)] w λr w'=>∃vv,r= .tuple #[vv,I 0]/\z48 w' vv (OU g v)/\(∀b,vv.ownBlock=some b->w.heap.size<=b)/\UJ R k x (λj=>X j\/vv.ownBlock=some j) w'/\Kp (λj=>¬X j) w w':=by
 refine py (e:=[(0,_),(1,_)]) func171 O ntmps171 O O$ qN O$ OJ O O (R4 O (cs:=[ptr k 0]) O) ?_
 rintro _ w1 ⟨gb,rfl,LA,ad,uF⟩
 refine Qm O$ An$ qN O$ qV (OM ZH O O uF O)$ ON O$ OJ O O (XZ (cs:=[_]) (zs:=[Value.int .i64 0]) R0 PV O (by kernel_rfl) O O O (by decide)) ?_
 rintro _ w2 ⟨vb,rfl,⟨eX,ae,NZ⟩,LB⟩
 have h2:=(h.ext ad).ext ae
 have ib:=ae.OA uF
 have EU:=h2.cells
 have z1:=ad.size
 have z2:=ae.size
 refine P5 ziR O (z5Z h2 hv LB.rd) ?_
 rintro _ w2 ⟨rfl,rfl⟩
 refine QW O$ QE O$ Qg O$ qN O$ qV (OM ZH O O ib O)$ Pq O$ OW VG O$ OW Yj O$ qV (Pp (news:=Vl p) U75 O RD O (OP.cells (i:=2) (n:=5) EU O) O)$ OJ O O (Ry (cs:=[_,_,_,_,_]) RD O) ?_
 rintro _ w3 ⟨pb,rfl,se,ah,sk⟩
 refine OT O (PG (news:=Vl p) RD O O O O sk (by simp)) ?_
 rintro w4 ⟨jD,au⟩
 replace jD:OP w4 pb [I (p.Pb:Int),I (p.chain:Int),I (p.interval:Int),I (p.zeta:Int),I (p.most:Int)] 75:=jD
 have dU:Ext w2 w4:=ah.It au (λj e=>by omega)
 refine qM O$ OJ O O (Ry (cs:=[_]) zeg O) ?_
 rintro _ w5 ⟨fb,rfl,O0,aU,du⟩
 refine qM O$ qV (ymf (first:=[]) (caps:=[.tmp 2,.tmp 7,.tmp 8]) O O)$ OT O (QG zeg O O O du (by simp)) ?_
 rintro w6 ⟨zF,aM⟩
 have cU:Ext w4 w6:=aU.It aM (λj e=>by omega)
 have iM:=dU.trans cU
 have z6:=iM.size
 have lg:=ib.lt
 have lp:=jD.lt
 have lf:=zF.lt
 have z24:=dU.size
 have z3:=ah.size
 have z46:=cU.size
 have iO:=(ad.trans ae).trans iM
 have h6:UJ R k x (λj=>X j\/j=gb\/j=pb\/j=fb) w6:=h.grow iO (λj hj=>hj.imp id λe=>by omega) (λj hj=> .inl hj)
 have xE:TdM R k x gb pb fb (λj=>X j\/j=gb\/j=pb\/j=fb) w6:=⟨h6,iM.OA ib,cU.OA jD,zF,.inr (.inl O),.inr (.inr (.inl O)),.inr (.inr (.inr O))⟩
 have zH:=xE.bf
 have fj:=z0O jx _ (behind:=0) (Nat.le_refl _) hv (by have:=h.ok.zaB hv;omega) xE
 unfold Xj at fj
 refine qM O$ qV (OM zhN O O zH O)$ ON O$ Qp O O (RN zef O O) (fj) ?_
 rintro _ w7 ⟨vv,rfl,hH,pB,h7,aB⟩
 refine qV (Ru (v:=vv) O O)$ qV (Ru (v:=I 0) O O)$ Qm O$ Po.qb (e:=[(4,_),(5,_)]) ?_
 refine OB func171 O ?_
 exact⟨_,rfl,vv,rfl,hH,λj e=>by have:=pB j e;omega,h7.less (λj hj=>hj.imp .inl id) (.inl h.xk) (.inl h.xx) (.inl h.x1) (.inl h.x2),iO.kp.trans (aB.OH λj e e'=>e (.inl e'))⟩
end
def stV (b:Bool):Value:= .int .u8 (if b then 1 else 0)
structure XI (w:World)(m gi:Nat)(L:List Bool):Prop where
 OA:OP w m [I 2,.slice (some ⟨gi,0,none⟩) L.length L.length,.slice none 0 0,.bool false] 107
 sl:Sl w (.slice (some ⟨gi,0,none⟩) L.length L.length) 190 1 L.length (L.map stV)
 ne:gi≠m
 n:L.length<=4096
 n2:2<=L.length
section
variable {w w':World}{m gi:Nat}{L:List Bool}{S:Nat->Prop}
def XI.kp (h:XI w m gi L)(hk:Kp S w w')(h1:¬S m)(h2:¬S gi):XI w' m gi L:=
 ⟨hk.OA h.OA h1,h.sl.kp hk λg e=>by cases e;exact h2,h.ne,h.n,h.n2⟩
theorem XI.ext (h:XI w m gi L)(hx:Ext w w'):XI w' m gi L:=h.kp (S:=λ_=>False) hx id id
def XI.ltm (h:XI w m gi L):m<w.heap.size:=h.OA.lt
def XI.ltg (h:XI w m gi L):gi<w.heap.size:=h.sl.lt O
theorem XI.get (h:XI w m gi L){i:Nat}{b:Bool}(hi:L[i]? =some b):w.cell? ⟨gi,0+i*1,none⟩=some (stV b):=
 PU h.sl.rd (by rw[List.getElem?_map,hi];rfl)
def z9D (B:Nat)(hB:2<=B/\B<=4096)(w:World):Pm prog 21 [I 2,I (B:Int)] w λv w'=>∃m gi,v= .tuple #[ptr m 0,I 0]/\XI w' m gi (List.replicate B false)/\w.heap.size<=m/\w.heap.size<=gi/\Ext w w':=by
 refine py (e:=[(0,_),(1,_)]) func21 O ntmps21 O O$ qN O$ Qm O$ PK O$ Qw O$ PH$ Pa O$ ON O$ QB O$ PH$ PM O$ Pa O$ QB O$ PH ?_
 refine PM O$ Qg O$ Qt O$ OJ O O (pmk (c:=B) (n:=B) VF z2K O O O (Nat.le_refl _) (by omega) (by simp only[maxLen];omega)) ?_
 rintro _ w1 ⟨gi,rfl,⟨uz,ad,ai⟩,jZ⟩
 refine qV (Sa (cs:=[_,_,_,_]) zgF O zgB O O)$ OJ O O (R4 O (cs:=[I 2,.slice (some ⟨gi,0,none⟩) B B,.slice none 0 0,.bool false]) O) ?_
 rintro _ w2 ⟨m,rfl,hm,ae,ak⟩
 refine Qm O$ OB func21 O ?_
 have:=ad.size
 have lg:=jZ.lt (g:=gi) O
 refine⟨_,rfl,m,gi,rfl,⟨by rw[List.length_replicate];exact ak,?_,by omega,by rw[List.length_replicate];omega,by rw[List.length_replicate];omega⟩,by omega,by omega,ad.trans ae⟩
 rw[List.length_replicate,List.map_replicate]
 exact jZ.ext ae
def Qd (L:List Bool)(s n:Nat)(b:Bool):List Bool:=L.take s++(List.replicate n b++L.drop (s+n))
theorem PZ {L:List Bool}{s n:Nat}{b:Bool}(h:s+n<=L.length):(Qd L s n b).length=L.length:=by
 unfold Qd
 rw[List.length_append,List.length_append,List.length_take,List.length_replicate,List.length_drop];omega
theorem z8M (L:List Bool)(s:Nat)(b:Bool):Qd L s 0 b=L:=by simp[Qd]
theorem zad {L:List Bool}{s n:Nat}{b:Bool}(h:s+n<L.length):(Qd L s n b).set (s+n) b=Qd L s (n+1) b:=by
 have h1:(L.take s++List.replicate n b).length=s+n:=by rw[List.length_append,List.length_take,List.length_replicate];omega
 unfold Qd
 rw[<-List.append_assoc,List.set_append_right _ _ (by omega),h1,Nat.sub_self,List.drop_eq_getElem_cons h,List.set_cons_zero,List.replicate_succ',List.append_assoc,List.append_assoc]
 rfl
def z2p (h:XI w m gi L)(s n:Nat)(b:Bool)(hs:s+n<=L.length):Pm prog 123 [ptr m 0,.agg #[I (s:Int),I (n:Int)],stV b] w λv w'=>v= .tuple #[]/\XI w' m gi (Qd L s n b)/\Kp (λk=>k=gi) w w':=by
 have hn:=h.n
 refine py (e:=[(0,_),(1,_),(2,_)]) func123 O ntmps123 O O$ qN O$ OJ O O (R4 O (cs:=[I (s:Int),I (n:Int)]) O) ?_
 rintro _ w1 ⟨b4,rfl,fZ,ad,aK⟩
 have lg:=h.ltg
 have l4:=aK.lt
 have h1:=h.ext ad
 refine qM O$ OW QZ O$ qV (OM U3 O O aK O)$ ON O$ OC$ OE$ Rr (α:=Nat) (0) (λi=>[(0,ptr m 0),(2,stV b),(4,ptr b4 0),(8,I (n:Int)),(9,I (i:Int))]) (λi w'=>XI w' m gi (Qd L s i b)/\Kp (λk=>k=gi) w1 w'/\i<=n) (λi=>n-i) ?hI ?hround
 case hI=>exact⟨by rw[z8M];exact h1,Kp.refl _ _,Nat.zero_le _⟩
 case hround=>
  rintro i w2 ⟨h2,am,hi⟩ ih
  try dsimp only
  refine qN O$ Qw O$ OC$ An$ OQ O (λh0=>?_)$ λh0=>?_
  ·have ao:i<n:=by omega
   have hl:=PZ (L:=L) (s:=s) (n:=i) (b:=b) (by omega);have ak:=h2.OA;have bC:=am.OA aK (by omega);have hg:=Ext.P4 w2;refine OD$ QA$ Pn O$ OV O$ P9 [10] (λw'=>Ext w2 w') (by kernel_rfl) O$ PQ 0 O O (hg)$ Pl 1 O (Q8 O) hg$ Pl 2 O (Pr UQ O) hg$ qL 3 O (λ_ h=>(OM VF O O (h.OA ak) O)) hg$ Pl 4 O (Pr QT O) hg$ qL 5 O (λ_ h=>(OM U3 O O (h.OA bC) O)) hg$ PQ 6 O O (hg)$ Pl 7 O (UO O O (by omega)) hg$ PQ 8 O O (hg) ?_;refine Pl 9 O (PR VF z2K O O (by omega)) hg$ Tt [10]$ qO 10$ PE (i:=10) O O (RQ z2K O O O (h2.ext hg).sl (by rw[List.length_map,hl];omega)) ?_;rintro w3 ⟨da,av⟩;refine⟨trivial,?_⟩
   have h3:XI w3 m gi (Qd L s (i+1) b):=by
    refine⟨?_,?_,h2.ne,by rw[PZ (by omega)];exact h.n,by rw[PZ (by omega)];exact h.n2⟩
    ·rw[PZ (by omega),<-hl];exact av.OA (hg.OA ak) (λe=>h2.ne e.symm)
    ·rw[show 0+(s+i)*1=s+i by omega,<-List.map_set,zad (by omega)] at da;rw[PZ (by omega),<-hl];exact da
   refine qE$ Oz$ OK O$ PS O$ ON O$ OC ?_;exact(ih (i+1) _ ⟨h3,am.trans (hg.kp.trans av),by omega⟩ (by omega)).qb
  ·have ao:i=n:=by omega
   subst ao;refine OO O$ Qa func123 O ?_;exact⟨_,rfl,rfl,h2,ad.kp.trans am⟩
end
structure Pre (L:List Bool)(a:Nat):Prop where
 a2:2<=a
 le:a<=L.length
 tk:∀i,2<=i->i<a->L[i]? =some true
 fr:∀i,a<=i->i<L.length->L[i]? =some false
section
variable {w w':World}{m gi a:Nat}{L:List Bool}{S:Nat->Prop}
def YN {l bm:Nat}(hm:XI w m gi L)(hp:Pre L a)(ha:a<L.length)(mc:OP w bm [ptr m 0] 67)(J:World->Prop)(hJ:∀w w',J w->Ext w w'->J w')
  (hround:∀w',Ext w w'->z1T prog l [.agg #[I (a:Int),I ((L.length-a:Nat):Int)]] w' λv w''=>(v= .bool true/\J w''/\OP w'' bm [ptr m 0] 67/\XI w'' m gi L)\/(v= .bool false/\J w'')):
  Pm prog 90 [.func (.yield l) #[] #[],ptr bm 0] w λv w'=>v= .tuple #[]/\J w':=by
 have hn:=hm.n
 have tV:=hp.a2
 have hB:=hm.OA
 refine py (e:=[(0,_),(1,_)]) func90 O ntmps90 O O$ qN O$ qV ((OM U67 O O mc O))$ Pq O$ OW z8I O$ qV ((OM U3 O O hB O))$ OV O$ OE$ Rr (α:=Nat) (2) (λi=>[(0,.func (.yield l) #[] #[]),(1,ptr bm 0),(3,I (i:Int))]) (λi w'=>OP w' bm [ptr m 0] 67/\XI w' m gi L/\((2<=i/\i<=a/\Ext w w')\/(i=L.length+1/\J w'))) (λi=>L.length+1-i) ?hI ?hround
 case hI=>exact⟨mc,hm,.inl ⟨Nat.le_refl _,tV,Ext.refl _⟩⟩
 case hround=>
  rintro i w1 ⟨uO,pS,gI⟩ ih;have ai:=pS.OA
  try dsimp only
  refine PK O$ qV ((OM U67 O O uO O))$ Pq O$ OW UQ O$ qV ((OM VF O O ai O))$ Rs VF O$ Qw O$ OC$ OQ O (λh0=>?_)$ λh0=>?_
  ·have uP : 2 <= i /\ i <= a /\ Ext w w1 := by
    rcases gI with h| h
    ·exact h
    ·omega
   obtain⟨dT,O3,ad⟩:=uP;refine OD$ QA$ Pn O$ qV (Sa (cs:=[_,_]) QY O zjC O O)$ OJ O O (Ry (cs:=[_,_]) QY O) ?_;rintro _ w2 ⟨b4,rfl,fZ,ae,aK⟩;refine OT O (PG (news:=[I (i:Int),I 0]) QY O O O O aK (by simp)) ?_;rintro w3 ⟨en,av⟩;replace en:OP w3 b4 [I (i:Int),I 0] 118:=en;have aZ:Ext w1 w3:=ae.It av (λj e=>by omega);have uQ:=aZ.OA uO;have lT:=pS.ext aZ;have ar:=lT.OA;refine OC$ QA$ Rr (α:=Nat) (i) (λj=>[(0,.func (.yield l) #[] #[]),(1,ptr bm 0),(3,I (j:Int)),(4,ptr b4 0)]) (λj w'=>w'=w3/\i<=j/\j<=L.length/\(i<j->i=a)) (λj=>L.length-j) ?hI ?hround
   case hI=>exact⟨rfl,Nat.le_refl _,by omega,λh=>absurd h (by omega)⟩
   case hround =>
    rintro j w4 ⟨rfl,gW,O4,EV⟩ ih2
    try dsimp only
    rcases Nat.lt_or_ge j L.length with hj|hj
    ·obtain⟨b,hb⟩:∃b,L[j]? =some b:=⟨_,List.getElem?_eq_getElem hj⟩;have bj:=lT.get hb;refine PK O$ qV ((OM U67 O O uQ O))$ Pq O$ OW UQ O$ qV ((OM VF O O ar O))$ Rs VF O$ Qw O$ Rz$ ON O$ qV ((OM U67 O O uQ O))$ Pq O$ OW UQ O$ qV ((OM VF O O ar O))$ ON O ?_;refine qV (PR VF z2K O O (by omega)) ?_
     cases b with
     | true =>
       refine qV (Ps (v:= .int .u8 1) zcf O O bj) ?_
       have LC:i<a:=by
        rcases Nat.lt_or_ge i a with h| h
        ·exact h
        ·have:=hp.fr j (by omega) hj;rw[this] at hb;cases hb
       have sC:j=i:=by
        rcases Nat.lt_or_ge i j with h| h
        ·have:=EV h;omega
        ·omega
       subst sC;refine Rg O$ PH$ QX O$ OC$ OL O$ OO O$ Pn O$ OW QT O$ qV (OM U3 O O en O)$ Ro O$ OW QZ O$ OT O (QG PV O O O en (by simp)) ?_;rintro w5 ⟨aO,aj⟩;rw[show(j:Int)-(j:Int)=0 by omega] at aO;replace aO:OP w5 b4 [I (j:Int),I 0] 118:=aO;have cw:Ext w1 w5:=aZ.It aj (λq e=>by have:=ae.size;omega);refine qM O$ OW QZ O$ qV (OM U3 O O aO O)$ QB O$ ON O$ QL$ QL$ PM O$ Qg O$ Oz$ R6 O$ PS O$ OV O ?_
       exact(ih (j+1) w5 ⟨cw.OA uO,pS.ext cw,.inl ⟨by omega,by omega,ad.trans cw⟩⟩ (by omega)).qb
     | false =>
       refine qV (Ps (v:= .int .u8 0) zcf O O bj)$ Rg O$ Rz$ QX O ?_
       have uR:i=a:=by
        rcases Nat.lt_or_ge i a with h| h
        ·rcases Nat.lt_or_ge i j with h2|h2
         ·exact EV h2
         ·have e:j=i:=by omega
          subst e;have:=hp.tk j dT h;rw[this] at hb;cases hb
        ·omega
       refine OC$ OS O$ OD$ OE$ R6 O$ PS O$ OV O$ Oz ?_;exact(ih2 (j+1) _ ⟨rfl,by omega,by omega,λ_=>uR⟩ (by omega)).qb
    ·have LD:j=L.length:=by omega
     subst LD;have uR:=EV (by omega);subst uR;refine PK O$ qV ((OM U67 O O uQ O))$ Pq O$ OW UQ O$ qV ((OM VF O O ar O))$ Rs VF O$ Qw O$ PH$ ON O$ QL$ QL$ QL$ QL$ PM O ?_;refine OC$ OL O$ OO O$ Pn O$ OW QT O$ qV (OM U3 O O en O)$ Ro O$ OW QZ O$ OT O (QG PV O O O en (by simp)) ?_;rintro w5 ⟨aO,aj⟩;rw[show(L.length:Int)-(i:Int)=((L.length-i:Nat):Int) by omega] at aO;replace aO:OP w5 b4 [I (i:Int),I ((L.length-i:Nat):Int)] 118:=aO;have cw:Ext w1 w5:=aZ.It aj (λq e=>by have:=ae.size;omega);refine qM O$ OW QZ O$ qV (OM U3 O O aO O)$ QB O$ Rz$ Pa O$ qV (Pp (news:=[I (i:Int),I ((L.length-i:Nat):Int)]) Xm O QY O (OP.cells (n:=2) aO O) O)$ z3i O O (yy O O) (hround w5 (ad.trans cw)) ?_;rintro v w6 hv;rcases hv with⟨rfl,zI,EW,LE⟩|⟨rfl,zI⟩
     ·refine qV ((RZ O))$ QX O$ Qg O$ Oz$ R6 O$ PS O$ OV O ?_;exact(ih (L.length+1) w6 ⟨EW,LE,.inr ⟨rfl,zI⟩⟩ (by omega)).qb
     ·refine qV ((RZ O))$ QX O$ OC$ OS O$ OB func90 O ?_;exact⟨_,rfl,rfl,zI⟩
  ·rcases gI with⟨-,h,-⟩|⟨-,zI⟩
   ·omega
   ·refine OO O$ Qa func90 O ?_;exact⟨_,rfl,rfl,zI⟩
def YY (w:World)(m:Nat):Pm prog 56 [ptr m 0] w λv w'=>∃bm,v= .func (.func 90) #[] #[ptr bm 0]/\OP w' bm [ptr m 0] 67/\w.heap.size<=bm/\Ext w w':=by
 refine py (e:=[(0,_)]) func56 O ntmps56 O O$ qN O$ OJ O O (R4 O (cs:=[ptr m 0]) O) ?_
 rintro _ w1 ⟨bm,rfl,mc,ad,ai⟩
 refine QS O$ qV (ymf (first:=[]) (caps:=[.tmp 1]) O O)$ OV O$ OB func56 O ?_
 exact⟨_,rfl,bm,rfl,ai,by omega,ad⟩
theorem z5O (h:XI w m gi L)(hp:Pre L a)(ha:a<L.length):Pm prog 25 [ptr m 0] w λv w'=>v=I ((L.length-a:Nat):Int)/\Ext w w':=by
 have hn:=h.n
 refine py (e:=[(0,_)]) func25 O ntmps25 O O$ qN O$ QS O$ OJ O O (Ry (cs:=[_]) PV O) ?_
 rintro _ w1 ⟨b3,rfl,dG,ad,ar⟩
 refine OT O (QG PV O O O ar (by simp)) ?_
 rintro w2 ⟨dv,am⟩
 replace dv:OP w2 b3 [I 0] 3:=dv
 have ae:Ext w w2:=ad.It am (λj e=>by omega)
 refine OC$ PK O$ qV (z4I U67 O O)$ OC$ OS O$ Pn O$ P5 zgP O (YY w2 m) ?_
 rintro _ w3 ⟨bm,rfl,mc,oC,ah⟩
 have ck:=ae.trans ah
 have eN:=ah.OA dv
 have lT:=h.ext ck
 have l3:=eN.lt
 have l32:=dv.lt
 have lm:=mc.lt
 have lmm:=h.ltm
 have lmg:=h.ltg
 have z1:=ad.size
 refine OC$ OE$ RG (ps:=[9]) (p:=[]) (q:=[_]) O zh1 ?_
 rintro l wl cE eP cD hD Rc bK dx
 have EX:=zcm bK dx
 have zl:=cE.size
 refine Pm.mono (YN (lT.ext cE) hp ha (cE.OA mc)
  (λw'=>Rc .ready none w'/\OP w' b3 [I ((L.length-a:Nat):Int)] 3/\Kp (λk=>k=l\/k=b3) wl w')
  (λw w' h hx=>⟨hx.kp.rc (S:=λ_=>False) bK h.1 id,hx.OA h.2.1,h.2.2.trans hx.kp⟩) ?_) ?_
 ·intro w4 aA;have jc:=Kp.rc (S:=λ_=>False) aA bK dx id;have eC:=aA.OA (cE.OA eN);have z4:=aA.size;refine Sd bK jc O O$ OK O$ OJ O O (Ry (cs:=[_,_]) QY O) ?_;rintro _ w5 ⟨b4,rfl,fZ,aU,aK⟩;refine OT O (PG (news:=[I (a:Int),I ((L.length-a:Nat):Int)]) QY O O O O aK (by simp)) ?_;rintro w6 ⟨bU,aM⟩;replace bU:OP w6 b4 [I (a:Int),I ((L.length-a:Nat):Int)] 118:=bU;have cU:Ext w4 w6:=aU.It aM (λj e=>by omega);have LF:=Kp.rc (S:=λ_=>False) cU bK jc id;have z46:=cU.size;have l4:=bU.lt;refine OC$ run_beginRound O bK LF ?_;rintro w7 h7 aB;have kq:=aB.OA (cU.OA eC) (by omega);have bq:=aB.OA bU (by omega);refine OE$ OK O$ qV ((OM U3 O O kq O))$ OW QZ O$ qV ((OM U3 O O bq O))$ PS O ?_;rw[show(0:Int)+((L.length-a:Nat):Int)=((L.length-a:Nat):Int) by omega];refine OT O (QG PV O O O kq (by simp)) ?_;rintro w8 ⟨nR,aL⟩;have h8:=Kp.rc aL bK h7 (by omega);refine OC$ Oz$ RA bK h8 ?_;intro w9 h9 aw;have iw:Kp (λk=>k=l\/k=b3) w4 w9:=((cU.kp.trans (aB.OH λk e=> .inl e)).trans (aL.OH λk e=> .inr e)).trans (aw.OH λk e=> .inl e);exact .inl ⟨rfl,⟨h9,aw.OA nR (by omega),aA.kp.trans iw⟩,iw.OA (aA.OA (cE.OA mc)) (by omega),((lT.ext cE).ext aA).kp iw (by omega) (by omega)⟩
 ·rintro v wz ⟨rfl,jc,IB,cZ⟩;refine⟨_,_,jc,by simp,λwy de=>?_⟩;have zz:=cZ.size;have zy:=de.size;have LG:=de.OA IB (by omega);have jE:=de.heap (cZ.heap hD (by omega)) (by omega);refine Oz$ qN O$ qV (OM U3 O O LG O)$ OV O$ z5u (by simp) (Ts jE) func25 O ?_;have z3:=ah.size;have bQ:Kp (λk=>k=w3.heap.size) wy (Rl [.mk w3.heap.size] wy):=Q4 wy w3.heap.size (.deferred none);have EY:Kp (λk=>k=l\/k=b3\/k=w3.heap.size) w3 (Rl [.mk w3.heap.size] wy):=((cE.kp.trans (cZ.OH λk e=>by omega)).trans (de.OH λk e=>by omega)).trans (bQ.OH λk e=>by omega);exact⟨_,rfl,rfl,ck.It EY (λk e=>by omega)⟩
end
section
variable {w w':World}{m gi a:Nat}{L:List Bool}{S:Nat->Prop}
theorem z3P (h:XI w m gi L)(hp:Pre L a){n:Nat}(dh:1<=n)(pW:a+n<=L.length):Pm prog 78 [ptr m 0,I (n:Int)] w λv w'=>v= .tuple #[.agg #[I (a:Int),I (n:Int)],I 0]/\XI w' m gi (Qd L a n true)/\Kp (λk=>k=gi) w w':=by
 have hn:=h.n
 refine py (e:=[(0,_),(1,_)]) func78 O ntmps78 O O$ qN O$ OJ O O (R4 O (cs:=[ptr m 0]) O) ?_
 rintro _ w1 ⟨b2,rfl,bN,ad,ak⟩
 refine OJ O O (R4 O (cs:=[I (n:Int)]) O) ?_
 rintro _ w2 ⟨b3,rfl,dG,ae,ar⟩
 refine OJ O O (Ry (cs:=[_,_]) QY O) ?_
 rintro _ w3 ⟨b4,rfl,fZ,ah,aK⟩
 refine OJ O O (Ry (cs:=[_]) z2Y O) ?_
 rintro _ w4 ⟨b5,rfl,gR,aA,aH⟩
 have l2:=ak.lt
 have l3:=ar.lt
 have l4:=aK.lt
 have l5:=aH.lt
 have z1:=ad.size
 have z2:=ae.size
 have z3:=ah.size
 have z4:=aA.size
 have fP:=aA.OA (ah.OA (ae.OA ak))
 have eC:=aA.OA (ah.OA ar)
 have cC:=aA.OA aK
 refine OC$ QA$ qN O$ qV ((OM U67 O O fP O))$ qV (PY U67 O O)$ OV O$ OL O$ qN O$ qV ((OM U3 O O eC O))$ Qw O$ PH$ OV O$ SH O$ Oz ?_
 refine An$ qN O$ qV ((OM U67 O O fP O))$ P5 zgP O (YY w4 m) ?_
 rintro _ w5 ⟨bm,rfl,mc,oC,aU⟩
 have bS:=(((ad.trans ae).trans ah).trans aA).trans aU
 have sJ:=h.ext bS
 have lm:=mc.lt
 have lmm:=h.ltm
 have lmg:=h.ltg
 have z5:=aU.size
 refine OC$ OE$ RG (ps:=[17]) (p:=[]) (q:=[_]) O zh1 ?_
 rintro l wl cE eP cD hD Rc bK dx
 have EX:=zcm bK dx
 have zl:=cE.size
 have yv:=aU.trans cE
 refine Pm.mono (YN (sJ.ext cE) hp (by omega) (cE.OA mc)
  (λw'=>Rc .done (some .ret) w'/\OP w' b4 [I (a:Int),I (n:Int)] 118/\OP w' b5 [I 0] 44/\XI w' m gi (Qd L a n true)/\Kp (λk=>k=l\/k=b4\/k=b5\/k=gi) wl w')
  (λw w' h hx=>⟨hx.kp.rc (S:=λ_=>False) bK h.1 id,hx.OA h.2.1,hx.OA h.2.2.1,h.2.2.2.1.ext hx,h.2.2.2.2.trans hx.kp⟩) ?_) ?_
 ·intro w6 aR;have jc:=Kp.rc (S:=λ_=>False) aR bK dx id;have z6:=aR.size;refine Sd bK jc O O$ OK O$ OJ O O (Ry (cs:=[_,_]) QY O) ?_;rintro _ w7 ⟨b6,rfl,nN,co,aT⟩;refine OT O (PG (news:=[I (a:Int),I ((L.length-a:Nat):Int)]) QY O O O O aT (by simp)) ?_;rintro w8 ⟨er,aL⟩;replace er:OP w8 b6 [I (a:Int),I ((L.length-a:Nat):Int)] 118:=er;have iN:Ext w6 w8:=co.It aL (λj e=>by omega);have pX:=Kp.rc (S:=λ_=>False) iN bK jc id;have z8:=iN.size;have l6:=er.lt;refine OC$ run_beginRound O bK pX ?_;rintro w9 h9 aw;have rp:=(yv.trans aR).trans iN;have zJ:=aw.OA (rp.OA eC) (by omega);have EZ:=aw.OA (rp.OA fP) (by omega);have iS:=aw.OA er (by omega);have LH:=((((sJ.ext cE).ext aR).ext iN).kp aw (by omega) (by omega));refine OE$ qN O$ OW QZ O$ qV ((OM U3 O O iS O))$ qV ((OM U3 O O zJ O))$ U8 O$ Rz$ OC$ OS O$ qN O$ qV ((OM U3 O O zJ O))$ OW QZ O$ OT O (QG PV O O O iS (by simp)) ?_;rintro w10 ⟨iv,aC⟩;replace iv:OP w10 b6 [I (a:Int),I (n:Int)] 118:=iv;have zK:=aC.OA EZ (by omega);have F0:=LH.kp aC (by omega) (by omega);have eI:=Kp.rc aC bK h9 (by omega);refine qM O$ qV (OM U67 O O zK O)$ qV (Pp (news:=[I (a:Int),I (n:Int)]) Xm O QY O (OP.cells (n:=2) iv O) O)$ P5 zdM O (z2p F0 a n true pW) ?_;rintro _ w11 ⟨rfl,F9,bz⟩;have zL:=bz.OA iv (by omega);have zM:=bz.OA (aC.OA (aw.OA (rp.OA cC) (by omega)) (by omega)) (by omega);have zN:=bz.OA (aC.OA (aw.OA (rp.OA aH) (by omega)) (by omega)) (by omega);have qf:=Kp.rc bz bK eI (by omega);refine OC$ Po.qb (e:=[(4,_),(5,_),(6,_)]) ?_;refine qN O$ qV (Pp (news:=[I (a:Int),I (n:Int)]) Xm O QY O (OP.cells (n:=2) zL O) O)$ OT O (PG (news:=[I (a:Int),I (n:Int)]) QY O O O O zM (by simp)) ?_;rintro w12 ⟨zO,bA⟩;refine OT O (QG z2Y O O O (bA.OA zN (by omega)) (by simp)) ?_;rintro w13 ⟨zP,dy⟩;have wQ:=Kp.rc dy bK (Kp.rc bA bK qf (by omega)) (by omega);refine OC ?_
  -- AT: Code.ret
  refine Tf bK wQ ?_;intro w14 LI cH
  exact .inr ⟨rfl,LI,cH.OA (dy.OA zO (by omega)) (by omega),cH.OA zP (by omega),((F9.kp bA (by omega) (by omega)).kp dy (by omega) (by omega)).kp cH (by omega) (by omega),
   (((((((aR.kp.trans iN.kp).trans (aw.OH λk e=>by omega)).It aC (λk e=>by omega)).trans (bz.OH λk e=>by omega)).trans (bA.OH λk e=>by omega)).trans (dy.OH λk e=>by omega)).trans (cH.OH λk e=>by omega))⟩
 ·rintro v wz ⟨rfl,jc,Fa,rq,LJ,cZ⟩;refine⟨_,_,jc,by simp,λwy de=>?_⟩;have zz:=cZ.size;have zy:=de.size;have Fb:=de.OA Fa (by omega);have Fc:=de.OA rq (by omega);have jE:=de.heap (cZ.heap hD (by omega)) (by omega);have bQ:=Q4 wy w5.heap.size (.deferred none);have LK:=bQ.OA Fb (by omega);have LL:=bQ.OA Fc (by omega);refine T3 (by simp) (Ts jE) func78 (.cell Xm O QY O (OP.cells (n:=2) LK (news:=[_,_]) O) O (.cell1 U44 O O ((LL).cell _) .nil)) ?_;have Fe:Kp (λk=>k=gi) w (Rl [.mk w5.heap.size] wy):=((((bS.kp.trans cE.kp).It cZ (λk e=>by omega)).It de (λk e=>by omega)).It bQ (λk e=>by omega));exact⟨_,rfl,rfl,(LJ.kp de (by omega) (by omega)).kp bQ (by omega) (by omega),Fe⟩
end
section
variable {w w':World}{m gi:Nat}{L:List Bool}
def z9L (h:XI w m gi L)(s n:Nat)(dh:1<=n)(dw:2<=s)(jd:s+n<=L.length):Pm prog 133 [ptr m 0,.agg #[I (s:Int),I (n:Int)]] w λv w'=>v= .bool true/\Ext w w':=by
 have hn:=h.n
 refine py (e:=[(0,_),(1,_)]) func133 O ntmps133 O O$ qN O$ OJ O O (R4 O (cs:=[I (s:Int),I (n:Int)]) O) ?_
 rintro _ w1 ⟨b3,rfl,dG,ad,ar⟩
 have hg:=Ext.P4 w1
 have uS:=(h.ext ad).OA
 refine OV O$ An$ QV (λw'=>Ext w1 w') O$ OG 0 O (Pr QZ O) hg$ qT 1 O (λ_ h=>(OM U3 O O (h.OA ar) O)) hg$ OG 2 O (yge O O) hg$ TL$ OZ 3 O O (hg)$ OG 4 O (Pr QT O) hg$ qT 5 O (λ_ h=>(OM U3 O O (h.OA ar) O)) hg$ OZ 6 O O (hg)$ OG 7 O (Q8 O) hg$ OG 8 O (Pr z8I O) hg$ qT 9 O (λ_ h=>(OM U3 O O (h.OA uS) O)) hg ?_
 refine OG 10 O (yge O O) hg$ TL$ OG 11 O (Uu O O) hg$ OZ 12 O O (hg)$ OG 13 O (Pr QT O) hg$ qT 14 O (λ_ h=>(OM U3 O O (h.OA ar) O)) hg$ OZ 15 O O (hg)$ OG 16 O (Q8 O) hg$ OG 17 O (Pr UQ O) hg$ qT 18 O (λ_ h=>(OM VF O O (h.OA uS) O)) hg$ OG 19 O (SE VF O) hg$ OG 20 O (ylt O O) hg$ TL$ OG 21 O (Uu O O) hg ?_
 refine OZ 22 O O (hg)$ OG 23 O (Pr QZ O) hg$ qT 24 O (λ_ h=>(OM U3 O O (h.OA ar) O)) hg$ OZ 25 O O (hg)$ OG 26 O (Q8 O) hg$ OG 27 O (Pr UQ O) hg$ qT 28 O (λ_ h=>(OM VF O O (h.OA uS) O)) hg$ OG 29 O (SE VF O) hg$ OG 30 O (Pr QT O) hg$ qT 31 O (λ_ h=>(OM U3 O O (h.OA ar) O)) hg$ OG 32 O (Xw O O (by omega)) hg$ OG 33 O (Z4 O O) hg$ TL$ OG 34 O (Uu O O) hg ?_
 refine OG 35 O (Rp O) hg$ qE$ Po.qb (e:=[(4,_)]) ?_
 refine OB func133 O ?_
 exact⟨_,rfl,rfl,ad.trans hg⟩
def z68 {b5:Nat}(c d:Bool)(hB:OP w b5 [stV d] 190)(vY:c=d):Pm prog 168 [stV c,ptr b5 0] w λv w'=>v= .bool false/\w'=w:=by
 subst vY
 cases c with
 | true =>
   replace hB:OP w b5 [.int .u8 1] 190:=hB;show Pm prog 168 [.int .u8 1,ptr b5 0] w _;refine py (e:=[(0,_),(1,_)]) func168 O ntmps168 O O$ qN O$ QW O$ qV (OM zcf O O hB O)$ QE O$ PH$ OV O$ OB func168 O ?_
   exact⟨_,rfl,rfl,rfl⟩
 | false =>
   replace hB:OP w b5 [.int .u8 0] 190:=hB;show Pm prog 168 [.int .u8 0,ptr b5 0] w _;refine py (e:=[(0,_),(1,_)]) func168 O ntmps168 O O$ qN O$ QW O$ qV (OM zcf O O hB O)$ QE O$ PH$ OV O$ OB func168 O ?_;exact⟨_,rfl,rfl,rfl⟩
def z94 {b5 b o n cap:Nat}(hn:n<=4096)(c:Bool)(hB:OP w b5 [stV c] 190)(hR:Rd w (.slice (some ⟨b,o,none⟩) n cap) 1 n (List.replicate n (stV c))):
  Pm prog 192 [.slice (some ⟨b,o,none⟩) n cap,.func (.func 168) #[] #[ptr b5 0]] w λv w'=>v=I (-1)/\w'=w:=by
 refine py (e:=[(0,_),(1,_)]) func192 O ntmps192 O O$ Qx O$ PK O$ Rs VF O$ ON O$ OC$ OE$ Rr (α:=Nat) (0) (λi=>[(0,.slice (some ⟨b,o,none⟩) n cap),(1,.func (.func 168) #[] #[ptr b5 0]),(7,I (n:Int)),(8,I (i:Int))]) (λi w'=>w'=w/\i<=n) (λi=>n-i) ?hI ?hround
 case hI=>exact⟨rfl,Nat.zero_le _⟩
 case hround=>
  rintro i w1 ⟨rfl,hi⟩ ih
  try dsimp only
  refine qN O$ Qw O$ OC$ An$ OQ O (λh0=>?_)$ λh0=>?_
  ·refine OD$ QA$ Pn O$ QS O$ Pa O$ ON O$ qV (PR VF z2K O O (by omega))$ qV (Ps (v:=stV c) zcf O O (PU hR (by rw[List.getElem?_replicate,if_pos (by omega)]))) ?_;refine Qp O O (RN zhh O O) (z68 c c hB O) ?_;rintro _ w1 ⟨rfl,rfl⟩;refine Qg O$ Oz$ OK O$ PS O$ ON O$ OC ?_;exact(ih (i+1) _ ⟨rfl,by omega⟩ (by omega)).qb
  ·refine OO O$ Qx O$ OB func192 O ?_;exact⟨_,rfl,rfl,rfl⟩
def zab {b5 b o n cap:Nat}(hn:n<=4096)(c:Bool)(hB:OP w b5 [stV c] 190)(hR:Rd w (.slice (some ⟨b,o,none⟩) n cap) 1 n (List.replicate n (stV c))):
  Pm prog 167 [.slice (some ⟨b,o,none⟩) n cap,.func (.func 168) #[] #[ptr b5 0]] w λv w'=>v= .bool false/\w'=w:=by
 refine py (e:=[(0,_),(1,_)]) func167 O ntmps167 O O$ qN O$ QS O$ Pa O$ P5 zgk O (z94 hn c hB hR) ?_
 rintro _ w ⟨rfl,rfl⟩
 refine U8 O$ PH$ OV O$ OB func167 O ?_
 exact⟨_,rfl,rfl,rfl⟩
def z9Z (h:XI w m gi L)(s n:Nat)(c:Bool)(dh:1<=n)(jd:s+n<=L.length)(hc:∀i,s<=i->i<s+n->L[i]? =some c):Pm prog 134 [ptr m 0,.agg #[I (s:Int),I (n:Int)],stV c] w λv w'=>v= .bool true/\Ext w w':=by
 have hn:=h.n
 refine py (e:=[(0,_),(1,_),(2,_)]) func134 O ntmps134 O O$ qN O$ OJ O O (R4 O (cs:=[I (s:Int),I (n:Int)]) O) ?_
 rintro _ w1 ⟨b4,rfl,fZ,ad,aK⟩
 refine OJ O O (R4 O (cs:=[stV c]) (by cases c<;>rfl)) ?_
 rintro _ w2 ⟨b5,rfl,gR,ae,aH⟩
 have hg:=Ext.P4 w2
 have aG:=ad.trans ae
 have uS:=(h.ext aG).OA
 have bC:=ae.OA aK
 have eB:=(h.ext aG).ext hg
 refine OV O$ An$ QV (λw'=>Ext w2 w') O$ OZ 0 O O (hg)$ OG 1 O (Q8 O) hg$ OG 2 O (Pr UQ O) hg$ qT 3 O (λ_ h=>(OM VF O O (h.OA uS) O)) hg$ OG 4 O (Pr QT O) hg$ qT 5 O (λ_ h=>(OM U3 O O (h.OA bC) O)) hg$ OG 6 O (Pr QT O) hg$ qT 7 O (λ_ h=>(OM U3 O O (h.OA bC) O)) hg$ OG 8 O (Pr QZ O) hg$ qT 9 O (λ_ h=>(OM U3 O O (h.OA bC) O)) hg$ OG 10 O (UO O O (by omega)) hg ?_
 refine OG 12 O (ymf (first:=[]) (caps:=[.tmp 5]) O O) hg ?_
 rw[show(s:Int)+(n:Int)=((s+n:Nat):Int) by omega]
 refine OG 11 O (zfq (i:=s) (j:=s+n) VF z2K O O O (by omega) (by omega)) hg ?_
 rw[show s+n-s=n by omega]
 have hR:Rd w2.drew (.slice (some ⟨gi,0+s*1,none⟩) n (L.length-s)) 1 n (List.replicate n (stV c)):=by
  have h1:=UY (TM eB.sl.rd (i:=s) (by omega) (Nat.le_refl _)) (i:=n) (by omega);rw[if_neg (by omega)] at h1
  have e:((L.map stV).drop s).take n=List.replicate n (stV c):=by
   apply List.ext_getElem?;intro i;rw[List.getElem?_take,List.getElem?_drop,List.getElem?_map,List.getElem?_replicate];by_cases hi:i<n
   ·rw[if_pos hi,if_pos hi,hc (s+i) (by omega) (by omega)];rfl
   ·rw[if_neg hi,if_neg hi]
  rw[e] at h1
  have e2:(some (⟨gi,0,none⟩:Addr)).map (λx=>x.add (s*1))=some ⟨gi,0+s*1,none⟩:=by
   show some (Addr.add _ _)=_;unfold Addr.add;split
   ·rename_i h0;rw[h0]
   ·rfl
  rw[e2] at h1;exact h1
 refine RT 13 O zhn O (zab (by omega) c ((hg.OA aH)) hR) ?_
 rintro _ w3 ⟨rfl,rfl⟩
 refine⟨hg,?_⟩
 refine OG 14 O ((RZ O)) hg$ OG 15 O (Rp O) hg$ qE$ OB func134 O ?_
 exact⟨_,rfl,rfl,aG.trans hg⟩
def z6D (h:XI w m gi L)(s n:Nat)(dh:1<=n)(dw:2<=s)(jd:s+n<=L.length)(hc:∀i,s<=i->i<s+n->L[i]? =some true):Pm prog 92 [ptr m 0,.agg #[I (s:Int),I (n:Int)]] w λv w'=>v=I 0/\XI w' m gi (Qd L s n false)/\Kp (λk=>k=gi) w w':=by
 refine py (e:=[(0,_),(1,_)]) func92 O ntmps92 O O$ qN O$ OJ O O (R4 O (cs:=[I (s:Int),I (n:Int)]) O) ?_
 rintro _ w1 ⟨b3,rfl,dG,ad,ar⟩
 have h1:=h.ext ad
 have l3:=ar.lt
 have lg:=h.ltg
 refine OV O$ QA$ Pn O$ qV (PY U67 O O)$ OV O$ OL O$ Pn O$ qV (Pp (news:=[I (s:Int),I (n:Int)]) Xm O QY O (OP.cells (n:=2) ar O) O)$ P5 zgW O (z9L h1 s n dh dw jd) ?_
 rintro _ w2 ⟨rfl,ae⟩
 have h2:=h1.ext ae
 have dv:=ae.OA ar
 refine qV ((RZ O))$ Pa O$ qV (Pp (news:=[I (s:Int),I (n:Int)]) Xm O QY O (OP.cells (n:=2) dv O) O)$ P5 zgm O (z9Z h2 s n true dh jd hc) ?_
 rintro _ w3 ⟨rfl,ah⟩
 have h3:=h2.ext ah
 have eN:=ah.OA dv
 have uS:=h3.OA
 refine qV ((RZ O))$ PM O$ OV O$ OL O$ Pn O$ Pq O$ OW zd6 O$ qV (OM U4 O O uS O)$ OV O$ OL O ?_
 have eN:=ah.OA dv
 refine R6 O$ qV (Pp (news:=[I (s:Int),I (n:Int)]) Xm O QY O (OP.cells (n:=2) eN O) O)$ P5 zdM O (z2p h3 s n false jd) ?_
 rintro _ w4 ⟨rfl,h4,au⟩
 refine OC$ Po.qb (e:=[(4,_)]) ?_
 refine Oz$ Qx O$ OB func92 O ?_
 exact⟨_,rfl,rfl,h4,((ad.trans ae).trans ah).kp.trans au⟩
end
structure Dev where
 due:Int
 Sj:List Int
 zdk:Int
 mask:UInt8
 B:Nat
 N:Nat
 sf:Int->Option OI
 cache:List (Int×OI)
 down:Bool
 calls:Int
 reads:Int
def zeros (n:Nat):OI:=List.replicate n 0
def Dev.kept (D:Dev)(n:Int):OI:=(D.sf n).getD (zeros (512*D.N))
def WI (l:List (Int×OI))(n:Int):Option OI:=(l.reverse.find? λx=>x.1==n).map (·.2)
def Dev.now (D:Dev)(n:Int):OI:=(WI D.cache n).getD (D.kept n)
def Dev.has (D:Dev)(n:Int):Bool:=decide (0<=n/\n<(D.B:Int))
def Dev.count (D:Dev):Dev:={D with calls:=D.calls+1,due:=if D.due=0 then 0 else D.due-1}
structure Dev.Ok (D:Dev):Prop where
 hB:16<=D.B/\D.B<=4096
 hN:1<=D.N/\D.N<=8
 due:0<=D.due/\D.due<=9223372036854775807
 sf:∀n s,D.sf n=some s->0<=n/\n<(D.B:Int)/\s.length=512*D.N
 cache:∀x∈D.cache,0<=x.1/\x.1<(D.B:Int)/\x.2.length=512*D.N
 len:0<=D.calls
 reads:True
def Dev.Bd (D:Dev):Prop:=D.calls<1000000000000/\D.cache.length<1000000000000/\True
def wr (x:Int×OI):List Value:=[I x.1,S x.2]
def wrs (l:List (Int×OI)):List Value:=l.flatMap wr
@[simp] theorem wrs_length (l:List (Int×OI)):(wrs l).length=l.length*2:=by
 induction l with
 |nil=>rfl
 |cons x r ih=>simp[wrs,wr,List.flatMap_cons] at ih⊢;omega
def YL (kp ca:Value)(m:Nat)(D:Dev):List Value:=[I D.due,kp,I D.zdk,Tu D.mask,I (D.B:Int),I (D.N:Int),.map (some m),ca,.bool D.down,I D.calls,I D.reads]
@[simp] theorem devCs_length (kp ca:Value) (m:Nat) (D:Dev):(YL kp ca m D).length=11:=rfl
abbrev KI:Int->Value:=λz=> .int .i64 z
structure RX (w:World)(p m:Nat)(kp ca:Value)(D:Dev):Prop where
 OA:OP w p (YL kp ca m D) 104
 map:∃kv,Ws KI w m kv/\∀n,R8 kv n=(D.sf n).map S
 cache:Sl w ca 313 2 D.cache.length (wrs D.cache)
 Sj:Sl w kp 3 1 D.Sj.length (D.Sj.map I)
 ok:D.Ok
def fpD (p m:Nat)(kp ca:Value):Nat->Prop:=λk=>k=p\/k=m\/ca.ownBlock=some k\/kp.ownBlock=some k
def Wj (w:World)(p:Nat)(D:Dev)(F:Nat->Prop):Prop:=∃m kp ca,RX w p m kp ca D/\∀k,F k↔fpD p m kp ca k
def Upd (F F':Nat->Prop)(w w':World):Prop:=Kp F w w'/\∀k,F' k->F k\/w.heap.size<=k
theorem Upd.trans {F F' F'':Nat->Prop}{a b c:World}(h:Upd F F' a b)(k:Upd F' F'' b c):Upd F F'' a c:=
 ⟨h.1.It k.1 λi hi=>(h.2 i hi).symm,λi hi=>by
  rcases k.2 i hi with h'|h'
  ·exact h.2 i h'
  ·exact .inr (Nat.le_trans h.1.size h')⟩
theorem Ext.Z5 {F:Nat->Prop}{w w':World}(h:Ext w w'):Upd F F w w':=⟨h.kp,λ_ h=> .inl h⟩
theorem RX.pm {w:World}{p m:Nat}{kp ca:Value}{D:Dev}(h:RX w p m kp ca D):¬p=m:=λe=>by
 obtain⟨kv,⟨⟨es,c,hh,-⟩,-⟩,-⟩:=h.map
 obtain⟨fz,hb,-⟩:=h.OA
 rw[e] at hb;rw[hb] at hh;cases hh
def Tp {w:World}{v:Value}{e size n:Nat}{cs:List Value}{b:Nat}(h:Sl w v e size n cs)(hb:v.ownBlock=some b):∃xs fz,w.heap[b]? =some (.cells xs e fz):=by
 rcases h.2 with⟨hz,-⟩|⟨g,cap,cur,hv,-,hg,-⟩
 ·rw[hz] at hb;cases hb
 ·rw[hv] at hb;cases hb;exact⟨_,_,hg⟩
def RX.kp {S:Nat->Prop}{w w':World}{p m:Nat}{kp ca:Value}{D:Dev}(h:RX w p m kp ca D)(k:Kp S w w')(hn:∀i,fpD p m kp ca i->¬S i):RX w' p m kp ca D:=
 ⟨k.OA h.OA (hn p (.inl O)),let ⟨kv,h1,h2⟩:=h.map;⟨kv,k.map h1 (hn m (.inr (.inl O))),h2⟩,h.cache.kp k λg hg=>hn g (.inr (.inr (.inl hg))),h.Sj.kp k λg hg=>hn g (.inr (.inr (.inr hg))),h.ok⟩
def RX.ext {w w':World}{p m:Nat}{kp ca:Value}{D:Dev}(h:RX w p m kp ca D)(k:Ext w w'):RX w' p m kp ca D:=h.kp k λ_ _=>id
theorem Dev.Ok.count {D:Dev}(h:D.Ok):D.count.Ok:=by
 have:=h.due
 have:=h.len
 refine⟨h.hB,h.hN,?_,h.sf,h.cache,?_,h.reads⟩
 ·simp only[Dev.count];split<;>omega
 ·simp only[Dev.count];omega
def RX.turn {w w':World}{p m:Nat}{kp ca:Value}{D D':Dev}(h:RX w p m kp ca D)(hb:OP w' p (YL kp ca m D') 104)(k:Kp (λi=>i=p) w w')(h1:D'.sf=D.sf)(h2:D'.cache=D.cache)(h3:D'.Sj=D.Sj)(h4:D'.N=D.N)(ax:D'.Ok):RX w' p m kp ca D':=by
 obtain⟨fz,hp,-⟩:=h.OA
 refine⟨hb,let ⟨kv,hm,hs⟩:=h.map;⟨kv,k.map hm λe=>h.pm e.symm,by rw[h1];exact hs⟩,?_,?_,ax⟩
 ·rw[h2];refine h.cache.kp k λg hg ru=>?_;obtain⟨xs,fz',hx⟩:=Tp h.cache hg;rw[ru,hp] at hx;cases hx
 ·rw[h3];refine h.Sj.kp k λg hg ru=>?_;obtain⟨xs,fz',hx⟩:=Tp h.Sj hg;rw[ru,hp] at hx;cases hx
def Z5 (f:Int->Option OI)(n:Int)(s:OI):Int->Option OI:=λx=>if x=n then some s else f x
def z9n (c:OI)(i:Nat)(x:OI):OI:=c.take i++x++c.drop (i+x.length)
def mixN (mask:UInt8)(a b:OI):Nat->OI
 |0=>a
 |s+1=>if mask.toNat / 2^s%2=1 then z9n (mixN mask a b s) (512*s) ((b.drop (512*s)).take 512) else mixN mask a b s
theorem z5k (c x:OI)(i:Nat)(h:i+x.length<=c.length):(z9n c i x).length=c.length:=by
 simp[z9n];omega
def Wr (mask:UInt8)(a b:OI)(N:Nat)(ha:a.length=512*N)(hb:b.length=512*N):∀s,s<=N->(mixN mask a b s).length=512*N
 |0,_=>ha
 | s + 1, h => by
   have ih:=Wr mask a b N ha hb s (by omega);simp only[mixN];split
   ·rw[z5k _ _ _ (by simp[ih];omega),ih]
   ·exact ih
def Dev.fallTo (D:Dev)(l:List Int)(tn:Int)(mk:UInt8):Nat->(Int->Option OI)
 |0=>D.sf
 | i + 1 => match D.cache[i]? with
   |none=>D.fallTo l tn mk i
   | some x => if (i : Int) = tn then Z5 (D.fallTo l tn mk i) x.1 (mixN mk (((D.fallTo l tn mk i) x.1).getD (zeros (512 * D.N))) x.2 D.N)
     else if(i:Int)∈l then Z5 (D.fallTo l tn mk i) x.1 x.2 else D.fallTo l tn mk i
def Dev.zbI (D:Dev)(l:List Int)(tn:Int)(mk:UInt8):Dev:=
 {D with sf:=D.fallTo l tn mk D.cache.length,cache:=[],due:=0,Sj:=[],zdk:=0,mask:=0,down:=true}
theorem Dev.Ok.put {D:Dev}(h:D.Ok){n:Int}{s:OI}(hn:0<=n/\n<(D.B:Int))(hs:s.length=512*D.N):Dev.Ok {D with sf:=Z5 D.sf n s}:=
 ⟨h.hB,h.hN,h.due,λx t hx=>by
  simp only[Z5] at hx;split at hx
  ·rename_i e
   cases hx;exact⟨by omega,by rw[e];exact hn.2,hs⟩
  ·exact h.sf x t hx,h.cache,h.len,h.reads⟩
theorem Dev.Ok.kept {D:Dev}(h:D.Ok)(n:Int):(D.kept n).length=512*D.N:=by
 unfold Dev.kept
 cases hs:D.sf n with
 |none=>simp[zeros]
 |some s=>exact(h.sf n s hs).2.2
theorem RX.put {w w':World}{p m:Nat}{kp ca:Value}{D:Dev}{kv:List (Int×Value)}{n:Int}{s:OI}(h:RX w p m kp ca D)(hs:∀n,R8 kv n=(D.sf n).map S)(hm:Ws KI w' m (putL kv n (S s)))(k:Kp (λi=>i=m) w w')
  (ax:Dev.Ok {D with sf:=Z5 D.sf n s}):RX w' p m kp ca {D with sf:=Z5 D.sf n s}:=by
 obtain⟨kv0,⟨⟨es,c,hh,-⟩,-⟩,-⟩:=h.map
 refine⟨k.OA h.OA h.pm,⟨_,hm,λx=>?_⟩,?_,?_,ax⟩
 ·rw[zb6,hs x];simp only[Z5];split<;>rfl
 ·refine h.cache.kp k λg hg ru=>?_;obtain⟨xs,fz',hx⟩:=Tp h.cache hg;rw[ru,hh] at hx;cases hx
 ·refine h.Sj.kp k λg hg ru=>?_;obtain⟨xs,fz',hx⟩:=Tp h.Sj hg;rw[ru,hh] at hx;cases hx
def Rd.kpm {w w':World}{v:Value}{size n m:Nat}{cs:List Value}{kv:List (Int×Value)}(h:Rd w v size n cs)(hm:Ws KI w m kv)(k:Kp (λi=>i=m) w w'):Rd w' v size n cs:=by
 obtain⟨h1,h2⟩:=h
 refine⟨h1,h2.imp id λ⟨b,off,cap,hv,hc⟩=>⟨b,off,cap,hv,λj u hj=>?_⟩⟩
 have BH:=hc j u hj
 obtain⟨⟨es,c,hh,-⟩,-⟩:=hm
 have bu:¬b=m:=λe=>by
  rw[e] at BH;simp[World.cell?,hh] at BH
 have aS:b<w.heap.size:=by
  rcases Nat.lt_or_ge b w.heap.size with h'|h'
  ·exact h'
  ·simp[World.cell?,Array.getElem?_eq_none h'] at BH
 rw[<-BH]
 simp only[World.cell?,k.block b aS bu]
def RX.zh6 {w:World}{p m:Nat}{kp ca:Value}{D:Dev}(h:RX w p m kp ca D){g:Nat}(hg:ca.ownBlock=some g):¬g=p/\¬g=m/\¬kp.ownBlock=some g:=by
 obtain⟨xs,fz',hx⟩:=Tp h.cache hg
 refine⟨λe=>?_,λe=>?_,λe=>?_⟩
 ·obtain⟨fz,hb,-⟩:=h.OA;rw[e,hb] at hx;cases hx
 ·obtain⟨kv,⟨⟨es,c,hh,-⟩,-⟩,-⟩:=h.map;rw[e,hh] at hx;cases hx
 ·obtain⟨ys,fy,hy⟩:=Tp h.Sj e;rw[hx] at hy;cases hy
def RX.zhJ {w:World}{p m:Nat}{kp ca:Value}{D:Dev}(h:RX w p m kp ca D){g:Nat}(hg:kp.ownBlock=some g):¬g=p/\¬g=m/\¬ca.ownBlock=some g:=by
 obtain⟨xs,fz',hx⟩:=Tp h.Sj hg
 refine⟨λe=>?_,λe=>?_,λe=>?_⟩
 ·obtain⟨fz,hb,-⟩:=h.OA;rw[e,hb] at hx;cases hx
 ·obtain⟨kv,⟨⟨es,c,hh,-⟩,-⟩,-⟩:=h.map;rw[e,hh] at hx;cases hx
 ·obtain⟨ys,fy,hy⟩:=Tp h.cache e;rw[hx] at hy;cases hy
def RX.lt {w:World}{p m:Nat}{kp ca:Value}{D:Dev}(h:RX w p m kp ca D):∀k,fpD p m kp ca k->k<w.heap.size:=by
 intro k hk
 rcases hk with rfl|rfl|hc|hc
 ·exact h.OA.lt
 ·obtain⟨kv,hm,-⟩:=h.map;exact hm.lt
 ·exact h.cache.lt hc
 ·exact h.Sj.lt hc
def Wj.kp {S F:Nat->Prop}{w w':World}{p:Nat}{D:Dev}(h:Wj w p D F)(k:Kp S w w')(hn:∀i,F i->¬S i):Wj w' p D F:=by
 obtain⟨m,kp,ca,h1,h2⟩:=h
 exact⟨m,kp,ca,h1.kp k λi hi=>hn i ((h2 i).2 hi),h2⟩
def Wj.ext {F:Nat->Prop}{w w':World}{p:Nat}{D:Dev}(h:Wj w p D F)(k:Ext w w'):Wj w' p D F:=h.kp k λ_ _=>id
def Wj.lt {F:Nat->Prop}{w:World}{p:Nat}{D:Dev}(h:Wj w p D F):∀k,F k->k<w.heap.size:=by
 obtain⟨m,kp,ca,h1,h2⟩:=h
 intro k hk
 rcases (h2 k).1 hk with rfl|rfl|hc|hc
 ·exact h1.OA.lt
 ·obtain⟨kv,hm,-⟩:=h1.map;exact hm.lt
 ·exact h1.cache.lt hc
 ·exact h1.Sj.lt hc
def z08 (n:Nat):((List.replicate n (Value.int .u8 0)).drop 0).take n=(zeros n).map Tu:=by
 simp[zeros,Tu]
section
variable {w:World}{p m:Nat}{kp ca:Value}{D:Dev}
def z5J (h:RX w p m kp ca D):Pm prog 125 [ptr p 0] w λv w'=>v=I (D.B:Int)/\w'=w:=by
 have hM:=h.OA
 refine py (e:=[(0,_)]) func125 O ntmps125 O O$ Qx O$ PK O$ qV (PY U26 O O)$ Qg O$ Pn O$ Pq O$ OW z0r O$ OW Zs O$ qV (OM U3 O O hM O)$ OV O$ OB func125 O ?_
 exact⟨_,rfl,rfl,rfl⟩
def z0Y (h:RX w p m kp ca D):Pm prog 77 [ptr p 0] w λv w'=>v=I ((512*D.N:Nat):Int)/\w'=w:=by
 have hM:=h.OA
 have hN:=h.ok.hN
 refine py (e:=[(0,_)]) func77 O ntmps77 O O$ Qx O$ PK O$ qV (PY U26 O O)$ Qg O$ Pn O$ Pq O$ OW z0r O$ OW Zi O$ qV (OM U3 O O hM O)$ qV (Yb O O (by omega))$ OV O$ OB func77 O (⟨_,rfl,?_,rfl⟩)
 show I _=I _
 congr 1;omega
def z2n (h:RX w p m kp ca D):Pm prog 178 [ptr p 0] w λv w'=>v=I (if D.down then 8 else 0)/\w'=w:=by
 have hM:=h.OA
 refine py (e:=[(0,_)]) func178 O ntmps178 O O$ Qx O$ QA$ Pn O$ qV (PY U26 O O)$ OV O$ OL O$ Pn O$ Pq O$ OW z3w O$ qV (OM U4 O O hM O)$ OV O$ Qf O (λhd=>?_)$ λhd=>?_
 ·refine Qx O$ OB func178 O ?_;exact⟨_,rfl,by simp[hd,PX],rfl⟩
 ·refine OD$ Oz$ Qx O$ OB func178 O ?_;exact⟨_,rfl,by simp[hd,PX],rfl⟩
def z8i (n:Int)(h:RX w p m kp ca D):Pm prog 179 [ptr p 0,I n] w λv w'=>v= .bool (D.has n)/\w'=w:=by
 have hM:=h.OA
 refine py (e:=[(0,_),(1,_)]) func179 O ntmps179 O O$ qN O$ QW O$ U8 O$ Sr (λh1=>?_)$ λh1=>?_
 ·refine Pa O$ ON O$ Pq O$ OW z0r O$ OW Zs O$ qV (OM U3 O O hM O)$ Qw O$ QX O$ OV O$ OB func179 O (⟨_,rfl,?_,rfl⟩);simp[Dev.has,h1,PX]
 ·refine ON O$ QL$ QL$ QL$ qS$ PM O$ OV O$ OB func179 O (⟨_,rfl,?_,rfl⟩);simp[Dev.has,h1,PX]
def z4r (n:Int)(h:RX w p m kp ca D):Pm prog 201 [ptr p 0,I n] w λv w'=>v=S (D.kept n)/\Ext w w':=by
 have hM:=h.OA
 have hN:=h.ok.hN
 have fh:maxLen=9223372036854775807:=rfl
 obtain⟨kv,oE,nW⟩:=h.map
 refine py (e:=[(0,_),(1,_)]) func201 O ntmps201 O O$ Qx O$ PK O$ Pq O$ OW z3E O$ qV (OM U97 O O hM O)$ ON O$ qV (zk7 (k:=n) (K:=KI) U97 (S5 U3) ti9 O O oE) ?_
 rw[nW n]
 cases hs:D.sf n with
 | some s =>
   refine ON O$ SU O$ SA O$ QW O$ OC$ OS O$ Pn O$ OV O$ OB func201 O ?_
   exact⟨_,rfl,by simp[Dev.kept,hs,PX],Ext.refl w⟩
 | none =>
   refine ON O$ SU O$ SA O$ QW O$ Qg O$ Pn O$ P5 zfQ O (z0Y h) ?_;rintro _ w1 ⟨rfl,rfl⟩;refine OJ O O (pmk (c:=512*D.N) (n:=512*D.N) SG Ye O O O (by omega) (by omega) (by omega)) ?_;rintro _ w1 ⟨b1,rfl,⟨bL,ad,ai⟩,-⟩;refine qV (z9m (l:=zeros (512*D.N)) SG U5 U9 O ai (z08 _) (by simp[zeros])) ?_;refine OV O$ OB func201 O ?_;exact⟨_,rfl,by simp[Dev.kept,hs,PX],ad⟩
def z3N (h:RX w p m kp ca D)(hc:D.calls<1000000000000):Pm prog 198 [ptr p 0] w λv w'=>v= .bool (decide (D.due=1))/\RX w' p m kp ca D.count/\Kp (λk=>k=p) w w':=by
 have hM:=h.OA
 have rv:=h.ok.due
 have aI:=h.ok.len
 refine py (e:=[(0,_)]) func198 O ntmps198 O O$ qN O$ QW O$ Pq O$ OW z7v O$ qV (OM U3 O O hM O)$ PS O$ Pq O$ OW z7v O$ OT O (QG PV O O O hM (by simp)) ?_
 rintro w1 ⟨dD,az⟩
 refine OC$ PK O$ Pq O$ OW Xd O$ OW z0A O$ qV (OM U3 O O dD O)$ Rg O$ OC$ OQ O (λh0=>?_)$ λh0=>?_
 ·refine Qx O$ OB func198 O ?_;have e0:(YL kp ca m D).set (0+9) (I (D.calls+1))=YL kp ca m D.count:=by simp[YL,Dev.count,h0]
  rw[e0] at dD;exact⟨_,rfl,by simp[PX];omega,h.turn dD az O O O O h.ok.count,az⟩
 ·refine OD$ Pn O$ Pq O$ OW Xd O$ OW z0A O$ qV (OM U3 O O dD O)$ Ro O$ Pq O$ OW Xd O$ OW z0A O$ OT O (QG PV O O O dD (by simp)) ?_;rintro w2 ⟨kg,am⟩;refine qM O$ ON O$ Pq O$ OW Xd O$ OW z0A O$ qV (OM U3 O O kg O)$ Rg O$ OV O$ Po.qb (e:=[(2,_)]) ?_;refine OB func198 O ?_;have e0:((YL kp ca m D).set (0+9) (I (D.calls+1))).set (0+0+0) (I (D.due-1))=YL kp ca m D.count:=by simp[YL,Dev.count,h0]
  rw[e0] at kg;exact⟨_,rfl,by simp[PX];omega,h.turn kg (az.trans am) O O O O h.ok.count,az.trans am⟩
end
theorem z7J (xs:List (Int×OI))(j:Nat)(h:j<xs.length):((wrs xs).drop (j*2)).take 2=wr xs[j]:=by
 induction xs generalizing j with
 |nil=>simp at h
 | cons x r ih =>
   cases j with
   |zero=>simp[wrs,wr,List.flatMap_cons]
   | succ j =>
     have e:(wrs (x::r))=I x.1::S x.2::wrs r:=by simp[wrs,wr,List.flatMap_cons]
     rw[e,show(j+1)*2=(j*2)+1+1 by omega]
     simpa using ih j (by simpa using h)
def z1j (a:Option Addr)(n cap:Nat)(w:World):Pm prog 200 [.slice a n cap] w λv w'=>∃b,v= .func (.func 218) #[] #[ptr b 0]/\z0f w b [.slice a n cap] 102 w':=by
 refine py (e:=[(0,_)]) func200 O ntmps200 O O$ qN O$ OJ O O (R4 O O) ?_
 rintro _ w1 ⟨b1,rfl,hN⟩
 refine QS O$ qV (ymf (first:=[]) (caps:=[.tmp 1]) O O)$ OV O$ OB func200 O ?_
 exact⟨_,rfl,_,rfl,hN⟩
def z3H (l bx:Nat)(ca:Value)(xs:List (Int×OI))(J:Nat->World->Prop)(Jx:World->Prop)(w:World)(hn:xs.length<4611686018427387904)
  (hJ:∀i w,J i w->(∃T,OP w bx [ca] T)/\Sl w ca 313 2 xs.length (wrs xs))
  (hround:∀i w x,xs.reverse[i]? =some x->J i w->z1T prog l [I ((xs.length:Int)-1-i),.agg (wr x).toArray] w λv w'=>(v= .bool true/\J (i+1) w')\/(v= .bool false/\Jx w')) (h0:J 0 w):
  Pm prog 218 [.func (.yield l) #[] #[],ptr bx 0] w λv w'=>v= .tuple #[]/\(J xs.length w'\/Jx w'):=by
 obtain⟨⟨T,hM⟩,hS⟩:=hJ 0 w h0
 obtain⟨a,cap,rfl,ha⟩:=hS.rd.shape
 refine py (e:=[(0,_),(1,_)]) func218 O ntmps218 O O$ qN O$ qV (OM z1w O O hM O)$ Rs z1w O$ Ro O$ OV O$ OE ?_
 rw[show(xs.length:Int)-1=(xs.length:Int)-1-((0:Nat):Int) by omega]
 refine Rr (α:=Nat) (0) (λi=>[(0,.func (.yield l) #[] #[]),(1,ptr bx 0),(3,I ((xs.length:Int)-1-i))]) (λi w=>i<=xs.length/\J i w) (λi=>xs.length-i) ?hI ?hround
 case hI=>exact⟨by omega,h0⟩
 case hround=>
  rintro i w1 ⟨hi,hj⟩ ih
  try dsimp only
  obtain⟨⟨T1,dD⟩,jZ⟩:=hJ i w1 hj;refine PK O$ U8 O$ OC$ OQ O (λkm=>?_)$ λkm=>?_
  ·have aS:i<xs.length:=by omega
   have BF:=jZ.shape;rcases BF with⟨-,h⟩|⟨gb,cap',mm,kl⟩
   ·omega
   cases mm;obtain⟨x,hx⟩:∃x,xs.reverse[i]? =some x:=⟨_,List.getElem?_eq_getElem (by simpa using aS)⟩
   have ge:((wrs xs).drop ((xs.length-1-i)*2)).take 2=wr x:=by
    rw[z7J xs _ (by omega)]
    congr 1
    rw[List.getElem?_reverse aS,List.getElem?_eq_getElem (by omega)] at hx;exact Rx hx
   have hz:((xs.length:Int)-1-i)=((xs.length-1-i:Nat):Int):=by omega
   have hy:=hround i w1 x hx hj;rw[hz] at hy⊢;refine OD$ QA$ Qt O$ qV (OM z1w O O dD O)$ ON O$ qV (PR z1w WB O O (by omega))$ qV (Pp ziI O WB O (jZ.part ge) O)$ z3i O O (yy O O) (hy) ?_;rintro v w2 hv;rcases hv with⟨rfl,lJ⟩|⟨rfl,ae⟩
   ·refine qV ((RZ O))$ Qg O$ Oz$ R6 O$ Ro O$ OV O ?_;rw[show((xs.length-1-i:Nat):Int)-1=(xs.length:Int)-1-((i+1:Nat):Int) by omega];exact(ih (i+1) w2 ⟨by omega,lJ⟩ (by omega)).qb
   ·refine qV ((RZ O))$ OC$ OS O$ OB func218 O ?_;exact⟨_,rfl,rfl,.inr ae⟩
  ·refine OO O$ Qa func218 O ?_;have:i=xs.length:=by omega
   subst this;exact⟨_,rfl,rfl,.inl hj⟩
theorem z6I (xs:List (Int×OI))(n:Int)(i:Nat):(∀j x,j<i->xs.reverse[j]? =some x->x.1≠n)->∀x,xs.reverse[i]? =some x->x.1=n->WI xs n=some x.2:=by
 intro dg x hx he
 have aS:i<xs.reverse.length:=by
  rcases Nat.lt_or_ge i xs.reverse.length with h| h
  ·exact h
  ·rw[List.getElem?_eq_none h] at hx;cases hx
 have:xs.reverse.find? (λx=>x.1==n)=some x:=by
  rw[List.find?_eq_some_iff_getElem];refine⟨by simp[he],i,aS,?_,λj hj=>?_⟩
  ·rw[List.getElem?_eq_getElem aS] at hx;exact Rx hx
  ·have:=dg j _ hj (List.getElem?_eq_getElem (by omega))
   simpa using this
 simp[WI,this]
theorem z7q (xs:List (Int×OI))(n:Int):(∀j x,j<xs.length->xs.reverse[j]? =some x->x.1≠n)->WI xs n=none:=by
 intro dg
 have:xs.reverse.find? (λx=>x.1==n)=none:=by
  rw[List.find?_eq_none];intro x hx;obtain⟨j,hj,rfl⟩:=List.getElem_of_mem hx;have:=dg j _ (by simpa using hj) (List.getElem?_eq_getElem hj)
  simpa using this
 simp[WI,this]
def zdi {w:World}{p m:Nat}{kp ca:Value}{D:Dev}(n:Int)(h:RX w p m kp ca D)(hc:D.cache.length<1000000000000):
  Pm prog 180 [ptr p 0,I n] w λv w'=>v=S (D.now n)/\Ext w w':=by
 have hM:=h.OA
 have aI:=h.ok.len
 have ft:=hc
 obtain⟨a,cap,rfl,ha⟩:=h.cache.rd.shape
 refine py (e:=[(0,_),(1,_)]) func180 O ntmps180 O O$ qN O$ OJ O O (R4 O O) ?_
 rintro _ w1 ⟨b3,rfl,dG,ad,ar⟩
 refine OJ O O (Ry (cs:=[_]) ti9 O) ?_
 rintro _ w2 ⟨b4,rfl,fZ,ae,aK⟩
 replace h:=(h.ext ad).ext ae
 have kg:=h.OA
 refine OC$ PK O$ Pq O$ OW Yn O$ qV (OM z1w O O kg O)$ P5 zju O (z1j a D.cache.length cap _) ?_
 rintro _ w3 ⟨bx,rfl,fJ,ah,ji⟩
 replace h:=h.ext ah
 replace ar:=ah.OA (ae.OA ar)
 replace aK:=ah.OA aK
 refine OC$ OE$ RG (ps:=[12,13]) (p:=[]) (q:=[_]) O zhc ?_
 rintro l w4 aA hl cD hD Rc bK dx
 have O5:=zcm bK dx
 have h3:=h
 replace h:=h.ext aA
 replace ar:=aA.OA ar
 replace aK:=aA.OA aK
 have Ff:=ji.lt
 have lZ:=ar.lt
 have et:=ad.size
 have dw:=ae.size
 have pL:=ah.size
 have LM:bx<w3.heap.size:=ji.lt
 replace ji:=aA.OA ji
 refine Pm.mono (z3H l bx (.slice a D.cache.length cap) D.cache
  (λi w'=>Rc .ready none w'/\Kp (λk=>k=l) w4 w'/\∀j x,j<i->D.cache.reverse[j]? =some x->x.1≠n)
  (λw'=>Rc .done (some .ret) w'/\Kp (λk=>k=l\/k=b4) w4 w'/\OP w' b4 [S (D.now n)] 9) w4 (by omega) ?_ ?_ ⟨dx,Kp.refl _ _,by omega⟩) ?_
 ·rintro i w' ⟨h1,h2,-⟩;refine⟨⟨_,h2.OA ji (by omega)⟩,h.cache.kp h2 λg hg fE=>?_⟩;have:=h3.cache.lt hg;omega
 ·rintro i w' x hx ⟨h1,h2,dg⟩;refine Sd bK h1 O O ?_;have yz:=h2.size;refine OK O$ OJ O O (Ry (cs:=[_,_]) WB O) ?_;rintro _ w5 ⟨b6,rfl,nN,aU,aT⟩;refine OT O (PG WB O O O O aT (by simp)) ?_;rintro w6 ⟨nQ,aM⟩;have aR:=aU.It aM (λi hi=>by omega);replace h1:=aR.rc bK h1 id;replace h2:=h2.trans aR.kp;have Fg:=aU.size;have LN:=nQ.lt;refine OC$ run_beginRound O bK h1 ?_;rintro w7 h7 aB;have bO:=aB.OA nQ (by omega);have kU:=(h2.trans aB).OA ar (by omega);refine OE$ qN O$ OW z0C O$ qV ((OM U3 O O bO O))$ qV ((OM U3 O O kU O))$ Rg O$ OC$ OQ O (λeh=>?_)$ λeh=>?_
  ·have fD:=(h2.trans aB).OA aK (by omega);refine qN O$ OW z2W O$ qV ((OM U9 O O bO O))$ OT O (QG ti9 O O O fD (by simp)) ?_;rintro w8 ⟨cj,aL⟩;refine OC$ Tf bK (aL.rc bK h7 (by omega)) ?_;intro w9 h9 aw;refine .inr ⟨rfl,h9,((h2.trans aB).OH λ_ h=> .inl h).trans ((aL.OH λ_ h=> .inr h).trans (aw.OH λ_ h=> .inl h)),?_⟩
   have Fh:D.now n=x.2:=by
    unfold Dev.now;rw[z6I D.cache n i dg x hx eh]
    rfl
   rw[Fh];exact aw.OA cj (by omega)
  ·refine OD$ Oz$ RA bK h7 ?_;intro w9 h9 aw;refine .inl ⟨rfl,h9,(h2.trans aB).trans aw,λj y hj hy=>?_⟩;rcases Nat.lt_or_ge j i with sC|sC
   ·exact dg j y sC hy
   ·have:j=i:=by omega
    subst this;rw[hx] at hy;cases hy;exact eh
 ·rintro v w' ⟨rfl,⟨h1,h2,dg⟩|⟨h1,h2,hB⟩⟩
  ·refine⟨_,_,h1,by simp,λw5 h5=>?_⟩;have aj:=h2.trans h5;have aU:Ext w3 w5:=aA.It aj (λi hi=>by omega);replace h3:=h3.ext aU;have kU:=aj.OA ar (by omega);have fD:=aj.OA aK (by omega);have uT:=aj.heap hD (by omega);refine Oz$ Pn O$ qV (OM U3 O O kU O)$ P5 zen O (z4r n h3) ?_;rintro _ w6 ⟨rfl,aR⟩;replace fD:=aR.OA fD;replace uT:=aR.heap uT id;refine OT O (QG ti9 O O O fD (by simp)) ?_;rintro w7 ⟨bO,aB⟩;replace uT:=aB.heap uT (by omega);have cj:=(Q4 w7 w3.heap.size (.deferred none)).OA bO (by omega);refine OC$ T3 (by simp) (Ts uT) func180 (.cell1 U9 O O ((cj).cell _) .nil) ?_;refine⟨_,rfl,?_,?_⟩
   ·simp[Dev.now,z7q D.cache n dg,PX]
   ·exact((((ad.trans (ae.trans ah)).trans aU).trans aR).It aB (λi hi=>by omega)).It (Q4 w7 w3.heap.size (.deferred none)) (λi hi=>by omega)
  ·refine⟨_,_,h1,by simp,λw5 h5=>?_⟩;have uT:=(h2.trans (h5.OH λ_ h=> .inl h)).heap hD (by omega);have aH:=h5.OA hB (by omega);have cj:=(Q4 w5 w3.heap.size (.deferred none)).OA aH (by omega);refine T3 (by simp) (Ts uT) func180 (.cell1 U9 O O ((cj).cell _) .nil) ?_;refine⟨_,rfl,rfl,?_⟩;exact(((ad.trans (ae.trans (ah.trans aA))).It h2 (λi hi=>by omega)).It h5 (λi hi=>by omega)).It (Q4 w5 w3.heap.size (.deferred none)) (λi hi=>by omega)
section
variable {w:World}{p m:Nat}{kp ca:Value}{D:Dev}
def zax (h:RX w p m kp ca D):Pm prog 141 [ptr p 0] w λv w'=>v= .bool D.down/\w'=w:=by
 have hM:=h.OA
 refine py (e:=[(0,_)]) func141 O ntmps141 O O$ qN O$ QW O$ qV (PY U26 O O)$ Pa O$ Pq O$ OW z3w O$ qV (OM U4 O O hM O)$ PM O$ OV O$ OB func141 O ?_
 exact⟨_,rfl,rfl,rfl⟩
end
end Go.Proofs.YtffbidffdbpcoaaGreatDoor
