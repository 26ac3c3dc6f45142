/- Merged by program. -/
import Derived.Test.YtgdkbagngobdlaaGreatDoorZs4
import Derived.WideLaws
set_option linter.all false
set_option maxRecDepth 1000000
set_option maxHeartbeats 16000000
namespace Go.Proofs.YtgdkbagngobdlaaGreatDoor
open Go Go.RowKit Go.Proofs.Tryz
structure PHd where
 n:Nat
 m:Nat
 p:PA
 bits:Nat
def hdC (h:PHd):List Value:=[I (h.n:Int),I (h.m:Int),I (h.p.Ou:Int),I (h.p.chain:Int),I (h.p.interval:Int),I (h.p.zeta:Int),I (h.p.most:Int),I (h.bits:Int)]
abbrev hdV (h:PHd):Value:= .agg (hdC h).toArray
structure PHd.PI (h:PHd):Prop where
 n1:1<=h.n
 n2:h.n<=65536
 m:h.m<=1048576
 bits:h.bits<=134217728
 p:h.p.PI
def Y5 (h:PHd):List (Nat×Nat):=[(h.n,32),(h.m,32),(h.p.Ou,8),(h.p.chain,8),(h.p.interval,8),(h.p.zeta,8),(h.p.most,32),(h.bits,64)]
def Qw (l:List (Nat×Nat)):List Bool:=l.flatMap λq=>Ov q.2 q.1
def z6K:NY:=[119,116,108,49]
def hdT (h:PHd):NY:=z6K++Ow (Qw (Y5 h))
theorem Tq (h:PHd):(Qw (Y5 h)).length=192:=by
 simp[Qw,Y5]
theorem Wg (h:PHd):(hdT h).length=28:=by
 unfold hdT
 rw[List.length_append,OO,Tq];rfl
theorem X4 (h:PHd)(hh:h.PI)(w:World):Oy prog 135 [hdV h] w λu w'=>u=I 0/\Ext w w':=by
 obtain⟨g1,g2,g3,g4,g5⟩:=hh
 refine NP (e:=[(0,_)]) func135 O ntmps135 O O$ qN O$ O5 O O (Qr O (cs:=hdC h) O) ?_
 rintro _ w1 ⟨b1,rfl,bK,ad,ai⟩
 replace ai:O9 w1 b1 [I (h.n:Int),I (h.m:Int),I (h.p.Ou:Int),I (h.p.chain:Int),I (h.p.interval:Int),I (h.p.zeta:Int),I (h.p.most:Int),I (h.bits:Int)] 160:=ai
 refine NZ O$ py$ NQ$ py$ qN O$ Og Ti O$ qV (O6 U3 O O ai O)$ Py O O$ OR$ NT O$ Og Ti O$ qV (O6 U3 O O ai O)$ PD O O$ OR ?_
 refine OU O O$ NZ O$ It O$ qN O$ Og z2J O$ qV (O6 U3 O O ai O)$ Py O O$ OR$ NT O$ Og z2J O$ qV (O6 U3 O O ai O)$ PD O O$ OR$ OU O O ?_
 refine NZ O$ It O$ qN O$ Og TZ O$ qV (O6 U3 O O ai O)$ Py O O$ OR$ NT O$ Og TZ O$ qV (O6 U3 O O ai O)$ PD O O$ OR$ OU O O$ NZ O ?_
 refine OD.qb (e:=[(1,_),(2,_),(3,_)]) ?_
 refine It O$ NW O$ Og Ti O$ qV (O6 U3 O O ai O)$ Qe O O$ OR$ NT O$ qS$ qS$ qS$ qS$ qS$ qS$ OU O O ?_
 refine NZ O$ It O$ An$ NS$ qN O$ Og Xo O$ qV (OE (news:=Uf h.p) ZX O QJ O (ai.cells (i:=2) (n:=5) O) O)$ Om zdY O (Z0 h.p g5 _) ?_
 rintro _ w2 ⟨rfl,ae⟩
 refine NZ O$ NV func135 O ?_
 exact⟨_,rfl,rfl,ad.trans ae⟩
theorem z8L (h:PHd)(hh:h.PI)(w:World):Oy prog 98 [hdV h] w λu w'=>u= .tuple #[S (hdT h),I 0]/\Ext w w':=by
 obtain⟨g1,g2,g3,g4,g5⟩:=id hh
 obtain⟨q1,q2,q3⟩:=id g5
 obtain⟨r1,r2,r3,r4⟩:=id q1
 have r1':h.p.Ou<=16:=r1
 have r2':h.p.interval<=64:=by
  have:h.p.interval=0\/2<=h.p.interval/\h.p.interval<=64:=r2;omega
 have r4':h.p.zeta<=16:=r4
 refine NP (e:=[(0,_)]) func98 O ntmps98 O O$ qN O$ O5 O O (Qr O (cs:=hdC h) O) ?_
 rintro _ w1 ⟨b1,rfl,bK,ad,ai⟩
 replace ai:O9 w1 b1 [I (h.n:Int),I (h.m:Int),I (h.p.Ou:Int),I (h.p.chain:Int),I (h.p.interval:Int),I (h.p.zeta:Int),I (h.p.most:Int),I (h.bits:Int)] 160:=ai
 refine Oc O$ NZ O$ py$ qN O$ qV (OE (news:=hdC h) z5M O T7 O (ai.cells (n:=8) O) O)$ Om zab O (X4 h hh _) ?_
 rintro _ w2 ⟨rfl,ae⟩
 refine Oc O$ qM O$ NT O$ Pz O O$ NU$ It O$ An$ qN O$ Om z0O O (Ty w2) ?_
 rintro _ w3 ⟨wp,F,rfl,kk,ah,pO⟩
 have ba:=ae.trans ah
 have eH:=ba.NX ai
 refine Oc O$ qM O$ Og Xo O$ qV (OE (news:=Uf h.p) ZX O QJ O (eH.cells (i:=2) (n:=5) O) O)$ O5 O O (QU (cs:=[_,_,_,_,_]) QJ O) ?_
 rintro _ w4 ⟨b6,rfl,jP,az,aO⟩
 refine Oe O (P4 (news:=Uf h.p) QJ O O O O aO (by simp)) ?_
 rintro w5 ⟨fH,ak⟩
 replace fH:O9 w5 b6 [I (h.p.Ou:Int),I (h.p.chain:Int),I (h.p.interval:Int),I (h.p.zeta:Int),I (h.p.most:Int)] 94:=fH
 have bT:Ext w3 w5:=az.NR ak (λi e=>by omega)
 have gy:=bT.NX eH
 refine NU$ py$ qN O$ Og Ti O$ qV ((O6 U3 O O gy O))$ qV (Rt (cs:=[_,_]) Uj O YJ O O)$ Og z2J O$ qV ((O6 U3 O O gy O))$ qV (Rt (cs:=[_,_]) Uj O YJ O O)$ Og z0x O$ qV ((O6 U3 O O fH O))$ qV (Rt (cs:=[_,_]) Uj O YJ O O)$ Og Ye O$ qV ((O6 U3 O O fH O)) ?_
 refine qV (Rt (cs:=[_,_]) Uj O YJ O O)$ Og z9C O$ qV ((O6 U3 O O fH O))$ qV (Rt (cs:=[_,_]) Uj O YJ O O)$ Og zaH O$ qV ((O6 U3 O O fH O))$ qV (Rt (cs:=[_,_]) Uj O YJ O O)$ Og SL O$ qV ((O6 U3 O O fH O))$ qV (Rt (cs:=[_,_]) Uj O YJ O O)$ Og TZ O$ qV ((O6 U3 O O gy O))$ qV (Rt (cs:=[_,_]) Uj O YJ O O)$ O5 O O (Vl (cs:=[_,_,_,_,_,_,_,_,_,_,_,_,_,_,_,_]) (zs:=[Value.int .i64 0,Value.int .i64 0,Value.int .i64 0,Value.int .i64 0,Value.int .i64 0,Value.int .i64 0,Value.int .i64 0,Value.int .i64 0,Value.int .i64 0,Value.int .i64 0,Value.int .i64 0,Value.int .i64 0,Value.int .i64 0,Value.int .i64 0,Value.int .i64 0,Value.int .i64 0]) zeC Uj O (by kernel_rfl) O O O (by decide)) ?_
 rintro _ w6 ⟨b43,rfl,⟨Cm,aH,dN⟩,mY⟩
 have xH:=bT.trans aH
 have jS:=kk.ext xH
 have z3:=ah.size
 have hL:(Y5 h).length=8:=rfl
 replace mY:Sl w6 (.slice (some ⟨b43,0,none⟩) 8 8) 229 2 8 ((Y5 h).flatMap λq=>[I (q.1:Int),I (q.2:Int)]):=mY
 refine Qx zeC O$ NT O$ NU$ OD.qb (e:=[(2,_),(3,_),(5,_),(43,_),(44,_),(45,_)]) ?_
 refine NQ$ Qm (α:=Nat) (0) (λi=>[(5,ptr wp 0),(43,.slice (some ⟨b43,0,none⟩) 8 8),(44,I 8),(45,I (i:Int))]) (λi w'=>WrR wp F w6 w' (Qw ((Y5 h).take i))/\i<=8) (λi=>8-i) ?hI ?hround
 case hI=>exact⟨⟨F,jS,Kp.refl _ _,λk hk=> .inl hk⟩,Nat.zero_le _⟩
 case hround=>
  rintro i w7 ⟨⟨F7,oA,aD,lA⟩,hi⟩ ih
  try dsimp only
  refine qN O$ Py O O$ NU$ py$ O8 O (λh0=>?_)$ λh0=>?_
  ·obtain⟨⟨v,c⟩,hq⟩:∃q,(Y5 h)[i]? =some q:=⟨_,List.getElem?_eq_getElem (by rw[hL];omega)⟩
   have AR:v<2^c/\c<=64/\v<=134217728:=by
    have hm:=List.mem_of_getElem? hq;simp only[Y5,List.mem_cons,List.not_mem_nil,or_false,Prod.mk.injEq] at hm;rcases hm with⟨rfl,rfl⟩|⟨rfl,rfl⟩|⟨rfl,rfl⟩|⟨rfl,rfl⟩|⟨rfl,rfl⟩|⟨rfl,rfl⟩|⟨rfl,rfl⟩|⟨rfl,rfl⟩<;>refine⟨by omega,by omega,by omega⟩
   have fu:(Qw ((Y5 h).take i)).length+c<=192:=by
    have e:Qw ((Y5 h).take (i+1))=Qw ((Y5 h).take i)++Ov c v:=by rw[OY hq];simp[Qw]
    have e2:=congrArg List.length e;rw[List.length_append,bitsN_length] at e2
    have e3:(Qw (Y5 h)).length=(Qw ((Y5 h).take (i+1))).length+(Qw ((Y5 h).drop (i+1))).length:=by
     conv=>lhs;rw[<-List.take_append_drop (i+1) (Y5 h)]
     unfold Qw;rw[List.flatMap_append,List.length_append]
    have e4:=Tq h;omega
   have gL:=mY.kp aD (λg hg e=>by have e1:b43=g:=PJ hg;have:=jS.lt e;have:=kk.lt e;have:=bT.size;omega);have kj:=z0I (f:=λq:Nat×Nat=>[I (q.1:Int),I (q.2:Int)]) (λ_=>rfl) gL.rd hq;refine An$ py$ NQ$ qN O$ qV (P7 zeC Uj O O (by omega))$ qV (OE (news:=[I (v:Int),I (c:Int)]) zks O Uj O kj O)$ O5 O O (QU (cs:=[_,_]) Uj O) ?_;rintro _ w8 ⟨b8,rfl,ib,dq,cn⟩;refine Oe O (P4 (news:=[I (v:Int),I (c:Int)]) Uj O O O O cn (by simp)) ?_;rintro w9 ⟨q9,aL⟩;replace q9:O9 w9 b8 [I (v:Int),I (c:Int)] 229:=q9;have iG:Ext w7 w9:=dq.NR aL (λi e=>by omega);refine NU$ NW O$ NT O$ Og zcP O$ qV (O6 U3 O O q9 O)$ qV ((Pf O U3 Qy (by omega)))$ Og zcR O$ qV (O6 U3 O O q9 O)$ Om Vz O (Rp (oA.ext iG) v c AR.2.1 AR.1 (by omega)) ?_;rintro _ w10 ⟨rfl,F10,Dx,ar,bj⟩;refine NU$ NS$ NW O$ P6 O O$ NT O$ NU ((ih (i+1) _ ⟨⟨F10,?_,(aD.trans iG.kp).NR ar (λk hk=>(lA k hk).symm),λk hk=>?_⟩,by omega⟩ (by omega)).qb)
   ·rw[OY hq,show Qw ((Y5 h).take i++[(v,c)])=Qw ((Y5 h).take i)++Ov c v by simp[Qw]];exact Dx
   ·rcases bj k hk with e| e
    ·exact lA k e
    ·have:=aD.size;have:=iG.size;exact .inr (by omega)
  ·have bX:i=8:=by omega
   subst bX;rw[show(Y5 h).take 8=Y5 h from rfl] at oA;refine O4 O$ qN O$ NT O$ Om z7b O (VM oA) ?_;rintro _ w8 ⟨rfl,rfl⟩;have fD:(Ow (Qw (Y5 h))).length=24:=by rw[OO,Tq]
   refine NT O$ P9 O O$ P9 O O$ Oc O$ Oc O$ qM O$ NT O$ qV (VB O O (by first|omega|(simp;done)|(simp;omega))) ?_;refine NT O$ Oc O$ NZ O$ NV func98 O (⟨_,rfl,?_,((ad.trans ba).trans xH).NR aD (λk hk=>by have:=pO k hk;have:=ae.size;have:=ad.size;omega)⟩);simp[Pn,hdT,z6K]
theorem z5P {w:World}{ga:Option Addr}{gc:Nat}{g:List (List Nat)}(h:GrM w (.slice ga g.length gc) g)(hg:R7 g):Oy prog 97 [.slice ga g.length gc] w λu w'=>u=I (PH g:Int)/\w'=w:=by
 have hn:=hg.n
 obtain⟨vs,eZ,lE⟩:=h.ex
 refine NP (e:=[(0,_)]) func97 O ntmps97 O O$ qN O$ Oc O$ qM O$ NZ O$ py$ qN O$ NT O$ Qx Up O$ NT O$ NU$ NQ$ Qm (α:=Nat) (0) (λi=>[(3,I (PH (g.take i):Int)),(6,.slice ga g.length gc),(7,I (g.length:Int)),(8,I (i:Int))]) (λi w'=>w'=w/\i<=g.length) (λi=>g.length-i) ?hI ?hround
 case hI=>exact⟨rfl,Nat.zero_le _⟩
 case hround=>
  rintro i w4 ⟨rfl,hi⟩ ih;have oN:=T5 hg i
  try dsimp only
  refine qN O$ Py O O$ NU$ py$ O8 O (λh0=>?_)$ λh0=>?_
  ·obtain⟨l,hl⟩:∃l,g[i]? =some l:=⟨_,List.getElem?_eq_getElem (by omega)⟩;have fJ:=hg.len (List.mem_of_getElem? hl);obtain⟨a,c,e1,e2,e3⟩:=lE i l hl
   obtain⟨gb,go,gc',e4⟩:∃b o c',Value.slice ga g.length gc= .slice (some ⟨b,o,none⟩) g.length c':=by
    rcases eZ.2 with⟨c,hc,h0⟩|⟨b,off,c',hc,-⟩
    ·omega
    ·exact⟨b,off,c',hc⟩
   cases e4;have vB:=WY (g.take i) l;rw[<-OY hl] at vB;refine An$ py$ NQ$ qN O$ qV (P7 Up Ro O O (by omega))$ qV (OC OA O O (Ps eZ e1))$ NZ O$ NW O$ Od O O$ Qx OA O$ P6 O O$ NZ O$ NS$ NW O ?_;refine P6 O O$ NT O$ NU ?_;rw[show(PH (g.take i):Int)+(l.length:Int)=(PH (g.take (i+1)):Int) by omega];exact(ih (i+1) _ ⟨rfl,by omega⟩ (by omega)).qb
  ·have bX:i=g.length:=by omega
   subst bX;rw[List.take_length];refine O4 O$ qN O$ NT O$ NZ O$ NV func97 O ?_;exact⟨_,rfl,rfl,rfl⟩
theorem VH (p:PA)(g:List (List Nat))(E:List (Nat×Nat)):∀(d i:Nat),(PL p g E i).length<=(PL p g E (i+d)).length
 |0,i=>Nat.le_refl _
 | d + 1, i => by
   have h:=VH p g E d i;rw[<-Nat.add_assoc,Sc,List.length_append];omega
theorem z7a (p:PA)(g:List (List Nat))(E:List (Nat×Nat))(n:Nat):Nof (Vn p g E n):=by
 unfold Vn Nof
 rw[List.pairwise_map]
 refine List.pairwise_lt_range.imp fun {i j} gP=>?_
 have:=VH p g E (j-i) i
 rwa [show i+(j-i)=j by omega] at this
theorem Zq (p:PA)(g:List (List Nat))(E:List (Nat×Nat)){n i:Nat}(h:i<=n):(Vn p g E n)[i]? =some (PL p g E i).length:=by
 unfold Vn
 rw[List.getElem?_map,List.getElem?_range (by omega)];rfl
theorem zeM (p:PA)(g:List (List Nat))(E:List (Nat×Nat))(n:Nat):∀v∈Vn p g E n,v<=(PL p g E n).length:=λv hv=>by
 unfold Vn at hv
 obtain⟨j,hj,rfl⟩:=List.mem_map.1 hv
 have h1:=List.mem_range.1 hj
 have:=VH p g E (n-j) j
 rwa [show j+(n-j)=n by omega] at this
theorem z2U {l:List Nat}(cT:1<=l.length)(hn:l.length<=64)(m7:Nof l){z:Nat}(hz:l[l.length-1]? =some z):(XF l (T0 l.length (z+1))).length=(T0 l.length (z+1)).size:=by
 have h1:=z0N (T0 l.length (z+1)).width m7 hz
 have h2:=TC (T0 l.length (z+1)).width l
 have h3:(Rk (T0 l.length (z+1)).width l).length=32:=by
  cases l with
  |nil=>simp at cT
  |cons v l=>simp[Rk]
 have h4:(T0 l.length (z+1)).bits=z / 2^(T0 l.length (z+1)).width+l.length:=by
  show(z+1-1) / _+_=_;rw[Nat.add_sub_cancel]
  rfl
 unfold XF Fm.size Fm.TT Fm.high
 rw[List.length_append,List.length_append,List.length_append,OO,OO,OO,OO,List.length_append,bitsN_length,bitsN_length,h1,h2,h3,h4]
 show _=12+(l.length*_+7) / 8+_+4*((l.length+63) / 64)
 have h5:(l.length+63) / 64=1:=by omega
 rw[h5]
def WT (p:PA)(g:List (List Nat))(E:List (Nat×Nat)):NY:=
 hdT ⟨g.length,PH g,p,(PL p g E g.length).length⟩++Ow (PL p g E g.length)++XF (Vn p g E g.length) (T0 (g.length+1) ((PL p g E g.length).length+1))
structure zbs (p:PA)(g:List (List Nat))(E:List (Nat×Nat)):Prop where
 el:E.length=g.length
 ok:zdy p g E
 bits:(PL p g E g.length).length<=2688000
theorem z5Q {w:World}{p:PA}(hp:p.PI){g:List (List Nat)}(hg:R7 g)(aT:1<=g.length){ga:Option Addr}{gc:Nat}(kX:GrM w (.slice ga g.length gc) g)(hG:O9 w 2 (RB .gamma) 317)(hU:O9 w 3 (RB .unary) 317):
  Oy prog 64 [.slice ga g.length gc,bpV p] w λu w'=>∃E,zbs p g E/\u= .tuple #[S (WT p g E),I 0]/\Ext w w':=by
 have hn:=hg.n
 have tJ:=T5 hg g.length
 rw[List.take_length] at tJ
 refine NP (e:=[(0,_),(1,_)]) func64 O ntmps64 O O$ qN O$ O5 O O (Qr O (cs:=Uf p) O) ?_
 rintro _ w1 ⟨b3,rfl,f7,ad,au⟩
 refine Oc O$ Oc O$ qM O$ NT O$ qV (OE (news:=Uf p) ZX O QJ O (au.cells (n:=5) O) O)$ Om zkm O (z7D hp hg (kX.ext ad) (ad.NX hG) (ad.NX hU)) ?_
 rintro _ w2 ⟨E,v,rfl,ry,Km,xm,cA,oz,ae⟩
 have aJ:=ad.trans ae
 have aa:=Ext.Ob w2
 obtain⟨va,vc,rfl,-⟩:=cA.rd.shape
 have xI:=z7a p g E g.length
 have iU:=zeM p g E g.length
 have aF:=z2l p g E g.length
 have rB:=Zq p g E (Nat.le_refl g.length)
 obtain⟨vb,vc2,e5⟩:∃b c,Value.slice va (g.length+1) vc= .slice (some ⟨b,0,none⟩) (g.length+1) c:=by
  rcases cA.shape with⟨-,h0⟩|⟨b,c,e,hc⟩
  ·omega
  ·exact⟨b,c,e⟩
 cases e5
 refine NT O$ qV (QL (v:=S (Ow (PL p g E g.length))) O O)$ qV (QL (v:= .slice (some ⟨vb,0,none⟩) (g.length+1) vc) O O)$ qV (QL (v:=I 0) O O)$ Oc O$ Oc O$ NZ O$ py$ qN O$ NT O$ Pz O O$ NU$ It O$ An ?_
 refine py ?_
 have Kn:PHd.PI ⟨g.length,PH g,p,(PL p g E g.length).length⟩:=⟨aT,(by show g.length<=_;omega),(by show PH g<=_;omega),(by show(PL p g E g.length).length<=_;omega),hp⟩
 refine Qj (λw'=>Ext w2 w') O$ Oj 0 O O (aa)$ O0 1 O (RJ Up O) aa$ Oj 2 O O (aa)$ Oj 5 O O (aa)$ Oj 6 O O (aa)$ O0 7 O (RJ Up O) aa$ O0 8 O (P7 U70 Si O O (by omega)) aa$ qT 4 O (λ_ hS=>OE (news:=Uf p) ZX O QJ O ((hS.NX (ae.NX au)).cells (n:=5) O) O) aa$ qT 9 O (λ_ hS=>OC Qy O O (Ps (cA.ext hS).rd (show((Vn p g E g.length).map u64v)[g.length]? =some (u64v (PL p g E g.length).length) by rw[List.getElem?_map,rB];rfl))) aa ?_
 refine O0 10 O (OT O Qy U3 (by omega)) aa$ RW 3 O zke O (z5P ((kX.ext aJ).ext aa) hg) ?_
 rintro _ w3 ⟨rfl,rfl⟩
 refine⟨aa,?_⟩
 refine O0 11 O (Rt (cs:=[_,_,_,_,_,_,_,_]) T7 O zdh O O) aa$ RW 12 O zjJ O (z8L ⟨g.length,PH g,p,(PL p g E g.length).length⟩ Kn _) ?_
 rintro _ w3 ⟨rfl,ah⟩
 refine⟨aa.trans ah,?_⟩
 have ee:=aa.trans ah
 refine Oj 13 O O (aa.trans ah)$ qT 14 O (λ_ hS=>QL (v:=S (hdT ⟨g.length,PH g,p,(PL p g E g.length).length⟩)) O O) (aa.trans ah)$ O0 16 O (Qq O) (aa.trans ah)$ O0 15 O (QL (v:=I 0) O O) (aa.trans ah)$ O0 17 O (Qq O) (aa.trans ah)$ qE$ OD.qb (e:=[(4,_),(5,_),(6,_),(7,_),(8,_),(9,_)]) ?_
 refine py$ qN O$ NT O$ Pz O O ?_
 have Dy:Rd w3 (.slice (some ⟨vb,0,none⟩) (Vn p g E g.length).length vc) 1 (Vn p g E g.length).length ((Vn p g E g.length).map u64v):=by rw[aF];exact(cA.ext ee).rd
 have hz:(Vn p g E g.length)[(Vn p g E g.length).length-1]? =some (PL p g E g.length).length:=by rw[aF];exact rB
 have C1:=z4D (by omega) (by omega) xI (λv hv=>by have:=iU v hv;omega) Dy hz
 have oN:=z2U (by omega) (by omega) xI hz
 have Ko:(T0 (Vn p g E g.length).length ((PL p g E g.length).length+1)).size<=40000000:=by
  have h1:=z1Y (n:=(Vn p g E g.length).length) (u:=(PL p g E g.length).length+1) (by omega) (by omega) (by omega) (by omega);have h2:=Fm.VN h1;obtain⟨h3,h4,h5⟩:=h1;unfold Fm.size Fm.TT;omega
 rw[aF] at C1 oN Ko
 have oP:=Wg ⟨g.length,PH g,p,(PL p g E g.length).length⟩
 have fD:=OO (PL p g E g.length)
 refine NU$ It O$ An$ qN O$ NT O$ Om zkh O (C1) ?_
 rintro _ w4 ⟨rfl,az⟩
 refine NT O$ qV (QL (v:=S (XF (Vn p g E g.length) (T0 (g.length+1) ((PL p g E g.length).length+1)))) O O)$ qV (QL (v:=I 0) O O)$ Oc O$ Oc O$ qM O$ Od O O$ qV (VB O O (by first|omega|(simp;done)|(simp;omega))) ?_
 refine NT O$ qV (VB O O (by first|omega|(simp;done)|(simp;omega))) ?_
 refine NT O$ Oc O$ NZ O$ NV func64 O ?_
 exact⟨_,rfl,E,⟨ry,Km,xm⟩,rfl,(aJ.trans ee).trans az⟩
/-! ### Bytes of a word, the least first -/
def Pa:List Nat->Nat
 |[]=>0
 |b::r=>b+256*Pa r
theorem Uw {s a b c d:Nat}(hb:b<2^s)(hd:d<2^s):(b+2^s*a)&&&(d+2^s*c)=(b&&&d)+2^s*(a&&&c):=by
 apply Nat.eq_of_testBit_eq
 intro j
 have xm:b&&&d<2^s:=Nat.lt_of_le_of_lt Nat.and_le_left hb
 rw[Nat.testBit_and,Nat.add_comm b,Nat.add_comm d,Nat.add_comm (b&&&d),Nat.testBit_two_pow_mul_add _ hb,Nat.testBit_two_pow_mul_add _ hd,Nat.testBit_two_pow_mul_add _ xm]
 by_cases h:j<s
 ·simp only[if_pos h,Nat.testBit_and]
 ·simp only[if_neg h,Nat.testBit_and]
theorem zc6 {s a b m:Nat}(hb:b<2^s)(hm:m<2^s):(b+2^s*a)&&&m=b&&&m:=by
 have:=Uw (a:=a) (c:=0) hb hm
 simpa using this
theorem z07 (m:Nat)(hm:m<256):∀L:List Nat,(∀b∈L,b<256)->Pa L&&&Pa (List.replicate L.length m)=Pa (L.map (·&&&m))
 |[],_=>by simp[Pa]
 | b :: r, h => by
   have ih:=z07 m hm r (λx hx=>h x (List.mem_cons_of_mem b hx));rw[List.length_cons,List.replicate_succ,Pa,Pa,List.map_cons,Pa,<-ih];exact Uw (s:=8) (h b List.mem_cons_self) hm
theorem z2c (s m:Nat)(hs:s<=8)(hm:m<2^(8-s)):∀L:List Nat,(∀b∈L,b<256)->Pa L / 2^s&&&Pa (List.replicate L.length m)=Pa (L.map λb=>b / 2^s&&&m)
 |[],_=>by simp[Pa]
 | b :: r, h => by
   have ih:=z2c s m hs hm r (λx hx=>h x (List.mem_cons_of_mem b hx));have hb:=h b List.mem_cons_self;have e256:256=2^s*2^(8-s):=by rw[<-Nat.pow_add,show s+(8-s)=8 by omega]
   have hp:0<2^s:=Nat.two_pow_pos s;have tK:b / 2^s<2^(8-s):=by rw[Nat.div_lt_iff_lt_mul hp,Nat.mul_comm,<-e256];exact hb
   have e1:(b+256*Pa r) / 2^s=b / 2^s+2^(8-s)*Pa r:=by
    rw[e256,Nat.mul_assoc,Nat.add_mul_div_left _ _ hp]
   have e2:b / 2^s+2^(8-s)*Pa r=(b / 2^s+2^(8-s)*(Pa r%2^s))+2^8*(Pa r / 2^s):=by
    have h1:=Nat.div_add_mod (Pa r) (2^s);have e3:2^8=2^(8-s)*2^s:=by rw[Nat.mul_comm];exact e256
    rw[e3,Nat.mul_assoc,Nat.add_assoc,<-Nat.mul_add,Nat.add_comm (Pa r%2^s),h1]
   have h3:b / 2^s+2^(8-s)*(Pa r%2^s)<2^8:=by
    have h4:Pa r%2^s+1<=2^s:=Nat.mod_lt _ hp;have h5:=Nat.mul_le_mul_left (2^(8-s)) h4;rw[Nat.mul_add,Nat.mul_one] at h5;have e3:2^8=2^(8-s)*2^s:=by rw[Nat.mul_comm];exact e256
    omega
   have mw:m<2^8:=Nat.lt_of_lt_of_le hm (Nat.pow_le_pow_right (by decide) (by omega));rw[List.length_cons,List.replicate_succ,Pa,Pa,List.map_cons,Pa,<-ih,e1,e2];have:=Uw (s:=8) (a:=Pa r / 2^s) (c:=Pa (List.replicate r.length m)) h3 mw;rw[show m+256*Pa (List.replicate r.length m)=m+2^8*Pa (List.replicate r.length m) from rfl,this,zc6 tK hm]
theorem z0J (f g:Nat->Nat):∀L:List Nat,Pa (L.map f)+Pa (L.map g)=Pa (L.map λb=>f b+g b)
 |[]=>rfl
 | b :: r => by
   rw[List.map_cons,List.map_cons,List.map_cons,Pa,Pa,Pa,<-z0J f g r,Nat.mul_add];omega
theorem z3w:∀L:List Nat,(∀c∈L,c / 16<=4/\c%16<=4)->(Pa L / 16+Pa L)&&&Pa (List.replicate L.length 15)=Pa (L.map λc=>c / 16+c%16)/\Pa L%16<=4
 |[],_=>⟨by simp[Pa],by simp[Pa]⟩
 | c :: r, h => by
   obtain⟨ih,ih2⟩:=z3w r (λx hx=>h x (List.mem_cons_of_mem c hx));obtain⟨h1,h2⟩:=h c List.mem_cons_self;have e:(c+256*Pa r) / 16+(c+256*Pa r)=(c / 16+16*(Pa r%16)+c)+2^8*(Pa r / 16+Pa r):=by omega
   have aZ:c / 16+16*(Pa r%16)+c<2^8:=by omega
   have Dz:(c / 16+16*(Pa r%16)+c)&&&15=c / 16+c%16:=by
    have:=Nat.and_two_pow_sub_one_eq_mod (c / 16+16*(Pa r%16)+c) 4;rw[show(2:Nat)^4-1=15 from rfl,show(2:Nat)^4=16 from rfl] at this;rw[this];omega
   refine⟨?_,by rw[Pa];omega⟩;rw[List.length_cons,List.replicate_succ,Pa,Pa,List.map_cons,Pa,<-ih,e];have:=Uw (s:=8) (a:=Pa r / 16+Pa r) (c:=Pa (List.replicate r.length 15)) aZ (by decide:15<2^8);rw[show 15+256*Pa (List.replicate r.length 15)=15+2^8*Pa (List.replicate r.length 15) from rfl,this,Dz]
theorem z3W:∀L:List Nat,(∀b∈L,b<256)->(Ov (8*L.length) (Pa L)).count true=(L.map λb=>(Ov 8 b).count true).sum
 |[],_=>rfl
 | b :: r, h => by
   have ih:=z3W r (λx hx=>h x (List.mem_cons_of_mem b hx));have hb:=h b List.mem_cons_self;rw[List.length_cons,Nat.mul_add,Nat.mul_one,R8,List.count_append,Pa];have e1:(b+256*Pa r) / 2^8=Pa r:=by omega
   rw[List.map_cons,List.sum_cons,show(Ov 8 (b+256*Pa r))=Ov 8 b from VD (by omega),e1,ih];omega
def s1B (b:Nat):Nat:=(b / 2&&&85)+(b&&&85)
def s2B (b:Nat):Nat:=(b / 4&&&51)+(b&&&51)
theorem z7B:∀b:Fin 256,s1B b<256/\s2B (s1B b)<256/\s2B (s1B b) / 16<=4/\s2B (s1B b)%16<=4/\s2B (s1B b) / 16+s2B (s1B b)%16=(Ov 8 b).count true:=by decide+kernel
theorem WW {b:Nat}(h:b<256):s1B b<256/\s2B (s1B b)<256/\s2B (s1B b) / 16<=4/\s2B (s1B b)%16<=4/\s2B (s1B b) / 16+s2B (s1B b)%16=(Ov 8 b).count true:=z7B ⟨b,h⟩
def Yb (x:Nat):List Nat:=[x%256,x / 256%256,x / 65536%256,x / 16777216%256,x / 4294967296%256,x / 1099511627776%256,x / 281474976710656%256,x / 72057594037927936%256]
theorem z6a {x:Nat}(h:x<18446744073709551616):Pa (Yb x)=x:=by
 simp only[Yb,Pa]
 omega
theorem z99 (x:Nat):∀b∈Yb x,b<256:=λb hb=>by
 simp only[Yb,List.mem_cons,List.not_mem_nil,or_false] at hb
 rcases hb with rfl|rfl|rfl|rfl|rfl|rfl|rfl|rfl<;>exact Nat.mod_lt _ (by decide)
theorem z4T {x:Nat}(h:x<18446744073709551616):∃D:List Nat,D.length=8/\(∀d∈D,d<=8)/\
  ((((x / 2&&&6148914691236517205)+(x&&&6148914691236517205)) / 4&&&3689348814741910323)+(((x / 2&&&6148914691236517205)+(x&&&6148914691236517205))&&&3689348814741910323)) / 16+((((x / 2&&&6148914691236517205)+(x&&&6148914691236517205)) / 4&&&3689348814741910323)+(((x / 2&&&6148914691236517205)+(x&&&6148914691236517205))&&&3689348814741910323))&&&1085102592571150095=Pa D/\D.sum=(Ov 64 x).count true:=by
 have hv:=z6a h
 have hl:=z99 x
 have hL:(Yb x).length=8:=rfl
 generalize Yb x=L at hv hl hL
 have m0:6148914691236517205=Pa (List.replicate L.length 85):=by rw[hL];rfl
 have m1:3689348814741910323=Pa (List.replicate L.length 51):=by rw[hL];rfl
 have m2:1085102592571150095=Pa (List.replicate L.length 15):=by rw[hL];rfl
 have f1:=z2c 1 85 (by decide) (by decide) L hl
 have f2:=z07 85 (by decide) L hl
 rw[show(2:Nat)^1=2 from rfl] at f1
 have ku:∀b∈L.map s1B,b<256:=λb hb=>by
  obtain⟨y,hy,rfl⟩:=List.mem_map.1 hb;exact(WW (hl y hy)).1
 have e1:(x / 2&&&6148914691236517205)+(x&&&6148914691236517205)=Pa (L.map s1B):=by
  rw[m0,<-hv,f1,f2,z0J];rfl
 have f3:=z2c 2 51 (by decide) (by decide) (L.map s1B) ku
 have f4:=z07 51 (by decide) (L.map s1B) ku
 rw[show(2:Nat)^2=4 from rfl] at f3
 rw[List.length_map] at f3 f4
 have e2:(Pa (L.map s1B) / 4&&&3689348814741910323)+(Pa (L.map s1B)&&&3689348814741910323)=Pa ((L.map s1B).map s2B):=by
  rw[m1,f3,f4,z0J];rfl
 rw[e1,e2]
 have gK:∀c∈(L.map s1B).map s2B,c / 16<=4/\c%16<=4:=λc hc=>by
  obtain⟨z,hz,rfl⟩:=List.mem_map.1 hc;obtain⟨y,hy,rfl⟩:=List.mem_map.1 hz;have:=WW (hl y hy);exact⟨this.2.2.1,this.2.2.2.1⟩
 have f5:=(z3w _ gK).1
 rw[List.length_map,List.length_map] at f5
 refine⟨((L.map s1B).map s2B).map λc=>c / 16+c%16,by rw[List.length_map,List.length_map,List.length_map];exact hL,λd hd=>?_,by rw[m2];exact f5,?_⟩
 ·obtain⟨c,hc,rfl⟩:=List.mem_map.1 hd;have:=gK c hc;omega
 ·have tL:=z3W L hl;rw[hL,hv] at tL;rw[show 8*8=64 from rfl] at tL;rw[tL,List.map_map,List.map_map]
  congr 1
  refine List.map_congr_left λb hb=>?_;exact(WW (hl b hb)).2.2.2.2
theorem zaw {D:List Nat}(h8:D.length=8)(hd:∀d∈D,d<=8):let x4:=Pa D+Pa D / 256;let x5:=x4+x4 / 65536;let x6:=x5+x5 / 4294967296;Pa D<1152921504606846976/\x6%128=D.sum/\D.sum<=64:=by
 obtain⟨d0,d1,d2,d3,d4,d5,d6,d7,rfl⟩:∃d0 d1 d2 d3 d4 d5 d6 d7,D=[d0,d1,d2,d3,d4,d5,d6,d7]:=by
  match D,h8 with
  |[a,b,c,d,e,f,g,i],_=>exact⟨a,b,c,d,e,f,g,i,rfl⟩
 have k0:=hd d0 (by simp)
 have k1:=hd d1 (by simp)
 have k2:=hd d2 (by simp)
 have k3:=hd d3 (by simp)
 have k4:=hd d4 (by simp)
 have k5:=hd d5 (by simp)
 have k6:=hd d6 (by simp)
 have k7:=hd d7 (by simp)
 have h3:Pa [d0,d1,d2,d3,d4,d5,d6,d7] / 256=Pa [d1,d2,d3,d4,d5,d6,d7]:=by
  rw[Pa,Nat.add_mul_div_left _ _ (by decide),Nat.div_eq_of_lt (by omega),Nat.zero_add]
 have h4:Pa [d0,d1,d2,d3,d4,d5,d6,d7]+Pa [d1,d2,d3,d4,d5,d6,d7]=(d0+d1+256*(d1+d2))+65536*((d2+d3)+256*(d3+d4)+65536*((d4+d5)+256*(d5+d6)+65536*((d6+d7)+256*d7))):=by
  simp only[Pa];omega
 have h5:(Pa [d0,d1,d2,d3,d4,d5,d6,d7]+Pa [d1,d2,d3,d4,d5,d6,d7]) / 65536=(d2+d3)+256*(d3+d4)+65536*((d4+d5)+256*(d5+d6)+65536*((d6+d7)+256*d7)):=by
  rw[h4,Nat.add_mul_div_left _ _ (by decide),Nat.div_eq_of_lt (by omega),Nat.zero_add]
 dsimp only
 rw[h3,h5,h4]
 have h6:(d0+d1+256*(d1+d2))+65536*((d2+d3)+256*(d3+d4)+65536*((d4+d5)+256*(d5+d6)+65536*((d6+d7)+256*d7)))+((d2+d3)+256*(d3+d4)+65536*((d4+d5)+256*(d5+d6)+65536*((d6+d7)+256*d7)))=
   ((d0+d1+d2+d3)+256*(d1+d2+d3+d4)+65536*((d2+d3+d4+d5)+256*(d3+d4+d5+d6)))+4294967296*((d4+d5+d6+d7)+256*(d5+d6+d7)+65536*(d6+d7+256*d7)):=by omega
 rw[h6,Nat.add_mul_div_left _ _ (by decide),Nat.div_eq_of_lt (by omega),Nat.zero_add]
 refine⟨by simp only[Pa];omega,?_,by simp only[List.sum_cons,List.sum_nil];omega⟩
 simp only[List.sum_cons,List.sum_nil]
 have h7:(d0+d1+d2+d3)+256*(d1+d2+d3+d4)+65536*((d2+d3+d4+d5)+256*(d3+d4+d5+d6))+4294967296*((d4+d5+d6+d7)+256*(d5+d6+d7)+65536*(d6+d7+256*d7))+((d4+d5+d6+d7)+256*(d5+d6+d7)+65536*(d6+d7+256*d7))=
   (d0+d1+d2+d3+d4+d5+d6+d7)+128*(2*(d1+d2+d3+d4)+512*((d2+d3+d4+d5)+256*(d3+d4+d5+d6))+33554432*((d4+d5+d6+d7)+256*(d5+d6+d7)+65536*(d6+d7+256*d7))+(2*(d5+d6+d7)+512*(d6+d7+256*d7))):=by omega
 rw[h7,Nat.add_mul_mod_self_left,Nat.mod_eq_of_lt (by omega)]
 omega
theorem za8 (x:Nat)(hx:x<18446744073709551616)(w:World):Oy prog 264 [u64v x] w λv w'=>v=I ((Ov 64 x).count true:Int)/\w'=w:=by
 obtain⟨D,h1,h2,h3,h4⟩:=z4T hx
 obtain⟨f1,f2,f3⟩:=zaw h1 h2
 have a1:x / 2&&&6148914691236517205<=6148914691236517205:=Nat.and_le_right
 have a2:x&&&6148914691236517205<=6148914691236517205:=Nat.and_le_right
 rw[<-h4]
 refine NP (e:=[(0,_)]) func264 O ntmps264 O O$ qN O$ Oc O$ qM O$ NT O$ qV (R9 1 2 O O (by decide) O)$ qV (Sq O O (by omega) (by omega))$ NT O$ qV (Sq O O (by omega) (by omega))$ qV (QP O O)$ Oc O$ qM O ?_
 rw[Nat.mod_eq_of_lt (show(x / 2&&&6148914691236517205)+(x&&&6148914691236517205)<18446744073709551616 by omega)]
 generalize hy:(x / 2&&&6148914691236517205)+(x&&&6148914691236517205)=y at h3
 have nF:y<18446744073709551616:=by omega
 have a3:y / 4&&&3689348814741910323<=3689348814741910323:=Nat.and_le_right
 have a4:y&&&3689348814741910323<=3689348814741910323:=Nat.and_le_right
 refine NT O$ qV (R9 2 4 O O (by decide) O)$ qV (Sq O O (by omega) (by omega))$ NT O$ qV (Sq O O (by omega) (by omega))$ qV (QP O O)$ Oc O$ qM O ?_
 rw[Nat.mod_eq_of_lt (show(y / 4&&&3689348814741910323)+(y&&&3689348814741910323)<18446744073709551616 by omega)]
 generalize hz:(y / 4&&&3689348814741910323)+(y&&&3689348814741910323)=z at h3
 have il:z<=7378697629483820646:=by omega
 refine NT O$ qV (R9 4 16 O O (by decide) O)$ NT O$ qV (QP O O) ?_
 rw[Nat.mod_eq_of_lt (show z / 16+z<18446744073709551616 by omega)]
 refine qV (Sq O O (by omega) (by omega))$ Oc O$ qM O ?_
 rw[h3]
 generalize Pa D=x3 at f1 f2
 refine Od O O$ qV (R9 8 256 O O (by decide) O)$ qV (QP O O)$ Oc O$ qM O ?_
 rw[Nat.mod_eq_of_lt (show x3+x3 / 256<18446744073709551616 by omega)]
 generalize az:x3+x3 / 256=x4 at f2
 have xJ:x4<=1157495777000000000:=by omega
 refine Od O O$ qV (R9 16 65536 O O (by decide) O)$ qV (QP O O)$ NZ O$ OD.qb (e:=[(0,_),(2,_)]) ?_
 refine qN O ?_
 rw[Nat.mod_eq_of_lt (show x4+x4 / 65536<18446744073709551616 by omega)]
 generalize aR:x4+x4 / 65536=x5 at f2
 have Kq:x5<=1160000000000000000:=by omega
 refine Od O O$ qV (R9 32 4294967296 O O (by decide) O)$ qV (QP O O)$ Oc O$ qM O ?_
 rw[Nat.mod_eq_of_lt (show x5+x5 / 4294967296<18446744073709551616 by omega)]
 generalize aH:x5+x5 / 4294967296=x6 at f2
 have Kr:x6<=1170000000000000000:=by omega
 refine NT O$ qV (OT O Qy U3 (by omega))$ qV (Wp O O (by omega) (by omega)) ?_
 rw[show x6&&&127=D.sum by rw[<-f2];exact Nat.and_two_pow_sub_one_eq_mod x6 7]
 refine NZ O$ NV func264 O ?_
 exact⟨_,rfl,rfl,rfl⟩
theorem z8e {x:Nat}(hx:x<18446744073709551616):P3 x<=64:=Qi (by omega)
theorem z4V (x:Nat)(hx:x<18446744073709551616)(w:World):Oy prog 120 [u64v x] w λv w'=>v=I ((64-P3 x:Nat):Int)/\w'=w:=by
 have sj:=z8e hx
 refine NP (e:=[(0,_)]) func120 O ntmps120 O O$ qN O$ Oc O$ qM O$ NT O$ Om z1V O (Tm x hx w) ?_
 rintro _ w ⟨rfl,rfl⟩
 refine Qp O O ?_
 rw[show(64:Int)-(P3 x:Int)=((64-P3 x:Nat):Int) by omega]
 refine NZ O$ NV func120 O ?_
 exact⟨_,rfl,rfl,rfl⟩
def methT (P:Program)(t:TypeId)(name:String):Option FuncId:=match P.info? t with
 | some i => match i.methods.toList.find? (·.name == name) with
   | some m => match m.path.toList, m.func with
     | [], some (f, pr) => match P.underlying t with
       |some (.pointer _)=>cond pr (some f) none
       |some _=>cond pr none (some f)
       |none=>none
     |_,_=>none
   |none=>none
 |none=>none
section
variable {P:Program}{e:Env}{d:Option Nat}{ty t t':TypeId}{pos:String}{aft:Array Edge}{g:Option (Nat×Bool)}{x y:Operand}{w:World}{m n:Nat}
theorem SV {i:TypeInfo}(h:P.info? t=some i):(typeInfo t).run P w= .ok i w:=by simp[typeInfo,program,Sem.run,h]
theorem z8a {f:FuncId}{name:String}{u:Value}(h:methT P t name=some f)(n:Nat):(method (n+1) t u name).run P w= .ok (f,u) w:=by
 unfold methT at h
 split at h<;>try cases h
 rename_i i hi
 split at h<;>try cases h
 rename_i m hm
 split at h<;>try cases h
 rename_i f' pr ji jj
 have nu:i.methods.find? (·.name==name)=some m:=by rw[<-hm,Array.find?_toList]
 split at h<;>try cases h
 ·rename_i el hu
  cases pr<;>simp at h;subst h;simp[method,SV hi,nu,ji,follow,jj,receiverAt,run_underlying hu,Place.get]
 ·rename_i td HT hu
  cases pr<;>simp at h;subst h;unfold method;simp only[Sem.run_bind,SV hi,Result.andThen_ok,nu,ji,follow,Sem.run_pure,jj,receiverAt,run_underlying hu,Place.get]
theorem yci {f:FuncId}{nm:String}{args:List Operand}{ts:Array TypeId}{vs:List Value}{u:Value}(hf:CF P f)(hm:methT P t nm=some f)(hx:look e x=some (.iface t u))(ha:looks e args=some vs):
  Yc P e ⟨d,.call ⟨.invoke x nm,args.toArray,ts⟩,ty,pos,aft,g⟩ f (u::vs) w:=fun ρ hρ=>by
 have B2:=λw=>z8a (P:=P) (w:=w) (u:=u) hm (P.types.size+(Made.depth-1))
 rw[show P.types.size+(Made.depth-1)+1=P.types.size+Made.depth from rfl] at B2
 have sR:(program).run P w= .ok P w:=rfl
 have nu:=SQ hρ _ _ ha
 have h0:=hρ _ _ hx
 simp[execOp,resolve,nu,h0,Deferred.ofValue,invoke,callMethod,sR,B2,Su hf]
theorem zeQ (hx:look e x=some (I (m:Int)))(hy:look e y=some (I 7))(hm:m<2^62):Y P e ⟨d,.binOp .andNot t x y t',ty,pos,aft,g⟩ (I ((m / 8*8:Nat):Int)) w w:=fun ρ hρ=>by
 have h1:m<2^IntKind.i64.bits:=by simp only[IntKind.bits];omega
 have h3:m&&&18446744073709551608=m / 8*8:=by
  have h4:=Uw (s:=3) (a:=m / 8) (b:=m%8) (c:=2305843009213693951) (d:=0) (Nat.mod_lt _ (by decide)) (by decide);rw[Nat.and_zero,Nat.zero_add,Nat.zero_add] at h4;have h5:=Nat.and_two_pow_sub_one_eq_mod (m / 8) 61;rw[show(2:Nat)^61-1=2305843009213693951 from rfl,Nat.mod_eq_of_lt (by omega)] at h5;rw[h5,show(2:Nat)^3=8 from rfl,show 8*2305843009213693951=18446744073709551608 from rfl,show m%8+8*(m / 8)=m by omega] at h4;rw[h4];omega
 have h6:(BitVec.ofInt IntKind.i64.bits (m:Int)&&&~~~(BitVec.ofInt IntKind.i64.bits 7)).toNat=m / 8*8:=by
  rw[BitVec.toNat_and,PS h1,show(~~~(BitVec.ofInt IntKind.i64.bits 7)).toNat=18446744073709551608 by decide,h3]
 simp only[execOp,eqGuard_andNot,binOp_andNot,intBits_andNot,hρ _ _ hx,hρ _ _ hy,pure_bind,Sem.run_pure,bits,h6]
 rw[wrap_i64 ⟨by omega,by omega⟩]
theorem zjT {r v q:Nat}(hr:r<=63)(hv:v<2^r)(hq:2^r=q)(hx:look e x=some (.int .u64 ((q+v:Nat):Int)))(hy:look e y=some (.int .u64 (q:Int))):Y P e ⟨d,.binOp .andNot t x y t',ty,pos,aft,g⟩ (.int .u64 (v:Int)) w w:=fun ρ hρ=>by
 subst hq
 have hp:2^r<=2^63:=Nat.pow_le_pow_right (by decide) hr
 have sj:2^64=2^r*2^(64-r):=by rw[<-Nat.pow_add,show r+(64-r)=64 by omega]
 have h2:2^(64-r)=2*2^(63-r):=by rw[<-Nat.pow_succ',show 64-r=(63-r)+1 by omega]
 have Ch:0<2^(63-r):=Nat.two_pow_pos _
 have h1:2^r+v<2^IntKind.u64.bits:=by simp only[IntKind.bits];omega
 have h3:2^r<2^IntKind.u64.bits:=by simp only[IntKind.bits];omega
 have h4:(2^r+v)&&&(2^64-1-2^r)=v:=by
  have h5:=Uw (s:=r) (a:=1) (b:=v) (c:=2^(64-r)-2) (d:=2^r-1) hv (by have:=Nat.two_pow_pos r;omega);rw[Nat.mul_one,Nat.and_two_pow_sub_one_eq_mod,Nat.mod_eq_of_lt hv,Nat.one_and_eq_mod_two,h2,show(2*2^(63-r)-2)%2=0 by omega,Nat.mul_zero,Nat.add_zero] at h5
  have h6:2^r-1+2^r*(2*2^(63-r)-2)=2^64-1-2^r:=by
   rw[Nat.mul_sub,<-h2,<-sj];have:=Nat.two_pow_pos r;omega
  rw[h6,Nat.add_comm v] at h5;exact h5
 have h6:(BitVec.ofInt IntKind.u64.bits ((2^r+v:Nat):Int)&&&~~~(BitVec.ofInt IntKind.u64.bits ((2^r:Nat):Int))).toNat=v:=by
  rw[BitVec.toNat_and,BitVec.toNat_not,PS h1,PS h3];exact h4
 simp only[execOp,eqGuard_andNot,binOp_andNot,intBits_andNot,hρ _ _ hx,hρ _ _ hy,pure_bind,Sem.run_pure,bits,h6]
 rw[z0B (k:= .u64) O (by simp only[IntKind.bits];omega)]
end
structure Src (t:TypeId)(u:Value)(T:NY) where
 inv:(Nat->Prop)->World->Prop
 fl:FuncId
 fr:FuncId
 cl:CF prog fl
 cr:CF prog fr
 ml:methT prog t "Length"=some fl
 mr:methT prog t "ReadAt"=some fr
 ext:∀{X Y:Nat->Prop} {w w':World},inv X w->Ext w w'->(∀k,Y k->X k\/w.heap.size<=k)->inv Y w'
 step:∀{X Y S:Nat->Prop} {w w':World},inv X w->Kp S w w'->(∀k,S k->X k)->(∀k,Y k->X k\/w.heap.size<=k)->inv Y w'
 len:∀{X:Nat->Prop} {w:World},inv X w->Oy prog fl [u] w λv w'=>v=I (T.length:Int)/\Ext w w'
 rd:∀{X:Nat->Prop} {w:World} (off n:Nat),inv X w->(∀k,X k->k<w.heap.size)->off+n<=T.length->Oy prog fr [u,I (off:Int),I (n:Int)] w λv w'=>v= .tuple #[S ((T.drop off).take n),I 0]/\inv X w'/\Kp (λk=>¬X k) w w'
theorem Src.own {t:TypeId}{u:Value}{T:NY}(R:Src t u T){X S:Nat->Prop}{w w':World}(h:R.inv X w)(hk:Kp S w w')(hS:∀k,S k->X k):R.inv X w':=R.step h hk hS λ_ e=> .inl e
theorem Xu {s:NY}{i:Nat}{c:UInt8}(h:s[i]? =some c):OK (On (s.take (i+1)))=OK (On (s.take i))*256+c.toNat:=by
 rw[OY h,XD,R1,show On [c]=Ov 8 c.toNat by simp[On],Pk,bitsN_length]
 have:=c.toNat_lt
 omega
theorem VU (s:NY)(hs:s.length<=8)(w:World):Oy prog 184 [S s] w λv w'=>v=u64v (OK (On s))/\Ext w w':=by
 refine NP (e:=[(0,_)]) func184 O ntmps184 O O$ qN O$ Oc O$ qM O$ NZ O$ py$ qN O$ NT O$ O5 O O (z5t U9 Pc U5 O) ?_
 rintro _ w1 ⟨b7,c7,rest,rfl,⟨jQ,ad,ai⟩,AU⟩
 refine Qx Pc O$ NT O$ NU$ NQ$ Qm (α:=Nat) (0) (λi=>[(3,u64v (OK (On (s.take i)))),(7,.slice (some ⟨b7,0,none⟩) s.length c7),(8,I (s.length:Int)),(9,I (i:Int))]) (λi w'=>w'=w1/\i<=s.length) (λi=>s.length-i) ?hI ?hround
 case hI=>exact⟨rfl,Nat.zero_le _⟩
 case hround=>
  rintro i w2 ⟨rfl,hi⟩ ih
  try dsimp only
  refine qN O$ Py O O$ NU$ py$ O8 O (λh0=>?_)$ λh0=>?_
  ·obtain⟨c,hc⟩:∃c,s[i]? =some c:=⟨_,List.getElem?_eq_getElem (by omega)⟩;have cQ:=c.toNat_lt;have eT:=Xu hc
   have aZ:OK (On (s.take i))<72057594037927936:=by
    have h1:=Q8 (On (s.take i));rw[bitsT_length,List.length_take] at h1;have h2:2^(8*min i s.length)<=2^56:=Nat.pow_le_pow_right (by decide) (by omega);omega
   have aW:w2.cell? ⟨b7,0+i*1,none⟩=some (Rb c):=by
    rw[ai.cell,Nat.zero_add,Nat.mul_one,List.getElem?_append_left (by rw[List.length_map];omega),List.getElem?_map,hc];rfl
   refine An$ py$ NQ$ qN O$ qV (P7 Pc Us O O (by omega))$ qV (OC U5 O O aW) ?_
   generalize OK (On (s.take i))=q at eT aZ
   refine NZ O$ NW O$ NT O$ qV (PX 8 256 O O (by decide) O)$ NT O$ qV ((z1a O U5 Qy (by decide)))$ qV (Yf O O (by omega) (by omega)) ?_
   have mm:(q*256%18446744073709551616 |||c.toNat)=OK (On (s.take (i+1))):=by
    rw[eT,Nat.mod_eq_of_lt (by omega),Nat.mul_comm q];exact(Nat.two_pow_add_eq_or_of_lt (i:=8) cQ q).symm
   rw[mm];refine NZ O$ NS$ NW O$ P6 O O$ NT O$ NU ?_;exact(ih (i+1) _ ⟨rfl,by omega⟩ (by omega)).qb
  ·have bX:i=s.length:=by omega
   subst bX;rw[List.take_length];refine O4 O$ qN O$ NT O$ NZ O$ NV func184 O ?_;exact⟨_,rfl,rfl,ad⟩
section
variable {P:Program}{e:Env}{d:Option Nat}{ty t t':TypeId}{pos:String}{aft:Array Edge}{g:Option (Nat×Bool)}{x y:Operand}{w:World}
theorem zci {ms:Array (String×TypeId)}{tx:TypeId}{v:Value}(ht:P.underlying t=some (.interface ms)):(binOp .eql t (.iface tx v) .nilIface).run P w= .ok (.bool false) w:=by
 have h:P.methodsAt t=ms:=by unfold Program.methodsAt;rw[ht]
 exact run_eql_held_nil w t tx v (by rw[h];exact ht)
theorem zdZ {ms:Array (String×TypeId)}{tx:TypeId}{v:Value}(ht:P.underlying t=some (.interface ms))(hx:look e x=some (.iface tx v))(hy:look e y=some .nilIface):Y P e ⟨d,.binOp .eql t x y t',ty,pos,aft,g⟩ (.bool false) w w:=fun ρ hρ=>by
 have hg:∀a b,(eqGuard .eql t a b (.iface tx v) .nilIface).run P w= .ok () w:=λa b=>rfl
 simp only[execOp,hρ _ _ hx,hρ _ _ hy,Sem.run_bind,hg,Result.andThen_ok,zci ht,Sem.run_pure]
theorem zi9 {tx:TypeId}{v:Value}(hx:look e x=some (.iface tx v)):Y P e ⟨d,.nilCheck x,ty,pos,aft,g⟩ (.iface tx v) w w:=fun ρ hρ=>by simp[execOp,hρ _ _ hx]
end
structure Uv (l:List Nat)(f:Fm)(z:Nat):Prop where
 n1:1<=l.length
 n2:l.length<=64
 nof:Nof l
 last:l[l.length-1]? =some z
 zb:z<=999999998
 fe:f=T0 l.length (z+1)
theorem Uv.small {l:List Nat}{f:Fm}{z:Nat}(h:Uv l f z):f.small:=by
 rw[h.fe]
 exact z1Y h.n1 (by have:=h.n2;omega) (by omega) (by have:=h.zb;omega)
theorem Uv.len {l:List Nat}{f:Fm}{z:Nat}(h:Uv l f z):(XF l f).length=f.size:=by
 rw[h.fe]
 exact z2U h.n1 h.n2 h.nof h.last
theorem Uv.n {l:List Nat}{f:Fm}{z:Nat}(h:Uv l f z):f.n=l.length:=by rw[h.fe];rfl
theorem Uv.u {l:List Nat}{f:Fm}{z:Nat}(h:Uv l f z):f.u=z+1:=by rw[h.fe];rfl
theorem Uv.size_le {l:List Nat}{f:Fm}{z:Nat}(h:Uv l f z):f.size<=40000000/\12<=f.size:=by
 have h1:=h.small
 have h2:=Fm.VN h1
 obtain⟨h3,h4,h5⟩:=h1
 unfold Fm.size Fm.TT
 have:12<=f.high:=by unfold Fm.high;omega
 omega
theorem piece {A B C:NY}{off n o:Nat}(h:off=A.length+o)(hn:o+n<=B.length):((A++B++C).drop off).take n=(B.drop o).take n:=by
 rw[h,List.append_assoc,List.drop_length_add_append,List.drop_append_of_le_length (by omega),List.take_append_of_le_length (by rw[List.length_drop];omega)]
def Sa (f:Fm):List Bool:=Ov 32 f.n++Ov 64 f.u
theorem z1g (f:Fm):On (Ow (Sa f))=Sa f:=by
 obtain⟨z,h1,h2,h3⟩:=Rq (Sa f)
 have hl:(Sa f).length=96:=by simp[Sa]
 have hz:z=0:=by omega
 rw[h1,hz,List.replicate_zero,List.append_nil]
theorem TM (f:Fm):(Ow (Sa f)).length=12:=by
 rw[OO];simp[Sa]
theorem zeN (f:Fm)(hn:f.n<4294967296):OK (On ((Ow (Sa f)).take 4))=f.n:=by
 rw[TO,z1g]
 unfold Sa
 rw[List.take_left' (by simp),Pk]
 exact Nat.mod_eq_of_lt hn
theorem zeI (f:Fm)(hu:f.u<18446744073709551616):OK (On ((Ow (Sa f)).drop 4))=f.u:=by
 rw[SM,z1g]
 unfold Sa
 rw[List.drop_left' (by simp),Pk]
 exact Nat.mod_eq_of_lt hu
theorem za1 (l:List Nat)(f:Fm):((XF l f).drop 0).take 12=Ow (Sa f):=by
 have h:=piece (A:=[]) (B:=Ow (Sa f)) (C:=Ow (RA f.width l)++(Ow (hiB f.width 0 0 l)++Ow (Rk f.width l))) (off:=0) (n:=12) (o:=0) O (by rw[TM];omega)
 rw[List.nil_append] at h
 unfold XF
 rw[List.append_assoc,List.append_assoc]
 refine h.trans ?_
 rw[List.drop_zero,List.take_of_length_le (by rw[TM];omega)]
def elC (f:Fm)(t:TypeId)(u:Value):List Value:=[I (f.n:Int),u64v f.u,I (f.width:Int),I (f.bits:Int),.iface t u]
theorem z6c {t:TypeId}{u:Value}{l:List Nat}{f:Fm}{z:Nat}(he:Uv l f z)(R:Src t u (XF l f)){X:Nat->Prop}{w:World}(hI:R.inv X w)(hX:∀k,X k->k<w.heap.size):
  Oy prog 149 [.iface t u] w λv w'=>∃x,v= .tuple #[ptr x 0,I 0]/\O9 w' x (elC f t u) 295/\w.heap.size<=x/\R.inv (λk=>X k\/k=x) w'/\Kp (λk=>¬X k) w w':=by
 obtain⟨dm,dc⟩:=he.size_le
 have aF:=he.len
 have pB:=he.n
 have AZ:=he.u
 have jB:=he.n2
 have cT:=he.n1
 have vT:=he.zb
 refine NP (e:=[(0,_)]) func149 O ntmps149 O O$ qN O$ Oc O$ NZ O$ py$ NQ$ qN O$ NT O$ qV (zdZ z5I O O)$ NZ O$ It O$ qN O$ NT O$ PG O O (yci R.cl R.ml O O) (R.len hI) ?_
 rintro _ w1 ⟨rfl,ad⟩
 rw[aF]
 have m9:=R.ext hI ad (λk hk=> .inl hk)
 have iH:∀k,X k->k<w1.heap.size:=λk hk=>by have:=hX k hk;have:=ad.size;omega
 refine Py O O$ OR$ NZ O$ It O$ An$ NS$ qN O$ NT O$ PG O O (yci R.cr R.mr O O) (R.rd 0 12 m9 iH (by rw[aF];omega)) ?_
 rintro _ w2 ⟨rfl,cO,aq⟩
 rw[za1]
 have dx:Kp (λk=>¬X k) w w2:=ad.kp.trans aq
 have gN:∀k,X k->k<w2.heap.size:=λk hk=>by have:=iH k hk;have:=aq.size;omega
 have oP:=TM f
 have tw:((Ow (Sa f)).take 4).length<=8:=by rw[List.length_take];omega
 have qU:((Ow (Sa f)).drop 4).length<=8:=by rw[List.length_drop];omega
 have B3:=zeN f (by omega)
 have HU:=zeI f (by omega)
 generalize Ow (Sa f)=hb at oP tw qU B3 HU
 have aa:=Ext.Ob w2
 refine NT O$ P9 O O$ P9 O O$ Oc O$ NZ O$ py$ qN O$ NT O$ Pz O O$ NU$ It O$ An$ py$ Qj (λw'=>Ext w2 w') O ?_
 refine Oj 0 O O (aa)$ O0 1 O (z1R U9 O O (by omega)) aa$ Oj 3 O O (aa)$ O0 4 O (YW U9 O O (by omega)) aa$ RW 2 O z7g O (VU (hb.take 4) tw _) ?_
 rintro _ w3 ⟨rfl,ah⟩
 refine⟨aa.trans ah,?_⟩
 refine RW 5 O z7g O (VU (hb.drop 4) qU _) ?_
 rintro _ w4 ⟨rfl,az⟩
 refine⟨(aa.trans ah).trans az,?_⟩
 have dw:=(aa.trans ah).trans az
 rw[B3,HU]
 have kZ:=R.ext cO dw (λk hk=> .inl hk)
 refine O0 6 O (Qq O) ((aa.trans ah).trans az)$ O0 7 O (Qq O) ((aa.trans ah).trans az)$ qE$ OD.qb (e:=[(0,_),(2,_),(3,_),(6,_),(7,_)]) ?_
 refine py$ qN O$ NT O$ PD O O$ OR$ Od O O$ PD O O$ OR$ OU O O$ Od O O$ Qe O O$ OR$ NT O$ Qe O O ?_
 refine OR$ qV (zdE O O U4)$ OU O O$ NU$ It O$ An$ qN O$ NT O$ qV (OT O Qy U3 (by omega))$ NT O ?_
 have Ks:T0 f.n f.u=f:=by rw[pB,AZ];exact he.fe.symm
 have kL:=WG f.n f.u (by omega) (by omega) (by omega) (by omega) w4
 rw[Ks] at kL
 refine Om za6 O (kL) ?_
 rintro _ w5 ⟨rfl,aR⟩
 refine O5 O O (QU (cs:=[_,_,_,_]) Sy O) ?_
 rintro _ w6 ⟨b8,rfl,ib,aH,cn⟩
 refine Oe O (P4 (news:=fmC f) Sy O O O O cn (by simp)) ?_
 rintro w7 ⟨qa,aD⟩
 replace qa:O9 w7 b8 (fmC f) 234:=qa
 have pS:Ext w5 w7:=aH.NR aD (λi e=>by omega)
 have xK:=aR.trans pS
 have jF:=R.ext kZ xK (λk hk=> .inl hk)
 refine NU$ py$ qN O$ qV (OE (news:=fmC f) z36 O Sy O (qa.cells (n:=4) O) O)$ Om zdJ O (z1i f he.small _) ?_
 rintro _ w8 ⟨rfl,dq⟩
 have nG:=R.ext jF dq (λk hk=> .inl hk)
 refine NT O$ PG O O (yci R.cl R.ml O O) (R.len nG) ?_
 rintro _ w9 ⟨rfl,eY⟩
 rw[aF]
 have gM:=R.ext nG eY (λk hk=> .inl hk)
 have iG:=dq.trans eY
 have xL:=(dw.trans xK).trans iG
 refine Pz O O$ OR$ NU$ OD.qb (e:=[(0,_),(2,_),(3,_),(8,_),(51,_)]) ?_
 refine It O$ An$ qN O$ qV (OE (news:=fmC f) z36 O Sy O ((iG.NX qa).cells (n:=4) O) O)$ NT O$ qV (Rt (cs:=[_,_,_,_,_]) zhD O zgH O O)$ O5 O O (Qr O (cs:=elC f t u) O) ?_
 rintro _ w10 ⟨x,rfl,hx,bC,dr⟩
 refine Oc O$ NZ O$ NV func149 O ?_
 exact⟨_,rfl,x,rfl,dr,by have:=dx.size;have:=xL.size;omega,R.ext gM bC (λk hk=>hk.imp id λe=>by omega),dx.trans (xL.trans bC).kp⟩
theorem z8B {t:TypeId}{u:Value}{f:Fm}{x:Nat}{w:World}(hB:O9 w x (elC f t u) 295):Oy prog 150 [ptr x 0] w λv w'=>v=I (f.n:Int)/\w'=w:=by
 replace hB:O9 w x [I (f.n:Int),u64v f.u,I (f.width:Int),I (f.bits:Int),.iface t u] 295:=hB
 refine NP (e:=[(0,_)]) func150 O ntmps150 O O$ qN O$ NZ O$ py$ qN O$ NT O$ qV (Pt z2O O O)$ NU$ It O$ An$ qN O$ NT O$ OH O$ Og Rx O ?_
 refine Og XG O$ qV (O6 U3 O O hB O)$ NZ O$ NV func150 O ?_
 exact⟨_,rfl,rfl,rfl⟩
theorem zaL (k:Nat)(a b:List Nat):RA k (a++b)=RA k a++RA k b:=by simp[RA]
theorem zc1 {k i v:Nat}{l:List Nat}(h:l[i]? =some v)(rest:List Bool):((RA k l++rest).drop (i*k)).take k=Ov k (v%2^k):=by
 have hi:=(List.getElem?_eq_some_iff.1 h).1
 have e:l=l.take i++(v::l.drop (i+1)):=by
  conv=>lhs;rw[<-List.take_append_drop i l]
  congr 1
  rw[List.drop_eq_getElem_cons hi,(List.getElem?_eq_some_iff.1 h).2]
 have hl:(RA k (l.take i)).length=i*k:=by rw[TC,List.length_take,Nat.min_eq_left (by omega)]
 rw[e,zaL,List.append_assoc,List.drop_left' hl]
 show((Ov k (v%2^k)++RA k (l.drop (i+1)))++rest).take k=_
 rw[List.append_assoc,List.take_left' (by simp)]
theorem z0Y {B:NY}{o n a m:Nat}(h:a+m<=8*n):((On ((B.drop o).take n)).drop a).take m=((On B).drop (8*o+a)).take m:=by
 rw[TO,SM,List.drop_take,List.drop_drop,List.take_take,Nat.min_eq_left (by omega)]
theorem zd1 (l:List Nat)(f:Fm){o n:Nat}(h:o+n<=(Ow (RA f.width l)).length):((XF l f).drop (12+o)).take n=((Ow (RA f.width l)).drop o).take n:=by
 unfold XF
 rw[List.append_assoc (Ow (Ov 32 f.n++Ov 64 f.u)++Ow (RA f.width l))]
 exact piece (by rw[show Ow (Ov 32 f.n++Ov 64 f.u)=Ow (Sa f) from rfl,TM]) h
theorem z8S {t:TypeId}{u:Value}{l:List Nat}{f:Fm}{z:Nat}(he:Uv l f z)(R:Src t u (XF l f)){X:Nat->Prop}{w:World}(hI:R.inv X w)(hX:∀k,X k->k<w.heap.size){x:Nat}(hx:X x)(hB:O9 w x (elC f t u) 295){i v:Nat}(hv:l[i]? =some v):
  Oy prog 257 [ptr x 0,I (i:Int)] w λr w'=>r= .tuple #[u64v (v%2^f.width),I 0]/\R.inv X w'/\Kp (λk=>¬X k) w w':=by
 have bX:=(List.getElem?_eq_some_iff.1 hv).1
 have aF:=he.len
 obtain⟨wK,xM⟩:=he.size_le
 have jB:=he.n2
 have oO:f.width<=30:=by rw[he.fe];exact Yu (by have:=he.zb;omega)
 replace hB:O9 w x [I (f.n:Int),u64v f.u,I (f.width:Int),I (f.bits:Int),.iface t u] 295:=hB
 refine NP (e:=[(0,_),(1,_)]) func257 O ntmps257 O O$ qN O$ Oc O$ NZ O$ py$ qN O$ NT O$ OH O$ Og Rx O$ Og Ss O$ qV (O6 U3 O O hB O)$ Qe O O$ NU$ O8 O (λh0=>?_)$ λh0=>?_
 ·have mP:f.width=0:=by omega
  refine qN O$ Oc O$ NZ O$ NV func257 O (⟨_,rfl,?_,hI,Kp.refl _ _⟩);rw[mP,Nat.pow_zero,Nat.mod_one]
  rfl
 ·have Hw:1<=f.width:=by omega
  have Kt:i*f.width<=64*30:=Nat.mul_le_mul (by omega) oO;have HV:(i+1)*f.width=i*f.width+f.width:=by rw[Nat.add_mul,Nat.one_mul]
  have dF:(i+1)*f.width<=l.length*f.width:=Nat.mul_le_mul_right _ bX;have e1:((i*f.width:Nat):Int)=(i:Int)*(f.width:Int):=Int.natCast_mul _ _;have e2:(((i+1)*f.width:Nat):Int)=((i:Int)+1)*(f.width:Int):=Int.natCast_mul _ _;have hg:=Ext.Ob w;refine An$ py$ Qj (λw'=>Ext w w') O$ Oj 0 O O (hg)$ Oj 1 O O (hg)$ O0 2 O (Pq O) hg$ O0 3 O (OG Rx O) hg$ O0 4 O (OG Ss O) hg$ qT 5 O (λ_ h=>O6 U3 O O (h.NX hB) O) hg$ Oj 7 O O (hg)$ O0 8 O (TK O O (by omega)) hg$ Oj 9 O O (hg)$ O0 10 O (Pq O) hg$ O0 11 O (OG Rx O) hg ?_;refine O0 12 O (OG Ss O) hg$ qT 13 O (λ_ h=>O6 U3 O O (h.NX hB) O) hg$ O0 6 O (Xa O O (by rw[<-e1];omega)) hg ?_;rw[<-e1];refine O0 15 O (Qq O) hg$ O0 14 O (Xa O O (by rw[<-e2];omega)) hg ?_;rw[<-e2,HV];refine O0 16 O (Qq O) hg$ qE$ OD.qb (e:=[(0,_),(4,_),(5,_),(6,_),(7,_)]) ?_;refine qN O$ NT O$ OH O$ Og z2N O$ qV (O6 z5I O O hB O)$ NT O$ qV (UH O O (by omega))$ P6 O O$ NT O$ P6 O O$ qV (UH O O (by omega))$ NT O$ qV (UH O O (by omega))$ Qp O O ?_;have xN:=hg.NX hB;have Ku:=R.ext hI hg (λk hk=> .inl hk);have Kv:∀k,X k->k<w.drew.heap.size:=λk hk=>by have:=hX k hk;have:=hg.size;omega
  have DA:(Ow (RA f.width l)).length=(l.length*f.width+7) / 8:=by rw[OO,TC]
  have DB:=zc1 (k:=f.width) hv;have pp:∀rest,((RA f.width l++rest).drop (i*f.width)).take f.width=Ov f.width (v%2^f.width):=DB;rw[HV] at dF
  generalize i*f.width=fr at Kt dF pp e1
  rw[show(12:Int)+(fr:Int) / 8=((12+fr / 8:Nat):Int) by omega,show((fr+f.width:Nat):Int)+7=((fr+f.width+7:Nat):Int) by omega,show((fr+f.width+7:Nat):Int) / 8-(fr:Int) / 8=(((fr+f.width+7) / 8-fr / 8:Nat):Int) by omega];have tM:fr / 8+((fr+f.width+7) / 8-fr / 8)<=(Ow (RA f.width l)).length:=by rw[DA];omega
  have lz:=zd1 l f tM
  have tN:12+fr / 8+((fr+f.width+7) / 8-fr / 8)<=(XF l f).length:=by
   have e:(XF l f).length=12+(Ow (RA f.width l)).length+(Ow (hiB f.width 0 0 l)).length+(Ow (Rk f.width l)).length:=by
    unfold XF;rw[List.length_append,List.length_append,List.length_append,show Ow (Ov 32 f.n++Ov 64 f.u)=Ow (Sa f) from rfl,TM]
   omega
  refine PG O O (yci R.cr R.mr O O) (R.rd (12+fr / 8) ((fr+f.width+7) / 8-fr / 8) Ku Kv tN) ?_;rintro _ w1 ⟨rfl,m9,aK⟩;rw[lz];have iI:Kp (λk=>¬X k) w w1:=hg.kp.trans aK;have ai:=iI.NX hB (λe=>e hx)
  have fD:(((Ow (RA f.width l)).drop (fr / 8)).take ((fr+f.width+7) / 8-fr / 8)).length=(fr+f.width+7) / 8-fr / 8:=by
   rw[List.length_take,List.length_drop];omega
  obtain⟨zz,il,-,-⟩:=Rq (RA f.width l);have ce:=z0Y (B:=Ow (RA f.width l)) (o:=fr / 8) (n:=(fr+f.width+7) / 8-fr / 8) (a:=fr%8) (m:=f.width) (by omega);rw[show 8*(fr / 8)+fr%8=fr by omega,il,pp] at ce
  generalize ((Ow (RA f.width l)).drop (fr / 8)).take ((fr+f.width+7) / 8-fr / 8)=pt at fD ce
  refine NT O$ P9 O O$ P9 O O$ Oc O$ NZ O$ py$ qN O$ NT O$ Pz O O$ NU$ OD.qb (e:=[(0,_),(4,_),(5,_),(6,_),(8,_),(9,_),(52,_)]) ?_;refine It O$ An$ qN O$ NT O$ Om z6C O (VW pt (by omega) w1) ?_;rintro _ w2 ⟨r,rfl,cK,ae,dv⟩;refine Oc O$ qM O$ Od O O$ qV (Wp O O (by omega) (by omega)) ?_;rw[show fr&&&7=fr%8 from Nat.and_two_pow_sub_one_eq_mod fr 3];refine Om z9O O (Y8 cK (fr%8) (by omega)) ?_;rintro _ w3 ⟨rfl,ld,aw⟩;have ba:Ext w1 w3:=ae.NR aw (λi e=>by omega);have au:=ba.NX ai;refine qM O$ Od O O$ OH O$ Og Rx O$ Og Ss O$ qV (O6 U3 O O au O)$ Om z4v O (Ui ld f.width (by omega)) ?_;rintro v4 w4 vh
  have fY:v4= .tuple #[u64v (v%2^f.width),I 0]/\Kp (λk=>k=r) w3 w4:=by
   rcases vh with⟨-,e,-,hk⟩|⟨e,-,-⟩
   ·rw[ce,Pk,Nat.mod_mod] at e;exact⟨e,hk⟩
   ·omega
  obtain⟨rfl,ao⟩:=fY;have cX:Ext w1 w4:=ba.NR ao (λi e=>by omega);refine NT O$ P9 O O$ P9 O O$ Oc O$ NZ O$ OD.qb (e:=[(4,_),(5,_),(11,_)]) ?_;refine qN O$ NT O$ Oc O$ NZ O$ NV func257 O ?_;exact⟨_,rfl,rfl,R.ext m9 cX (λk hk=> .inl hk),iI.trans cX.kp⟩
theorem z0w (n:Nat):OK (List.replicate n false)=0:=by
 rw[<-UT,Pk];simp
theorem z4H (b:List Bool)(k:Nat):OK (b++List.replicate k false)=OK b*2^k:=by
 rw[R1,z0w,List.length_replicate,Nat.add_zero]
theorem z1C (b:List Bool)(k:Nat):OK (List.replicate k false++b)=OK b:=by
 rw[R1,z0w];simp
theorem z0o {D:List Bool}{a b m:Nat}(ha:m<=D.length+a)(hb:m<=D.length+b):(D++List.replicate a false).take m=(D++List.replicate b false).take m:=by
 rw[List.take_append,List.take_append,List.take_replicate,List.take_replicate,Nat.min_eq_left (by omega),Nat.min_eq_left (by omega)]
def wdB (H:List Bool)(a:Nat):List Bool:=List.replicate (a%8) false++(H.drop a++List.replicate 64 false).take (64-a%8)
theorem z6P (H:List Bool)(a:Nat):(wdB H a).length=64:=by
 unfold wdB
 rw[List.length_append,List.length_replicate,List.length_take,List.length_append,List.length_replicate]
 omega
theorem z86 {H:List Bool}{fq n:Nat}(hf:8*fq<H.length)(hn:n=min 8 ((H.length+7) / 8-fq)):
  On (((Ow H).drop fq).take n)++List.replicate (64-8*n) false=(H.drop (8*fq)++List.replicate 64 false).take 64:=by
 obtain⟨z,h1,h2,h3⟩:=Rq H
 rw[TO,SM,h1,List.drop_append_of_le_length (by omega)]
 have hD:(H.drop (8*fq)).length=H.length-8*fq:=List.length_drop
 generalize H.drop (8*fq)=D at hD
 rcases Nat.lt_or_ge n 8 with h| h
 ·have e:8*n=D.length+z:=by omega
  rw[List.take_of_length_le (by rw[List.length_append,List.length_replicate];omega),List.append_assoc,List.replicate_append_replicate];rw[z0o (a:=64) (b:=z+(64-8*n)) (by omega) (by omega),List.take_of_length_le (by rw[List.length_append,List.length_replicate];omega)]
 ·have e:n=8:=by omega
  subst e;rw[show 64-8*8=0 from rfl,List.replicate_zero,List.append_nil];exact z0o (by omega) (by omega)
theorem z7Q {W:List Bool}(hW:W.length=64){d:Nat}(hd:d<=64):OK W%2^(64-d)=OK (List.replicate d false++W.drop d):=by
 have h1:=R1 (W.take d) (W.drop d)
 rw[List.take_append_drop,List.length_drop,hW] at h1
 have h2:=Q8 (W.drop d)
 rw[List.length_drop,hW] at h2
 rw[z1C,h1,Nat.add_comm,Nat.add_mul_mod_self_right,Nat.mod_eq_of_lt h2]
theorem z9c {H:List Bool}{a:Nat}(ha:a<H.length):List.replicate (a%8) false++((H.drop (8*(a / 8))++List.replicate 64 false).take 64).drop (a%8)=wdB H a:=by
 unfold wdB
 congr 1
 have hd:a%8<=(H.drop (8*(a / 8))).length:=by rw[List.length_drop];omega
 rw[List.drop_take,List.drop_append_of_le_length hd,List.drop_drop,show 8*(a / 8)+a%8=a by omega]
theorem zb6 {H:List Bool}{a r:Nat}(ha:a<H.length)(hr:a / 8*8+64=H.length+r):∃q,OK (wdB H a)=q*2^r:=by
 have hD:(H.drop a).length=H.length-a:=List.length_drop
 refine⟨OK (List.replicate (a%8) false++H.drop a),?_⟩
 rw[<-z4H]
 congr 1
 unfold wdB
 rw[List.append_assoc,z0o (a:=64) (b:=r) (by omega) (by omega),List.take_of_length_le (by rw[List.length_append,List.length_replicate];omega)]
theorem z8C {d:Nat}(hd:d<=64):18446744073709551615 / 2^d=2^(64-d)-1:=by
 have hp:0<2^d:=Nat.two_pow_pos d
 have h1:2^64=2^d*2^(64-d):=by rw[<-Nat.pow_add,show d+(64-d)=64 by omega]
 have h2:0<2^(64-d):=Nat.two_pow_pos _
 have h3:18446744073709551615=(2^d-1)+2^d*(2^(64-d)-1):=by
  rw[Nat.mul_sub,<-h1,Nat.mul_one];have h4:2^d<=2^64:=Nat.pow_le_pow_right (by decide) hd;omega
 rw[h3,Nat.add_mul_div_left _ _ hp,Nat.div_eq_of_lt (by omega),Nat.zero_add]
theorem z6w {b:List Bool}(h:b.length=64):OK b<18446744073709551616:=by
 have:=Q8 b
 rw[h] at this
 exact this
theorem zeo (l:List Nat)(f:Fm)(hf:f.high=12+(Ow (RA f.width l)).length){o n:Nat}(h:o+n<=(Ow (hiB f.width 0 0 l)).length):((XF l f).drop (f.high+o)).take n=((Ow (hiB f.width 0 0 l)).drop o).take n:=by
 unfold XF
 exact piece (by rw[List.length_append,show Ow (Ov 32 f.n++Ov 64 f.u)=Ow (Sa f) from rfl,TM,hf]) h
theorem Uv.high {l:List Nat}{f:Fm}{z:Nat}(he:Uv l f z):f.high=12+(Ow (RA f.width l)).length:=by
 unfold Fm.high
 rw[OO,TC,he.n]
theorem Uv.bits {l:List Nat}{f:Fm}{z:Nat}(he:Uv l f z):f.bits=(hiB f.width 0 0 l).length:=by
 rw[z0N f.width he.nof he.last]
 rw[he.fe]
 show(z+1-1) / _+_=_
 rw[Nat.add_sub_cancel]
 rfl
theorem z4N {t:TypeId}{u:Value}{l:List Nat}{f:Fm}{z:Nat}(he:Uv l f z)(R:Src t u (XF l f)){X:Nat->Prop}{w:World}(hI:R.inv X w)(hX:∀k,X k->k<w.heap.size){x b3 b8 v0:Nat}(hx:X x)(h3:X b3)(h8:X b8)(sh:b8≠x/\b8≠b3)(hB:O9 w x (elC f t u) 295)(au:O9 w b3 [ptr x 0] 163)(cn:O9 w b8 [u64v v0] 23){a:Nat}(ha:a<f.bits):
  Oy prog 263 [I (a:Int),ptr b3 0,ptr b8 0] w λr w'=>r=I 0/\R.inv X w'/\Kp (λk=>¬X k\/k=b8) w w'/\O9 w' b8 [u64v (OK (wdB (hiB f.width 0 0 l) a))] 23:=by
 have aF:=he.len
 obtain⟨wK,xM⟩:=he.size_le
 have nH:=he.small
 have oP:=Fm.VN nH
 have fu:=nH.2.2
 have ce:=he.bits
 have xO:=he.high
 have fD:(Ow (hiB f.width 0 0 l)).length=(f.bits+7) / 8:=by rw[OO,ce]
 replace hB:O9 w x [I (f.n:Int),u64v f.u,I (f.width:Int),I (f.bits:Int),.iface t u] 295:=hB
 refine NP (e:=[(0,_),(1,_),(2,_)]) func263 O ntmps263 O O$ qN O$ Oc O$ qM O$ NT O$ qV (zeQ O O (by omega))$ Oc O$ qM O$ qV ((O6 z2O O O au O))$ OH O$ Og Rx O$ Og Xx O$ qV ((O6 U3 O O hB O))$ P6 O O ?_
 refine qV (UH O O (by omega))$ NT O$ qV (UH O O (by omega))$ Qp O O ?_
 rw[show((f.bits:Int)+7) / 8-((a / 8*8:Nat):Int) / 8=(((f.bits+7) / 8-a / 8:Nat):Int) by omega]
 refine qV (ymi O O) ?_
 rw[show min (8:Int) (((f.bits+7) / 8-a / 8:Nat):Int)=((min 8 ((f.bits+7) / 8-a / 8):Nat):Int) by omega]
 obtain⟨n,hn⟩:∃n,n=min 8 ((f.bits+7) / 8-a / 8):=⟨_,rfl⟩
 rw[<-hn]
 have hg:=Ext.Ob w
 refine NZ O$ py$ Qj (λw'=>Kp (λk=>¬X k) w w') O$ qT 0 O (λ_ hS=>(O6 z2O O O (hS.NX au (λe=>e h3)) O)) (hg.kp)$ O0 1 O (Pq O) (hg.kp)$ O0 2 O (OG z2N O) (hg.kp)$ qT 3 O (λ_ hS=>(O6 z5I O O (hS.NX hB (λe=>e hx)) O)) (hg.kp)$ qT 4 O (λ_ hS=>(O6 z2O O O (hS.NX au (λe=>e h3)) O)) (hg.kp)$ O0 5 O (Pq O) (hg.kp)$ O0 6 O (OG Rx O) (hg.kp)$ Oj 9 O O (hg.kp)$ O0 10 O (UH O O (by omega)) (hg.kp)$ Oj 12 O O (hg.kp)$ qT 7 O (λ_ hS=>OE (news:=fmC f) z36 O Sy O ((hS.NX hB (λe=>e hx)).cells (n:=4) O) O) (hg.kp) ?_
 refine O0 13 O (zi9 O) (hg.kp)$ Oj 14 O O (hg.kp)$ RW 8 O zdi O (z2S f nH _) ?_
 rintro _ w1 ⟨rfl,ad⟩
 refine⟨(hg.trans ad).kp,?_⟩
 have bG:=hg.trans ad
 refine O0 11 O (TK O O (by omega)) ((hg.trans ad).kp) ?_
 rw[show(f.high:Int)+((a / 8*8:Nat):Int) / 8=((f.high+a / 8:Nat):Int) by omega]
 have m9:=R.ext hI bG (λk hk=> .inl hk)
 have iH:∀k,X k->k<w1.heap.size:=λk hk=>by have:=hX k hk;have:=bG.size;omega
 have tM:a / 8+n<=(Ow (hiB f.width 0 0 l)).length:=by rw[fD];omega
 have tN:f.high+a / 8+n<=(XF l f).length:=by
  rw[aF];have e:f.size=f.TT+4*((f.n+63) / 64):=rfl;have e2:f.TT=f.high+(f.bits+7) / 8:=rfl;omega
 have lz:=zeo l f xO tM
 have nD:=z86 (H:=hiB f.width 0 0 l) (fq:=a / 8) (n:=n) (by omega) (by rw[<-ce];exact hn)
 refine qO 15$ Vb (i:=15) O O O (yci R.cr R.mr O O) (R.rd (f.high+a / 8) n m9 iH tN) ?_
 rintro _ w2 ⟨rfl,cO,aq⟩
 refine⟨bG.kp.trans aq,?_⟩
 rw[lz]
 have dx:Kp (λk=>¬X k) w w2:=bG.kp.trans aq
 have am:=dx.NX hB (λe=>e hx)
 have db:=dx.NX au (λe=>e h3)
 have tt:=dx.NX cn (λe=>e h8)
 have DC:(((Ow (hiB f.width 0 0 l)).drop (a / 8)).take n).length=n:=by rw[List.length_take,List.length_drop];omega
 generalize ((Ow (hiB f.width 0 0 l)).drop (a / 8)).take n=pt at nD DC
 refine Oj 16 O O (bG.kp.trans aq)$ O0 17 O (QL O O) (bG.kp.trans aq)$ O0 18 O (QL O O) (bG.kp.trans aq)$ O0 19 O (Qq O) (bG.kp.trans aq)$ O0 20 O (Qq O) (bG.kp.trans aq)$ qE$ OD.qb (e:=[(0,_),(1,_),(2,_),(4,_),(5,_),(6,_),(7,_),(8,_)]) ?_
 refine qN O$ NT O$ Om z7g O (VU pt (by omega) w2) ?_
 rintro _ w3 ⟨rfl,ah⟩
 refine NT O$ qV (Xa O O (by omega))$ Qp O O ?_
 rw[show(64:Int)-8*(n:Int)=((64-8*n:Nat):Int) by omega]
 refine qV (PX (64-8*n) (2^(64-8*n)) O O (by omega) O) ?_
 have xP:=z4H (On pt) (64-8*n)
 rw[nD] at xP
 have Kw:((hiB f.width 0 0 l).drop (8*(a / 8))++List.replicate 64 false).take 64=((hiB f.width 0 0 l).drop (8*(a / 8))++List.replicate 64 false).take 64:=rfl
 obtain⟨W0,xQ⟩:∃W0,W0=((hiB f.width 0 0 l).drop (8*(a / 8))++List.replicate 64 false).take 64:=⟨_,rfl⟩
 have xR:W0.length=64:=by rw[xQ,List.length_take,List.length_append,List.length_replicate];omega
 have HW:=z9c (H:=hiB f.width 0 0 l) (a:=a) (by omega)
 rw[<-xQ] at xP HW
 have dF:=z7Q xR (d:=a%8) (by omega)
 rw[HW] at dF
 have tO:=z6w xR
 rw[<-xP,Nat.mod_eq_of_lt tO]
 refine Oe O (PV Si O O O (ah.NX tt) (by simp)) ?_
 rintro w4 ⟨eG,ao⟩
 replace eG:O9 w4 b8 [u64v (OK W0)] 23:=eG
 have aI:=ao.NX (ah.NX am) (λe=>sh.1 e.symm)
 have eh:=ao.NX (ah.NX db) (λe=>sh.2 e.symm)
 have kZ:=R.own (R.ext cO ah (λk hk=> .inl hk)) ao (λk e=>by rw[e];exact h8)
 have af:=Ext.Ob w4
 refine NU$ py$ Oo [6] (λw'=>Ext w4 w') (by kernel_rfl) O$ qL 0 O (λ_ h=>O6 Qy O O (h.NX eG) O) af$ OW 1 O O (af)$ OW 2 O O (af)$ Ot 3 O (Ww O O (by omega)) af ?_
 rw[show(a:Int)-((a / 8*8:Nat):Int)=((a%8:Nat):Int) by omega]
 refine Ot 4 O (R9 (m:=18446744073709551615) (a%8) (2^(a%8)) O O (by show a%8<=64;omega) O) af ?_
 rw[z8C (d:=a%8) (by omega)]
 have DD:2^(64-a%8)<=2^64:=Nat.pow_le_pow_right (by decide) (by omega)
 refine Ot 5 O (Sq O O (by omega) (by omega)) af ?_
 rw[Nat.and_two_pow_sub_one_eq_mod,dF]
 refine S8 [6]$ qO 6$ OP (i:=6) O O (PV Si O O O (af.NX eG) (by simp)) ?_
 rintro w5 ⟨bL,ak⟩
 refine⟨trivial,?_⟩
 replace bL:O9 w5 b8 [u64v (OK (wdB (hiB f.width 0 0 l) a))] 23:=bL
 have aG:=ak.NX (af.NX aI) (λe=>sh.1 e.symm)
 have cV:=ak.NX (af.NX eh) (λe=>sh.2 e.symm)
 have lI:=R.own (R.ext kZ af (λk hk=> .inl hk)) ak (λk e=>by rw[e];exact h8)
 have cW:Kp (λk=>¬X k\/k=b8) w w5:=(((dx.Of λk e=> .inl e).trans ah.kp).trans (ao.Of λk e=> .inr e)).trans (af.kp.trans (ak.Of λk e=> .inr e))
 have DE:=z6w (z6P (hiB f.width 0 0 l) a)
 refine qE$ py$ qN O$ NT O$ P6 O O$ qV ((O6 z2O O O cV O))$ OH O$ Og Rx O$ Og Xx O$ qV ((O6 U3 O O aG O))$ Qp O O$ NZ O$ OD.qb (e:=[(2,_),(4,_),(8,_),(9,_)]) ?_
 refine qN O$ NT O$ PD O O$ NU$ O8 O (λh0=>?_)$ λh0=>?_
 ·obtain⟨r,hr⟩:∃r,a / 8*8+64=f.bits+r:=⟨a / 8*8+64-f.bits,by omega⟩;obtain⟨q,hq⟩:=zb6 (H:=hiB f.width 0 0 l) (a:=a) (r:=r) (by omega) (by omega);rw[show((a / 8*8:Nat):Int)+64-(f.bits:Int)=(r:Int) by omega];have hp:=Nat.two_pow_pos r
  have xS:OK (wdB (hiB f.width 0 0 l) a) / 2^r*2^r%18446744073709551616=OK (wdB (hiB f.width 0 0 l) a):=by
   rw[Nat.mod_eq_of_lt (Nat.lt_of_le_of_lt (Nat.div_mul_le_self _ _) DE),hq,Nat.mul_div_cancel _ hp]
  refine NW O$ qV (O6 Qy O O bL O)$ NT O$ qV (R9 r (2^r) O O (by show r<=64;omega) O) ?_;refine NT O$ qV (PX r (2^r) O O (by omega) O) ?_;rw[xS];refine Oe O (PV Si O O O bL (by simp)) ?_;rintro w6 ⟨kw,aP⟩;refine qM O$ NT O$ NZ O$ NV func263 O ?_;exact⟨_,rfl,rfl,R.own lI aP (λk e=>by rw[e];exact h8),cW.trans (aP.Of λk e=> .inr e),kw⟩
 ·refine An$ qN O$ NT O$ NZ O$ NV func263 O ?_;exact⟨_,rfl,rfl,lI,cW,bL⟩
theorem z2T:∀{W:List Bool} {k p:Nat},QF W k=some p->∃z r,W=List.replicate z false++true::r
 |true::W,k,p,h=>⟨0,W,rfl⟩
 | false :: W, k, p, h => by
   simp only[QF,Option.map_eq_some_iff] at h;obtain⟨q,hq,-⟩:=h;obtain⟨z,r,e⟩:=z2T hq
   exact⟨z+1,r,by rw[e,List.replicate_succ];rfl⟩
 |[],k,p,h=>by simp[QF] at h
theorem z61 (z:Nat)(r:List Bool)(k:Nat):QF (List.replicate z false++true::r) (k+1)=QF (List.replicate (z+1) false++r) k:=by
 rw[TE,TE,QF,Option.map_map]
 congr 1
 funext j;show j+1+z=j+(z+1);omega
theorem z8K (z:Nat)(r:List Bool):QF (List.replicate z false++true::r) 0=some z:=by
 rw[TE,QF];simp
theorem z52 (z:Nat)(r:List Bool):P3 (OK (List.replicate z false++true::r))=r.length+1:=by
 rw[WJ]
 have:=Q8 r
 exact Zk (by omega) (by rw[Nat.pow_succ];omega)
theorem z1j (n:Nat):(List.replicate n false).count true=0:=by
 rw[List.count_replicate];rfl
theorem z1N (H:List Bool)(a:Nat):(wdB H a).count true=((H.drop a).take (64-a%8)).count true:=by
 unfold wdB
 rw[List.count_append,z1j,Nat.zero_add,List.take_append,List.count_append,List.take_replicate,z1j];omega
theorem zbP {W:List Bool}(h:W.length=64):(Ov 64 (OK W)).count true=W.count true:=by
 have:=z05 W
 rw[h] at this
 rw[this]
theorem zcj {H:List Bool}{a k q:Nat}(h:QF (H.drop a) k=some q)(hk:k<(wdB H a).count true):QF (wdB H a) k=some (a%8+q):=by
 rw[z1N] at hk
 have h1:=Vp ((H.drop a).take (64-a%8)) ((H.drop a).drop (64-a%8)) k
 rw[List.take_append_drop,if_pos hk,h] at h1
 unfold wdB
 rw[TE,List.take_append,Vp,if_pos hk,<-h1]
 show some (q+a%8)=_
 rw[Nat.add_comm]
theorem z9u {H:List Bool}{a k q:Nat}(h:QF (H.drop a) k=some q)(hk:(wdB H a).count true<=k):64-a%8<=q/\QF (H.drop (a / 8*8+64)) (k-(wdB H a).count true)=some (q-(64-a%8)):=by
 rw[z1N] at hk⊢
 have h1:=Vp ((H.drop a).take (64-a%8)) ((H.drop a).drop (64-a%8)) k
 rw[List.take_append_drop,if_neg (by omega),h] at h1
 obtain⟨p,hp,Kx⟩:=Option.map_eq_some_iff.1 h1.symm
 have h2:=(Zy hp).1
 rw[List.length_drop] at h2
 rw[List.length_take,Nat.min_eq_left (by omega)] at Kx
 rw[List.drop_drop,show a+(64-a%8)=a / 8*8+64 by omega] at hp
 exact⟨by omega,by rw[hp];congr 1;omega⟩
theorem z7T {t:TypeId}{u:Value}{l:List Nat}{f:Fm}{z:Nat}(he:Uv l f z)(R:Src t u (XF l f)){X:Nat->Prop}{w:World}(hI:R.inv X w)(hX:∀k,X k->k<w.heap.size){x:Nat}(hx:X x)(hB:O9 w x (elC f t u) 295){p k q:Nat}(aK:k<=1000000)(hq:QF ((hiB f.width 0 0 l).drop p) k=some q):
  Oy prog 256 [ptr x 0,I (p:Int),I (k:Int)] w λr w'=>r= .tuple #[I ((p+q:Nat):Int),I 0]/\R.inv X w'/\Kp (λj=>¬X j) w w':=by
 have ce:=he.bits
 have fu:=he.small.2.2
 have eR:=hX x hx
 refine NP (e:=[(0,_),(1,_),(2,_)]) func256 O ntmps256 O O$ qN O$ O5 O O (Qr O (cs:=[ptr x 0]) O) ?_
 rintro _ w1 ⟨b3,rfl,f7,ad,au⟩
 refine Oc O$ Oc O$ qM O$ O5 O O (QU (cs:=[_]) Si O) ?_
 rintro _ w2 ⟨b8,rfl,ib,ae,cn⟩
 have z1:=ad.size
 have z2:=ae.size
 have l3:=au.lt
 have l8:=cn.lt
 have aB:=ad.trans ae
 have cO:R.inv (λj=>X j\/j=b3\/j=b8) w2:=R.ext hI aB (λj hj=>by rcases hj with e|e|e;exact .inl e;exact .inr (by omega);exact .inr (by omega))
 replace cn:O9 w2 b8 [u64v 0] 23:=cn
 refine qM O$ qV (ymf (first:=[]) (caps:=[.tmp 3,.tmp 8]) O O)$ NZ O$ py$ qN O$ NT O$ NZ O$ NQ$ Qm (α:=Nat×Nat×Nat×Nat) ((p,k,q,0)) (λy=>[(2,I (y.2.1:Int)),(3,ptr b3 0),(8,ptr b8 0),(9,.func (.func 263) #[] #[ptr b3 0,ptr b8 0]),(10,I (y.1:Int))]) (λy w'=>R.inv (λj=>X j\/j=b3\/j=b8) w'/\Kp (λj=>¬X j) w w'/\w2.heap.size<=w'.heap.size/\O9 w' x (elC f t u) 295/\O9 w' b3 [ptr x 0] 163/\O9 w' b8 [u64v y.2.2.2] 23/\QF ((hiB f.width 0 0 l).drop y.1) y.2.1=some y.2.2.1/\y.1+y.2.2.1=p+q/\y.2.1<=1000000) (λy=>f.bits-y.1) ?hI ?hround
 case hI=>exact⟨cO,aB.kp,Nat.le_refl _,aB.NX hB,ae.NX au,cn,hq,rfl,aK⟩
 case hround =>
  rintro⟨a,k4,q4,v4⟩ w4 ⟨kZ,ao,DF,aI,eh,eG,cB,CT,xT⟩ ih;dsimp only at kZ ao DF aI eh eG cB CT xT;have xU:=(Zy cB).1;rw[List.length_drop] at xU;have ma:a<f.bits:=by omega
  have DG:∀j,(X j\/j=b3\/j=b8)->j<w4.heap.size:=λj hj=>by
   rcases hj with e|e| e
   ·have:=hX j e;omega
   ·omega
   ·omega
  have fj:O9 w4 x [I (f.n:Int),u64v f.u,I (f.width:Int),I (f.bits:Int),.iface t u] 295:=aI
  try dsimp only
  refine py$ qN O$ NT O$ qV ((O6 z2O O O eh O))$ OH O$ Og Rx O$ Og Xx O$ qV ((O6 U3 O O fj O))$ Py O O$ NU$ O8 O (λh0=>?_)$ λh0=>?_
  ·refine An$ py$ NQ$ py$ qN O$ Od O O$ PG O O (R0 zhU O O) (z4N he R kZ DG (.inl hx) (.inr (.inl O)) (.inr (.inr O)) ⟨by omega,by omega⟩ aI eh eG ma) ?_;rintro _ w5 ⟨rfl,lI,ak,bL⟩;have z5:=ak.size;have cW:Kp (λj=>¬X j) w w5:=ao.NR ak (λj hj=>by rcases hj with e|e;exact .inr (λh=>e (.inl h));exact .inl (by omega));have aG:=ak.NX aI (λe=>by rcases e with e|e;exact e (.inl hx);omega);have cV:=ak.NX eh (λe=>by rcases e with e|e;exact e (.inr (.inl O));omega);have xV:=z6P (hiB f.width 0 0 l) a;have xW:=z6w xV;have B4:=zbP xV;have oQ:=λh=>zcj (H:=hiB f.width 0 0 l) cB h;have HX:=λh=>z9u (H:=hiB f.width 0 0 l) cB h
   generalize wdB (hiB f.width 0 0 l) a=W at xV xW B4 oQ HX bL
   have cQ:W.count true<=64:=by rw[<-xV];exact List.count_le_length
   refine Oc O$ qM O$ NT O$ Pz O O$ NU$ It O$ An$ py$ qN O$ qV (O6 Qy O O bL O)$ Om zgT O (za8 (OK W) xW w5) ?_;rintro _ w5 ⟨rfl,rfl⟩;rw[B4];refine Oc O$ qM O$ Od O O$ zle O O$ NU$ O8 O (λh1=>?_)$ λh1=>?_
   ·obtain⟨dm,dc⟩:=HX (by omega);refine qN O$ Od O O$ Qp O O$ NZ O$ O4 O$ NW O$ NT O ?_;rw[show(k4:Int)-((W.count true:Nat):Int)=((k4-W.count true:Nat):Int) by omega];refine qV (zeQ O O (by omega))$ P6 O O$ NZ O ?_;rw[show((a / 8*8:Nat):Int)+64=((a / 8*8+64:Nat):Int) by omega];exact(ih (a / 8*8+64,k4-W.count true,q4-(64-a%8),OK W) _ ⟨lI,cW,by omega,aG,cV,bL,dc,by dsimp only;omega,by dsimp only;omega⟩ (by dsimp only;omega)).qb
   ·have AP:=oQ (by omega);refine An$ py$ NQ$ Qm (α:=List Bool×Nat) ((W,k4)) (λy=>[(2,I (y.2:Int)),(8,ptr b8 0),(10,I (a:Int))]) (λy w'=>R.inv (λj=>X j\/j=b3\/j=b8) w'/\Kp (λj=>¬X j) w w'/\O9 w' b8 [u64v (OK y.1)] 23/\y.1.length=64/\QF y.1 y.2=some (a%8+q4)/\y.2<=1000000) (λy=>y.2) ?hI ?hround
    case hI=>exact⟨lI,cW,bL,xV,AP,xT⟩
    case hround=>
     rintro⟨W6,k6⟩ w6 ⟨pu,aP,kw,jS,vE,DH⟩ ih2;dsimp only at pu aP kw jS vE DH;obtain⟨zz,r,rfl⟩:=z2T vE;have rC:=z52 zz r;have Kz:=WJ zz r;have oR:=Q8 r;have xX:=z6w jS;rw[List.length_append,List.length_replicate,List.length_cons] at jS
     try dsimp only
     refine py$ qN O$ NT O$ PD O O$ NU$ O8 O (λh2=>?_)$ λh2=>?_
     ·obtain⟨k7,rfl⟩:∃k7,k6=k7+1:=⟨k6-1,by omega⟩;rw[z61] at vE;have cm:=Ext.Ob w6;refine An$ py$ NQ$ Oo [6] (λw'=>Ext w6 w') (by kernel_rfl) O$ qL 0 O (λ_ h=>O6 Qy O O (h.NX kw) O) cm$ qL 1 O (λ_ h=>O6 Qy O O (h.NX kw) O) cm$ Qg (i:=2) (by kernel_rfl)$ QQ (i:=2) O O O (yc zbj O) (z4V _ xX _) ?_;rintro _ w7 ⟨rfl,rfl⟩;refine⟨cm,?_⟩;rw[rC];refine Ot 3 O (Ww O O (by omega)) cm ?_;rw[show(63:Int)-((64-(r.length+1):Nat):Int)=(r.length:Int) by omega];refine Ot 4 O (PX r.length (2^r.length) O O (by omega) O) cm ?_;have fD:2^r.length<=2^63:=Nat.pow_le_pow_right (by decide) (by omega);rw[show 1*2^r.length%18446744073709551616=2^r.length by rw[Nat.one_mul];exact Nat.mod_eq_of_lt (by omega)];rw[Kz];refine Ot 5 O (zjT (by omega) oR O O O) cm$ S8 [6]$ qO 6$ OP (i:=6) O O (PV Si O O O (cm.NX kw) (by simp)) ?_;rintro w8 ⟨tP,aS⟩;refine⟨trivial,?_⟩;replace tP:O9 w8 b8 [u64v (OK r)] 23:=tP;refine qE$ NS$ NW O$ NT O$ Qp O O$ NZ O ?_;rw[show((k7+1:Nat):Int)-1=(k7:Int) by omega];refine(ih2 (List.replicate (zz+1) false++r,k7) _ ⟨R.own (R.ext pu cm (λj hj=> .inl hj)) aS (λj e=> .inr (.inr e)),(aP.trans cm.kp).NR aS (λj e=> .inl (by omega)),?_,?_,vE,by dsimp only;omega⟩ (by dsimp only;omega)).qb
      ·dsimp only;rw[z1C];exact tP
      ·dsimp only;rw[List.length_append,List.length_replicate];omega
     ·have DI:k6=0:=by omega
      subst DI;rw[z8K] at vE;have Nk:zz=a%8+q4:=PJ vE;refine O4 O$ qN O$ NT O$ qV (zeQ O O (by omega))$ qV (O6 Qy O O kw O)$ Om zbj O (z4V _ xX _) ?_;rintro _ w7 ⟨rfl,rfl⟩;rw[rC];refine P6 O O ?_;rw[show((a / 8*8:Nat):Int)+((64-(r.length+1):Nat):Int)=((p+q:Nat):Int) by omega];refine Oc O$ NZ O$ NV func256 O ?_;exact⟨_,rfl,rfl,R.ext pu (Ext.refl _) (λj hj=> .inl (.inl hj)),aP⟩
  ·omega
theorem z9x (l:List Nat)(f:Fm)(hf:f.TT=12+(Ow (RA f.width l)).length+(Ow (hiB f.width 0 0 l)).length)(h4:(Ow (Rk f.width l)).length=4):((XF l f).drop f.TT).take 4=Ow (Rk f.width l):=by
 have h:=piece (A:=Ow (Ov 32 f.n++Ov 64 f.u)++Ow (RA f.width l)++Ow (hiB f.width 0 0 l)) (B:=Ow (Rk f.width l)) (C:=[]) (off:=f.TT) (n:=4) (o:=0) (by rw[List.length_append,List.length_append,show Ow (Ov 32 f.n++Ov 64 f.u)=Ow (Sa f) from rfl,TM,hf];omega) (by omega)
 have h2:((Ow (Rk f.width l)).drop 0).take 4=Ow (Rk f.width l):=by rw[List.drop_zero];exact List.take_of_length_le (by omega)
 rw[List.append_nil] at h
 exact h.trans h2
theorem zau {k:Nat}{l:List Nat}{y:Nat}(h:l[0]? =some y)(hy:y<4294967296):OK (On (Ow (Rk k l)))=y / 2^k/\(Ow (Rk k l)).length=4:=by
 obtain⟨r,rfl⟩:∃r,l=y::r:=by
  cases l with
  |nil=>simp at h
  |cons a r=>simp at h;subst h;exact⟨r,rfl⟩
 have hr:Rk k (y::r)=Ov 32 (y / 2^k):=rfl
 obtain⟨z,h1,h2,h3⟩:=Rq (Ov 32 (y / 2^k))
 rw[bitsN_length] at h2
 have hz:z=0:=by omega
 rw[hr,h1,hz,List.replicate_zero,List.append_nil,Pk,OO,bitsN_length]
 have:=Nat.div_le_self y (2^k)
 exact⟨Nat.mod_eq_of_lt (by omega),rfl⟩
theorem z1B {t:TypeId}{u:Value}{l:List Nat}{f:Fm}{z:Nat}(he:Uv l f z)(R:Src t u (XF l f)){X:Nat->Prop}{w:World}(hI:R.inv X w)(hX:∀k,X k->k<w.heap.size){x:Nat}(hx:X x)(hB:O9 w x (elC f t u) 295){i v:Nat}(hv:l[i]? =some v):
  Oy prog 250 [ptr x 0,I (i:Int)] w λr w'=>r= .tuple #[u64v v,I 0]/\R.inv X w'/\Kp (λj=>¬X j) w w':=by
 have bX:=(List.getElem?_eq_some_iff.1 hv).1
 have aF:=he.len
 have jB:=he.n2
 have pB:=he.n
 have vT:=he.zb
 have oO:f.width<=30:=by rw[he.fe];exact Yu (by omega)
 have nH:=he.small
 have rD:∀j y k y2,l[j]? =some y->l[k]? =some y2->j<=k->y<=y2:=λj y k y2 hj hk DJ=>by
  obtain⟨a1,a2⟩:=List.getElem?_eq_some_iff.1 hj;obtain⟨b1,b2⟩:=List.getElem?_eq_some_iff.1 hk;rcases Nat.lt_or_ge j k with h| h
  ·have:=List.pairwise_iff_getElem.1 he.nof j k a1 b1 h
   rwa [a2,b2] at this
  ·have e:j=k:=Nat.le_antisymm DJ h;subst e;rw[hj] at hk;cases hk;exact Nat.le_refl _
 have HM:v<=z:=rD i v _ z hv he.last (by omega)
 obtain⟨y0,DK⟩:∃y,l[0]? =some y:=⟨_,List.getElem?_eq_getElem (by omega)⟩
 have DL:y0<=v:=rD 0 y0 i v DK hv (Nat.zero_le _)
 obtain⟨KA,ia⟩:=zau (k:=f.width) DK (by omega)
 have KB:=z9x l f (by
  have e:f.TT=f.high+(f.bits+7) / 8:=rfl
  rw[e,he.high,OO (hiB f.width 0 0 l),he.bits]) ia
 have cT:=z0k f.width l 0 0 0 y0 he.nof DK (λy _=>Nat.zero_le _)
 have vF:=z0k f.width l 0 0 i v he.nof hv (λy _=>Nat.zero_le _)
 simp only[Nat.add_zero,Nat.sub_zero] at cT vF
 have fN:=Ym (hiB f.width 0 0 l) 0 (y0 / 2^f.width) i cT
 rw[Nat.zero_add,vF] at fN
 have B5:y0 / 2^f.width<=v / 2^f.width:=Nat.div_le_div_right DL
 have rE:f.TT+4<=(XF l f).length:=by
  rw[aF];have e:f.size=f.TT+4*((f.n+63) / 64):=rfl;rw[e,pB];omega
 have fL:f.TT<=40000000:=by have:=he.size_le.1;rw[aF] at rE;omega
 replace hB:O9 w x [I (f.n:Int),u64v f.u,I (f.width:Int),I (f.bits:Int),.iface t u] 295:=hB
 refine NP (e:=[(0,_),(1,_)]) func250 O ntmps250 O O$ qN O$ Oc O$ NZ O$ py$ NQ$ qN O$ NT O$ qV (Pt z2O O O)$ NZ O$ It O$ qN O$ NT O$ Py O O ?_
 refine OR$ Od O O$ NT O$ OH O$ Og Rx O$ Og XG O$ qV (O6 U3 O O hB O)$ SB O O$ OR$ OU O O$ NZ O$ It O$ An$ NS ?_
 refine py ?_
 have hg:=Ext.Ob w
 refine Qj (λw'=>Kp (λk=>¬X k) w w') O$ Oj 0 O O (hg.kp)$ O0 1 O (Pq O) (hg.kp)$ O0 2 O (OG z2N O) (hg.kp)$ qT 3 O (λ_ h=>O6 z5I O O (h.NX hB (λe=>e hx)) O) (hg.kp)$ Oj 4 O O (hg.kp)$ O0 5 O (Pq O) (hg.kp)$ O0 6 O (OG Rx O) (hg.kp)$ Oj 9 O O (hg.kp)$ O0 10 O (UH O O (by omega)) (hg.kp)$ O0 11 O (Xa O O (by omega)) (hg.kp)$ qT 7 O (λ_ hS=>OE (news:=fmC f) z36 O Sy O ((hS.NX hB (λe=>e hx)).cells (n:=4) O) O) (hg.kp)$ O0 13 O (zi9 O) (hg.kp)$ Oj 14 O O (hg.kp) ?_
 refine RW 8 O zek O (z3R f nH _) ?_
 rintro _ w1 ⟨rfl,ad⟩
 refine⟨(hg.trans ad).kp,?_⟩
 have bG:=hg.trans ad
 have m9:=R.ext hI bG (λk hk=> .inl hk)
 have iH:∀k,X k->k<w1.heap.size:=λk hk=>by have:=hX k hk;have:=bG.size;omega
 refine O0 12 O (TK O O (by omega)) ((hg.trans ad).kp) ?_
 rw[show(f.TT:Int)+4*((i:Int) / 64)=((f.TT:Nat):Int) by omega]
 refine qO 15$ Vb (i:=15) O O O (yci R.cr R.mr O O) (R.rd f.TT 4 m9 iH rE) ?_
 rintro _ w2 ⟨rfl,cO,aq⟩
 refine⟨bG.kp.trans aq,?_⟩
 rw[KB]
 have dx:Kp (λk=>¬X k) w w2:=bG.kp.trans aq
 refine Oj 16 O O (bG.kp.trans aq)$ O0 17 O (QL O O) (bG.kp.trans aq)$ O0 18 O (QL O O) (bG.kp.trans aq)$ O0 19 O (Qq O) (bG.kp.trans aq)$ O0 20 O (Qq O) (bG.kp.trans aq)$ qE$ OD.qb (e:=[(0,_),(1,_),(4,_),(5,_),(6,_),(7,_)]) ?_
 refine py$ qN O$ NT O$ Pz O O$ NU$ It O$ An$ qN O$ Od O O$ Om z7g O (VU (Ow (Rk f.width l)) (by omega) w2) ?_
 rintro _ w3 ⟨rfl,ah⟩
 rw[KA]
 have ct:Kp (λk=>¬X k) w w3:=dx.trans ah.kp
 have DM:=R.ext cO ah (λk hk=> .inl hk)
 have oM:∀k,X k->k<w3.heap.size:=λk hk=>by have:=hX k hk;have:=ct.size;omega
 have au:=ct.NX hB (λe=>e hx)
 have KC:y0 / 2^f.width<=y0:=Nat.div_le_self _ _
 have KD:v / 2^f.width<=v:=Nat.div_le_self _ _
 have mm:v / 2^f.width*2^f.width%18446744073709551616 |||v%2^f.width=v:=by
  have h1:=Nat.div_mul_le_self v (2^f.width);rw[Nat.mod_eq_of_lt (by omega),Nat.mul_comm,<-Nat.two_pow_add_eq_or_of_lt (Nat.mod_lt _ (Nat.two_pow_pos _))];exact Nat.div_add_mod v (2^f.width)
 have iq:v%2^f.width<=v:=Nat.mod_le _ _
 generalize KE:v / 2^f.width=vq at fN B5 KD mm
 generalize y0 / 2^f.width=yq at fN B5 KC
 refine qV (OT O Qy U3 (by omega))$ NT O$ qV (yre O O (by omega)) ?_
 rw[show(i:Int)%64=(i:Int) by omega]
 refine Om zfw O (z7T he R DM oM hx au (k:=i) (by omega) fN) ?_
 rintro _ w4 ⟨rfl,kZ,ao⟩
 rw[show yq+(vq+i-yq)=vq+i by omega]
 have fk:=ct.trans ao
 have DG:∀k,X k->k<w4.heap.size:=λk hk=>by have:=hX k hk;have:=fk.size;omega
 have aI:=fk.NX hB (λe=>e hx)
 refine NT O$ P9 O O$ P9 O O$ Oc O$ NZ O$ py$ qN O$ NT O$ Pz O O$ NU$ It O$ An$ qN O$ Od O O ?_
 refine Om zfG O (z8S he R kZ DG hx aI hv) ?_
 rintro _ w5 ⟨rfl,lI,ak⟩
 have cW:=fk.trans ak
 have aG:=cW.NX hB (λe=>e hx)
 have AZ:=he.u
 refine NT O$ P9 O O$ P9 O O$ Oc O$ NZ O$ OD.qb (e:=[(0,_),(1,_),(4,_),(5,_),(7,_),(8,_),(9,_)]) ?_
 refine py$ qN O$ NT O$ Pz O O$ NU$ It O$ An$ qN O$ Od O O$ Qp O O ?_
 rw[show((vq+i:Nat):Int)-(i:Int)=(vq:Int) by omega]
 refine qV ((Pf O U3 Qy (by omega)))$ NT O$ OH O$ Og Rx O$ Og Ss O$ qV (O6 U3 O O aG O)$ qV (PX f.width (2^f.width) O O (by omega) O)$ NT O ?_
 have B6:=Nat.mod_lt (vq*2^f.width) (show 0<18446744073709551616 by decide)
 refine qV (Yf O O (by omega) (by omega)) ?_
 rw[mm]
 refine NZ O$ py$ qN O$ Od O O$ Py O O$ OR$ Od O O$ NT O$ OH O$ Og Rx O$ Og zbS O$ qV (O6 Qy O O aG O)$ SB O O$ OR ?_
 refine OU O O$ NU$ OD.qb (e:=[(4,_),(5,_),(10,_),(93,_)]) ?_
 refine It O$ An$ qN O$ NT O$ Oc O$ NZ O$ NV func250 O ?_
 exact⟨_,rfl,rfl,lI,cW⟩
theorem zaS (a b:NY)(w:World)(hl:(a++b).length<=100000000000):Oy prog 187 [S (a++b),S a] w λu w'=>u= .bool true/\w'=w:=by
 rw[List.length_append] at hl
 have iT:(a++b).length=a.length+b.length:=List.length_append
 have ht:(a++b).take a.length=a:=List.take_left
 refine NP (e:=[(0,_),(1,_)]) func187 O ntmps187 O O$ qN O$ Oc O$ qM O$ NT O$ qV (Sr U9 O)$ NT O$ qV (Sr U9 O)$ SB O O$ Qs$ Od O O$ NT O$ qV (Sr U9 O)$ qV (z1R U9 O O (by omega)) ?_
 refine NT O ?_
 rw[ht]
 refine qV (zeJ O O)$ Qs$ PT O O$ NZ O$ NV func187 O ?_
 exact⟨_,rfl,rfl,rfl⟩
theorem z9D (a b:NY)(w:World)(hl:(a++b).length<=100000000000):Oy prog 213 [S (a++b),S a] w λu w'=>u= .tuple #[S b,.bool true]/\w'=w:=by
 have iT:(a++b).length=a.length+b.length:=List.length_append
 have hd:(a++b).drop a.length=b:=List.drop_left
 refine NP (e:=[(0,_),(1,_)]) func213 O ntmps213 O O$ qN O$ Oc O$ NZ O$ py$ qN O$ Od O O$ Om zh9 O (zaS a b w hl) ?_
 rintro _ w ⟨rfl,rfl⟩
 refine qV ((Rn O))$ NU$ It O$ An$ qN O$ Od O O$ qV (Sr U9 O)$ qV (YW U9 O O (by omega)) ?_
 rw[hd]
 refine Oc O$ NZ O$ NV func213 O ?_
 exact⟨_,rfl,rfl,rfl⟩
theorem z5p (a b:NY)(w:World)(hl:(a++b).length<=100000000000):Oy prog 179 [S (a++b),S a] w λu w'=>u= .tuple #[S b,.bool true]/\w'=w:=by
 refine NP (e:=[(0,_),(1,_)]) func179 O ntmps179 O O$ qN O$ Oc O$ Oc O$ qM O$ Od O O$ Om zfI O (z9D a b w hl) ?_
 rintro _ w ⟨rfl,rfl⟩
 refine P9 O O$ P9 O O$ Oc O$ NZ O$ NV func179 O ?_
 exact⟨_,rfl,rfl,rfl⟩
theorem Sb {w:World}{r a b6 b7:Nat}{s:NY}(h:SX w r s a)(aO:O9 w b6 [ptr r 0] 291)(bN:O9 w b7 [.bool false] 4)(h6:b6≠r/\b7≠r/\b6≠b7)(n v:Nat)(hn:n<=64)(hv:v<2^n)(lE:v<=134217728)(rest:List Bool)(hb:(On s).drop a=Ov n v++rest):
  Oy prog 181 [I (n:Int),ptr b6 0,ptr b7 0] w λu w'=>u=I (v:Int)/\SX w' r s (a+n)/\O9 w' b6 [ptr r 0] 291/\O9 w' b7 [.bool false] 4/\Kp (λk=>k=r\/k=b7) w w':=by
 have aF:a+n<=8*s.length:=by
  have e:=congrArg List.length hb;rw[List.length_drop,bitsT_length,List.length_append,bitsN_length] at e;have:=h.2.1;omega
 have qc:OK (((On s).drop a).take n)=v:=by
  rw[hb,List.take_left' (by simp),Pk];exact Nat.mod_eq_of_lt hv
 refine NP (e:=[(0,_),(1,_),(2,_)]) func181 O ntmps181 O O$ qN O$ Oc O$ qM O$ qV (O6 Ud O O aO O)$ NT O$ Om z4v O (Ui h n hn) ?_
 rintro v1 w1 eZ
 have fY:v1= .tuple #[u64v v,I 0]/\SX w1 r s (a+n)/\Kp (λk=>k=r) w w1:=by
  rcases eZ with⟨-,e,h1,hk⟩|⟨e,-,-⟩
  ·rw[qc] at e;exact⟨e,h1,hk⟩
  ·omega
 obtain⟨rfl,h1,aK⟩:=fY
 have xY:=aK.NX bN h6.2.1
 have DN:=aK.NX aO h6.1
 refine NT O$ P9 O O$ P9 O O$ Oc O$ Oc O$ qM O$ qV (O6 U4 O O xY O)$ Od O O$ Pz O O$ OU O O$ Od O O$ PD O O$ OR$ OU O O ?_
 refine Oe O (PV Vg O O O xY (by simp)) ?_
 rintro w2 ⟨e8,aq⟩
 refine qM O$ NT O$ qV (Sq O O (by omega) (by omega)) ?_
 rw[show v&&&268435455=v from(Nat.and_two_pow_sub_one_eq_mod v 28).trans (Nat.mod_eq_of_lt (by omega))]
 refine qV (OT O Qy U3 (by omega))$ NZ O$ NV func181 O ?_
 exact⟨_,rfl,rfl,⟨aq.NX h1.1 (λe=>h6.2.1 e.symm),h1.2⟩,aq.NX DN h6.2.2,e8,(aK.Of λk e=> .inl e).trans (aq.Of λk e=> .inr e)⟩
theorem Sf {s:List Bool}{n v a:Nat}{rest:List Bool}(h:s.drop a=Ov n v++rest):s.drop (a+n)=rest:=by
 rw[<-List.drop_drop,h,List.drop_left' (by simp)]
theorem zcE (h:PHd):On (Ow (Qw (Y5 h)))=Ov 32 h.n++(Ov 32 h.m++(Ov 8 h.p.Ou++(Ov 8 h.p.chain++(Ov 8 h.p.interval++(Ov 8 h.p.zeta++(Ov 32 h.p.most++(Ov 64 h.bits++[]))))))):=by
 obtain⟨z,h1,h2,h3⟩:=Rq (Qw (Y5 h))
 have hl:=Tq h
 have hz:z=0:=by omega
 rw[h1,hz,List.replicate_zero,List.append_nil]
 rfl
theorem z9i (h:PHd)(hh:h.PI)(w:World):Oy prog 147 [S (hdT h)] w λu w'=>u= .tuple #[hdV h,I 0]/\Ext w w':=by
 obtain⟨g1,g2,g3,g4,g5⟩:=id hh
 obtain⟨q1,q2,q3⟩:=id g5
 obtain⟨r1,r2,r3,r4⟩:=id q1
 have r1':h.p.Ou<=16:=r1
 have r2':h.p.interval<=64:=by
  have:h.p.interval=0\/2<=h.p.interval/\h.p.interval<=64:=r2;omega
 have r4':h.p.zeta<=16:=r4
 have KF:=Wg h
 have qd:=zcE h
 rw[show On (Ow (Qw (Y5 h)))=(On (Ow (Qw (Y5 h)))).drop 0 from List.drop_zero.symm] at qd
 have fD:(Ow (Qw (Y5 h))).length=24:=by rw[OO,Tq]
 refine NP (e:=[(0,_)]) func147 O ntmps147 O O$ qN O$ O5 O O (QU (cs:=[_,_,_,_,_,_,_,_]) T7 O) ?_
 rintro _ w1 ⟨b2,rfl,bU,ad,am⟩
 refine Oc O$ qM O$ NT O$ PG O O (yc (args:=[.tmp 11,.const (Value.string (⟨#[119,116,108,49]⟩))]) zit O) (z5p z6K (Ow (Qw (Y5 h))) _ (by rw[show z6K++Ow (Qw (Y5 h))=hdT h from rfl];omega)) ?_
 rintro _ w1 ⟨rfl,rfl⟩
 refine NT O$ P9 O O$ P9 O O$ Oc O$ NZ O$ py$ qN O$ NT O$ qV ((Rn O))$ Od O O$ qV (Sr U9 O)$ Py O O$ OR$ OU O O ?_
 refine NU$ It O$ An$ qN O$ NT O ?_
 generalize Ow (Qw (Y5 h))=pt at qd fD
 refine Om z6C O (VW pt (by omega) w1) ?_
 rintro _ w2 ⟨r,rfl,cK,ae,dv⟩
 refine O5 O O (QU (cs:=[_]) z1t O) ?_
 rintro _ w3 ⟨b6,rfl,jP,ah,aO⟩
 refine Oe O (PV z1t O O O aO (by simp)) ?_
 rintro w4 ⟨jk,ao⟩
 replace jk:O9 w4 b6 [ptr r 0] 291:=jk
 refine qM O$ O5 O O (QU (cs:=[_]) Vg O) ?_
 rintro _ w5 ⟨b7,rfl,jQ,aR,bN⟩
 refine Oe O (PV Vg O O O bN (by simp)) ?_
 rintro w6 ⟨qe,aP⟩
 replace qe:O9 w6 b7 [.bool false] 4:=qe
 have z1:=ad.size
 have z2:=ae.size
 have z3:=ah.size
 have z4:=ao.size
 have z5:=aR.size
 have lr:=cK.1.lt
 have l6:=jk.lt
 have l2:=am.lt
 have tQ:=aP.NX (aR.NX jk) (by omega)
 have kV:SX w6 r pt 0:=⟨aP.NX (aR.NX (ao.NX (ah.NX cK.1) (by omega))) (by omega),cK.2⟩
 have aN:Ext w1 w6:=(((ae.trans ah).NR ao (λi e=>by omega)).trans aR).NR aP (λi e=>by omega)
 refine qM O$ qV (ymf (first:=[]) (caps:=[.tmp 6,.tmp 7]) O O)$ Oc O$ qM O$ NT O$ PG O O (R0 YV O O) (Sb kV tQ qe ⟨by omega,by omega,by omega⟩ 32 h.n (by decide) (by omega) (by omega) _ qd) ?_
 rintro _ v0 ⟨rfl,DO,xZ,y8,y9⟩
 have ya:=Sf qd
 refine NT O$ PG O O (R0 YV O O) (Sb DO xZ y8 ⟨by omega,by omega,by omega⟩ 32 h.m (by decide) (by omega) (by omega) _ ya) ?_
 rintro _ v1 ⟨rfl,yb,yd,ye,yf⟩
 have yg:=Sf ya
 refine qV (Rt (cs:=[_,_,_,_,_,_,_,_]) T7 O zdh O O)$ O5 O O (QU (cs:=[_,_,_,_,_,_,_,_]) T7 O) ?_
 rintro _ w7 ⟨b9,rfl,oF,bV,cL⟩
 have zv1:=y9.size
 have zv2:=yf.size
 have z7:=bV.size
 have z6:=aP.size
 have l9:=cL.lt
 refine Oe O (P4 (news:=[I (h.n:Int),I (h.m:Int),I 0,I 0,I 0,I 0,I 0,I 0]) T7 O O O O cL (by simp)) ?_
 rintro w8 ⟨tR,aS⟩
 replace tR:O9 w8 b9 [I (h.n:Int),I (h.m:Int),I 0,I 0,I 0,I 0,I 0,I 0] 160:=tR
 have l7:=qe.lt
 have dq:Ext v1 w8:=bV.NR aS (λi e=>by omega)
 have uV:SX w8 r pt (0+32+32):=⟨dq.NX yb.1,yb.2⟩
 have iJ:=dq.NX yd
 have DP:=dq.NX ye
 have oH:Kp (λk=>k=r\/k=b7) w6 w8:=(y9.trans yf).trans dq.kp
 refine NU$ OD.qb (e:=[(2,_),(3,_),(7,_),(8,_),(9,_)]) ?_
 refine qN O$ NT O$ PG O O (R0 YV O O) (Sb uV iJ DP ⟨by omega,by omega,by omega⟩ 8 h.p.Ou (by decide) (by omega) (by omega) _ yg) ?_
 rintro _ v2 ⟨rfl,DQ,yh,yi,DR⟩
 have yj:=Sf yg
 refine NT O$ PG O O (R0 YV O O) (Sb DQ yh yi ⟨by omega,by omega,by omega⟩ 8 h.p.chain (by decide) (by omega) (by omega) _ yj) ?_
 rintro _ v3 ⟨rfl,DS,yk,ym,DT⟩
 have yn:=Sf yj
 refine NT O$ PG O O (R0 YV O O) (Sb DS yk ym ⟨by omega,by omega,by omega⟩ 8 h.p.interval (by decide) (by omega) (by omega) _ yn) ?_
 rintro _ v4 ⟨rfl,DU,yo,yp,DV⟩
 have yr:=Sf yn
 refine NT O$ PG O O (R0 YV O O) (Sb DU yo yp ⟨by omega,by omega,by omega⟩ 8 h.p.zeta (by decide) (by omega) (by omega) _ yr) ?_
 rintro _ v5 ⟨rfl,DW,yt,yu,DX⟩
 have yv:=Sf yr
 refine NT O$ PG O O (R0 YV O O) (Sb DW yt yu ⟨by omega,by omega,by omega⟩ 32 h.p.most (by decide) (by omega) (by omega) _ yv) ?_
 rintro _ v6 ⟨rfl,yw,yx,yz,DY⟩
 have yA:=Sf yv
 have ja:Kp (λk=>k=r\/k=b7) w8 v6:=(((DR.trans DT).trans DV).trans DX).trans DY
 have DZ:=ja.NX tR (by omega)
 refine qV (Rt (cs:=[_,_,_,_,_]) QJ O zco O O)$ Og Xo O$ Oe O (P4 (news:=Uf h.p) QJ O O O O DZ (by simp)) ?_
 rintro w9 ⟨tS,aL⟩
 replace tS:O9 w9 b9 [I (h.n:Int),I (h.m:Int),I (h.p.Ou:Int),I (h.p.chain:Int),I (h.p.interval:Int),I (h.p.zeta:Int),I (h.p.most:Int),I 0] 160:=tS
 have uZ:SX w9 r pt (0+32+32+8+8+8+8+32):=⟨aL.NX yw.1 (by omega),yw.2⟩
 have ky:=aL.NX yx (by omega)
 have E0:=aL.NX yz (by omega)
 refine qM O$ NT O$ PG O O (R0 YV O O) (Sb uZ ky E0 ⟨by omega,by omega,by omega⟩ 64 h.bits (by decide) (by omega) (by omega) _ yA) ?_
 rintro _ v7 ⟨rfl,KG,HY,yB,yC⟩
 have KH:=Sf yA
 have E1:=yC.NX tS (by omega)
 refine Og TZ O$ Oe O (PV Pb O O O E1 (by simp)) ?_
 rintro w10 ⟨lh,ar⟩
 replace lh:O9 w10 b9 (hdC h) 160:=lh
 have yD:=ar.NX yB (by omega)
 have yE:Kp (λk=>k=r\/k=b7\/k=b9) w6 w10:=((((oH.trans ja).Of λk e=>by omega).trans (aL.Of λk e=>by omega)).trans (yC.Of λk e=>by omega)).trans (ar.Of λk e=>by omega)
 have gx:Ext w1 w10:=aN.NR yE (λk e=>by omega)
 refine NU$ py$ qN O$ qV (O6 U4 O O yD O)$ NT O$ qV (OE (news:=hdC h) z5M O T7 O (lh.cells (n:=8) O) O)$ Om zab O (X4 h hh _) ?_
 rintro _ w11 ⟨rfl,aQ⟩
 refine Pz O O$ OU O O$ NU$ OD.qb (e:=[(2,_),(3,_),(9,_),(51,_)]) ?_
 refine It O$ An$ qN O$ qV (OE (news:=hdC h) z5M O T7 O ((aQ.NX lh).cells (n:=8) O) O) ?_
 have yF:=(gx.trans aQ).NX am
 refine Oe O (P4 (news:=hdC h) T7 O O O O yF (by simp)) ?_
 rintro w12 ⟨jl,bc⟩
 replace jl:O9 w12 b2 (hdC h) 160:=jl
 replace jl:O9 w12 b2 [I (h.n:Int),I (h.m:Int),I (h.p.Ou:Int),I (h.p.chain:Int),I (h.p.interval:Int),I (h.p.zeta:Int),I (h.p.most:Int),I (h.bits:Int)] 160:=jl
 refine NZ O$ Oz func147 (.cell z5M O T7 O (O9.cells (n:=8) jl (news:=[_,_,_,_,_,_,_,_]) O) O (.tmp O .nil)) ?_
 exact⟨_,rfl,rfl,((ad.trans gx).trans aQ).NR bc (λk e=>by omega)⟩
theorem z98 (h:PHd)(hh:h.PI)(bU:h.n<=500)(w:World):Oy prog 148 [hdV h] w λu w'=>u= .tuple #[I ((28+(h.bits+7) / 8+(T0 (h.n+1) (h.bits+1)).size:Nat):Int),I 0]/\Ext w w':=by
 obtain⟨g1,g2,g3,g4,g5⟩:=id hh
 have hs:=z1Y (n:=h.n+1) (u:=h.bits+1) (by omega) (by omega) (by omega) (by omega)
 have cE:(T0 (h.n+1) (h.bits+1)).size<=40000000:=by
  have h2:=Fm.VN hs;obtain⟨h3,h4,h5⟩:=hs;unfold Fm.size Fm.TT;omega
 refine NP (e:=[(0,_)]) func148 O ntmps148 O O$ qN O$ O5 O O (Qr O (cs:=hdC h) O) ?_
 rintro _ w1 ⟨b1,rfl,bK,ad,ai⟩
 replace ai:O9 w1 b1 [I (h.n:Int),I (h.m:Int),I (h.p.Ou:Int),I (h.p.chain:Int),I (h.p.interval:Int),I (h.p.zeta:Int),I (h.p.most:Int),I (h.bits:Int)] 160:=ai
 refine Oc O$ NZ O$ py$ qN O$ qV (OE (news:=hdC h) z5M O T7 O (ai.cells (n:=8) O) O)$ Om zab O (X4 h hh _) ?_
 rintro _ w2 ⟨rfl,ae⟩
 have bh:=ae.NX ai
 refine Oc O$ qM O$ NT O$ Pz O O$ NU$ It O$ An$ qN O$ Og Ti O$ qV (O6 U3 O O bh O)$ P6 O O$ Og TZ O$ qV (O6 U3 O O bh O)$ qV ((Pf O U3 Qy (by omega))) ?_
 rw[show(h.n:Int)+1=((h.n+1:Nat):Int) by omega]
 refine Om zi0 O (z6d (h.n+1) h.bits (by omega) (by omega) (by omega) _) ?_
 rintro _ w3 ⟨rfl,ah⟩
 have eH:=ah.NX bh
 refine NT O$ qV (QL (v:=I ((T0 (h.n+1) (h.bits+1)).size:Int)) O O)$ qV (QL (v:=I 0) O O) ?_
 generalize (T0 (h.n+1) (h.bits+1)).size=q at cE
 refine Oc O$ Oc O$ qM O$ Og TZ O$ qV (O6 U3 O O eH O)$ P6 O O$ qV (UH O O (by omega))$ P6 O O$ NT O$ P6 O O$ NT O$ Oc O$ NZ O$ OD.qb (e:=[(2,_),(3,_)]) ?_
 refine NV func148 O (⟨_,rfl,?_,(ad.trans ae).trans ah⟩)
 show Value.tuple #[I (28+((h.bits:Int)+7) / 8+(q:Int)),I 0]= .tuple #[I ((28+(h.bits+7) / 8+q:Nat):Int),I 0]
 rw[show(28:Int)+((h.bits:Int)+7) / 8+(q:Int)=((28+(h.bits+7) / 8+q:Nat):Int) by omega]
section
variable {P:Program}{e:Env}{d:Option Nat}{ty t t':TypeId}{pos:String}{aft:Array Edge}{g:Option (Nat×Bool)}{x y:Operand}{w:World}
theorem z5F {f:FuncId}{name:String}{u:Value}(h:methT P t name=some f):(nilAhead (P.types.size+Made.depth) t u name).run P w= .ok (some false) w:=by
 rw[show P.types.size+Made.depth=P.types.size+(Made.depth-1)+1 from rfl]
 unfold methT at h
 split at h<;>try cases h
 rename_i i hi
 split at h<;>try cases h
 rename_i m hm
 split at h<;>try cases h
 rename_i f' pr ji jj
 have nu:i.methods.find? (·.name==name)=some m:=by rw[<-hm,Array.find?_toList]
 unfold nilAhead
 split at h<;>try cases h
 ·rename_i el hu
  cases pr<;>simp at h;subst h;simp[SV hi,nu,ji,followBlind,jj]
 ·rename_i td HT hu
  cases pr<;>simp at h;subst h;simp only[Sem.run_bind,SV hi,Result.andThen_ok,nu,ji,followBlind,Sem.run_pure,jj,run_underlying hu];cases td<;>first|exact absurd rfl (HT _)|rfl
theorem zfZ {td:TypeDesc}{v:Value}(ht:P.underlying t=some td)(hn:∀ms,td≠ .interface ms)(hx:look e x=some v):Y P e ⟨d,.makeInterface t x,ty,pos,aft,g⟩ (.iface t v) w w:=fun ρ hρ=>by
 simp only[execOp,hρ _ _ hx,Instr.makeInterface,Sem.run_bind,run_underlying ht,Result.andThen_ok]
 cases td<;>first|rfl|exact(hn _ rfl).elim
theorem ymm {nm:String}{v:Value}(hx:look e x=some v):Y P e ⟨d,.makeFunc (.method nm) #[x] #[],ty,pos,aft,g⟩ (.func (.method nm) #[v] #[]) w w:=fun ρ hρ=>by
 simp[execOp,hρ _ _ hx,Instr.makeFunc]
theorem zj9 {f:FuncId}{nm:String}{tx:TypeId}{v:Value}(hm:methT P tx nm=some f)(hx:look e x=some (.func (.method nm) #[.iface tx v] #[])):Y P e ⟨d,.nilCheck x,ty,pos,aft,g⟩ (.func (.method nm) #[.iface tx v] #[]) w w:=fun ρ hρ=>by
 have hn:=z5F (w:=w) (u:=v) hm
 have sR:(program).run P w= .ok P w:=rfl
 simp[execOp,hρ _ _ hx,sR,hn]
end
def YO (t:TypeId)(u:Value)(a n:Nat):Value:= .agg #[.iface t u,I (a:Int),I (n:Int)]
theorem z4n (t:TypeId)(u:Value)(a n:Nat)(w:World):Oy prog 308 [YO t u a n] w λv w'=>v=I (n:Int)/\Ext w w':=by
 unfold YO
 refine NP (e:=[(0,_)]) func308 O ntmps308 O O$ qN O$ O5 O O (Qr O (cs:=[.iface t u,I (a:Int),I (n:Int)]) O) ?_
 rintro _ w1 ⟨b1,rfl,bK,ad,ai⟩
 refine Oc O$ qM O$ Og z2z O$ qV (O6 U3 O O ai O)$ NZ O$ NV func308 O ?_
 exact⟨_,rfl,rfl,ad⟩
theorem z5X {t:TypeId}{u:Value}{T:NY}(R:Src t u T){X:Nat->Prop}{w:World}(a n:Nat)(oS:a+n<=T.length)(hT:T.length<=100000000000)(off m:Nat)(hI:R.inv X w)(hX:∀k,X k->k<w.heap.size)(h:off+m<=n):
  Oy prog 309 [YO t u a n,I (off:Int),I (m:Int)] w λv w'=>v= .tuple #[S ((((T.drop a).take n).drop off).take m),I 0]/\R.inv X w'/\Kp (λk=>¬X k) w w':=by
 have e:(((T.drop a).take n).drop off).take m=(T.drop (a+off)).take m:=by
  rw[List.drop_take,List.take_take,List.drop_drop,show min m (n-off)=m by omega]
 rw[e]
 unfold YO
 refine NP (e:=[(0,_),(1,_),(2,_)]) func309 O ntmps309 O O$ qN O$ O5 O O (Qr O (cs:=[.iface t u,I (a:Int),I (n:Int)]) O) ?_
 rintro _ w1 ⟨b1,rfl,bK,ad,ai⟩
 refine Oc O$ NZ O$ py$ qN O$ NT O$ Py O O$ Od O O$ Py O O$ OR$ OU O O$ Od O O$ Og z2z O$ qV (O6 U3 O O ai O)$ PD O O ?_
 refine OR$ OU O O$ Od O O$ Og z2z O$ qV (O6 U3 O O ai O)$ NT O$ Qp O O$ PD O O$ OR$ OU O O$ NU$ OD.qb (e:=[(1,_),(2,_),(3,_),(6,_),(7,_),(27,_)]) ?_
 refine It O$ An$ qN O$ Og zcD O$ qV (O6 z5I O O ai O)$ Og zbN O$ qV (O6 U3 O O ai O)$ NT O$ P6 O O$ NT O ?_
 rw[show(a:Int)+(off:Int)=((a+off:Nat):Int) by omega]
 refine PG O O (yci R.cr R.mr O O) (R.rd (a+off) m (R.ext hI ad (λk hk=> .inl hk)) (λk hk=>by have:=hX k hk;have:=ad.size;omega) (by omega)) ?_
 rintro _ w2 ⟨rfl,cO,aq⟩
 refine P9 O O$ P9 O O$ Oc O$ NZ O$ NV func309 O ?_
 exact⟨_,rfl,rfl,cO,ad.kp.trans aq⟩
def zdV {t:TypeId}{u:Value}{T:NY}(R:Src t u T)(a n:Nat)(B:NY)(oS:a+n<=T.length)(hT:T.length<=100000000000)(hB:(T.drop a).take n=B):Src 247 (YO t u a n) B where
 inv:=R.inv
 fl:=308
 fr:=309
 cl:=zi8
 cr:=zhM
 ml:=by kernel_rfl
 mr:=by kernel_rfl
 ext:=R.ext
 step:=R.step
 len:=fun {X w} h=>by
  have e:B.length=n:=by rw[<-hB,List.length_take,List.length_drop];omega
  rw[e];exact z4n t u a n w
 rd:=fun {X w} off m h hX ho=>by
  have e:B.length=n:=by rw[<-hB,List.length_take,List.length_drop];omega
  rw[<-hB];exact z5X R a n oS hT off m h hX (by omega)
def Vd (p:PA)(g:List (List Nat))(E:List (Nat×Nat)):PHd:=⟨g.length,PH g,p,(PL p g E g.length).length⟩
def pfm (p:PA)(g:List (List Nat))(E:List (Nat×Nat)):Fm:=T0 (g.length+1) ((PL p g E g.length).length+1)
structure S1 (p:PA)(g:List (List Nat))(E:List (Nat×Nat)):Prop where
 PI:p.PI
 gr:R7 g
 n1:1<=g.length
 pk:zbs p g E
section
variable {p:PA}{g:List (List Nat)}{E:List (Nat×Nat)}
theorem S1.head (h:S1 p g E):(Vd p g E).PI:=by
 have hn:=h.gr.n
 have hb:=h.pk.bits
 have tJ:=T5 h.gr g.length
 rw[List.take_length] at tJ
 exact⟨h.n1,(by show g.length<=_;omega),(by show PH g<=_;omega),(by show(PL p g E g.length).length<=_;omega),h.PI⟩
theorem S1.ef (h:S1 p g E):Uv (Vn p g E g.length) (pfm p g E) (PL p g E g.length).length:=by
 have hn:=h.gr.n
 have hb:=h.pk.bits
 have aF:=z2l p g E g.length
 refine⟨by omega,by omega,z7a p g E g.length,?_,by omega,?_⟩
 ·rw[aF,Nat.add_sub_cancel];exact Zq p g E (Nat.le_refl g.length)
 ·rw[aF];rfl
def Vj (p:PA)(g:List (List Nat))(E:List (Nat×Nat)):Nat:=28+((PL p g E g.length).length+7) / 8
theorem S1.len (h:S1 p g E):(WT p g E).length=Vj p g E+(pfm p g E).size:=by
 unfold WT Vj
 rw[List.length_append,List.length_append,Wg,OO]
 have:=h.ef.len
 show _+(XF (Vn p g E g.length) (pfm p g E)).length=_
 rw[this]
theorem S1.small (h:S1 p g E):(WT p g E).length<=50000000/\40<=(WT p g E).length:=by
 have h1:=h.ef.size_le
 have h2:=h.len
 have h3:=h.pk.bits
 unfold Vj at h2
 omega
theorem zcK:((WT p g E).drop 0).take 28=hdT (Vd p g E):=by
 unfold WT
 rw[List.drop_zero,List.append_assoc,<-Wg (Vd p g E)]
 exact List.take_left
theorem S1.index (h:S1 p g E):((WT p g E).drop (Vj p g E)).take (pfm p g E).size=XF (Vn p g E g.length) (pfm p g E):=by
 have h1:(hdT (Vd p g E)++Ow (PL p g E g.length)).length=Vj p g E:=by
  rw[List.length_append,Wg,OO];rfl
 have h2:=h.ef.len
 unfold WT
 show((hdT (Vd p g E)++Ow (PL p g E g.length)++XF (Vn p g E g.length) (pfm p g E)).drop _).take _=_
 rw[<-h1,List.drop_left,<-h2,List.take_length]
theorem zbW (h:S1 p g E)(a n:Nat)(hn:8*(a+n)<=(PL p g E g.length).length+7):((WT p g E).drop (28+a)).take n=((Ow (PL p g E g.length)).drop a).take n:=by
 unfold WT
 exact piece (by rw[Wg]) (by rw[OO];omega)
end
def gwC (h:PHd)(t:TypeId)(u:Value)(x:Nat):List Value:=[I (h.n:Int),I (h.m:Int),I (h.p.Ou:Int),I (h.p.chain:Int),I (h.p.interval:Int),I (h.p.zeta:Int),I (h.p.most:Int),I (h.bits:Int),.iface t u,ptr x 0]
theorem z4K {t:TypeId}{u:Value}{p:PA}{g:List (List Nat)}{E:List (Nat×Nat)}(hp:S1 p g E)(R:Src t u (WT p g E)){X:Nat->Prop}{w:World}(hI:R.inv X w)(hX:∀k,X k->k<w.heap.size):
  Oy prog 112 [.iface t u] w λv w'=>∃k x,v= .tuple #[ptr k 0,I 0]/\O9 w' k (gwC (Vd p g E) t u x) 165/\O9 w' x (elC (pfm p g E) 247 (YO t u (Vj p g E) (pfm p g E).size)) 295/\w.heap.size<=x/\w.heap.size<=k/\x≠k/\R.inv (λj=>X j\/j=x\/j=k) w'/\Kp (λj=>¬X j) w w':=by
 have aF:=hp.len
 obtain⟨dm,dc⟩:=hp.small
 have hn:=hp.gr.n
 have cT:=hp.n1
 have qY:=hp.pk.bits
 have hg:=Ext.Ob w
 have rF:=hp.head
 have vG:(Vd p g E).bits=(PL p g E g.length).length:=rfl
 have Nl:Vj p g E=28+((Vd p g E).bits+7) / 8:=rfl
 have Nm:(Vd p g E).n=g.length:=rfl
 refine NP (e:=[(0,_)]) func112 O ntmps112 O O$ qN O$ Oc O$ NZ O$ py$ qN O$ NT O$ qV (zdZ z5I O O)$ NU$ It O$ An$ py$ Qj (λw'=>R.inv X w'/\Kp (λk=>¬X k) w w') O$ Oj 0 O O (⟨R.ext hI hg (λk hk=> .inl hk),hg.kp⟩) ?_
 refine Oj 1 O O (⟨R.ext hI hg (λk hk=> .inl hk),hg.kp⟩)$ O0 4 O (ymm O) (⟨R.ext hI hg (λk hk=> .inl hk),hg.kp⟩)$ O0 5 O (zj9 R.mr O) (⟨R.ext hI hg (λk hk=> .inl hk),hg.kp⟩)$ Oj 6 O O (⟨R.ext hI hg (λk hk=> .inl hk),hg.kp⟩)$ qO 2$ Vb (i:=2) O O O (yci R.cl R.ml O O) (R.len (R.ext hI hg (λk hk=> .inl hk))) ?_
 rintro _ w1 ⟨rfl,ad⟩
 refine⟨⟨R.ext hI (hg.trans ad) (λk hk=> .inl hk),(hg.trans ad).kp⟩,?_⟩
 have bG:=hg.trans ad
 rw[aF]
 refine O0 3 O (ymi O O) (⟨R.ext hI (hg.trans ad) (λk hk=> .inl hk),(hg.trans ad).kp⟩) ?_
 rw[show min (28:Int) ((Vj p g E+(pfm p g E).size:Nat):Int)=((28:Nat):Int) by omega]
 have m9:=R.ext hI bG (λk hk=> .inl hk)
 have iH:∀k,X k->k<w1.heap.size:=λk hk=>by have:=hX k hk;have:=bG.size;omega
 refine qO 7$ Vb (i:=7) O O O (yci R.cr R.mr O O) (R.rd 0 28 m9 iH (by omega)) ?_
 rintro _ w2 ⟨rfl,cO,aq⟩
 refine⟨⟨cO,bG.kp.trans aq⟩,?_⟩
 rw[zcK]
 have dx:Kp (λk=>¬X k) w w2:=bG.kp.trans aq
 have gN:∀k,X k->k<w2.heap.size:=λk hk=>by have:=iH k hk;have:=aq.size;omega
 refine Oj 8 O O (⟨cO,bG.kp.trans aq⟩)$ O0 9 O (QL O O) (⟨cO,bG.kp.trans aq⟩)$ O0 10 O (QL O O) (⟨cO,bG.kp.trans aq⟩)$ O0 11 O (Qq O) (⟨cO,bG.kp.trans aq⟩)$ O0 12 O (Qq O) (⟨cO,bG.kp.trans aq⟩)$ qE$ py$ qN O$ NT O$ Pz O O$ NU$ It O$ An$ qN O ?_
 refine NT O$ Om zfy O (z9i (Vd p g E) rF w2) ?_
 rintro _ w3 ⟨rfl,ah⟩
 refine NT O$ qV (QL (v:=hdV (Vd p g E)) O O)$ qV (QL (v:=I 0) O O)$ O5 O O (QU (cs:=[_,_,_,_,_,_,_,_]) T7 O) ?_
 rintro _ w4 ⟨b6,rfl,jP,az,aO⟩
 refine Oe O (P4 (news:=hdC (Vd p g E)) T7 O O O O aO (by simp)) ?_
 rintro w5 ⟨fH,ak⟩
 replace fH:O9 w5 b6 (hdC (Vd p g E)) 160:=fH
 have bT:Ext w3 w5:=az.NR ak (λi e=>by omega)
 have iA:=ah.trans bT
 refine NZ O$ OD.qb (e:=[(0,_),(2,_),(3,_),(5,_),(6,_)]) ?_
 refine py$ qN O$ NT O$ Pz O O$ NU$ It O$ An$ py$ qN O$ qV (OE (news:=hdC (Vd p g E)) z5M O T7 O (fH.cells (n:=8) O) O)$ Om zhk O (z98 (Vd p g E) rF (by show g.length<=_;omega) _) ?_
 rintro _ w6 ⟨rfl,aH⟩
 have iB:=iA.trans aH
 have pu:=R.ext cO iB (λk hk=> .inl hk)
 have tQ:=aH.NX fH
 refine NT O$ qV (QL (v:=I ((Vj p g E+(pfm p g E).size:Nat):Int)) O O)$ qV (QL (v:=I 0) O O)$ Oc O$ Oc O$ qM O$ NT O$ Pz O O$ OR$ Od O O$ NT O$ PG O O (yci R.cl R.ml O O) (R.len pu) ?_
 rintro _ w7 ⟨rfl,bV⟩
 rw[aF]
 have E2:=iB.trans bV
 have qf:=bV.NX tQ
 refine Pz O O$ OR$ OU O O ?_
 replace qf:O9 w7 b6 [I ((Vd p g E).n:Int),I ((Vd p g E).m:Int),I ((Vd p g E).p.Ou:Int),I ((Vd p g E).p.chain:Int),I ((Vd p g E).p.interval:Int),I ((Vd p g E).p.zeta:Int),I ((Vd p g E).p.most:Int),I ((Vd p g E).bits:Int)] 160:=qf
 refine NU$ It O$ An$ qN O$ Og TZ O$ qV (O6 U3 O O qf O)$ P6 O O$ qV (UH O O (by omega))$ P6 O O ?_
 rw[show 28+((((Vd p g E).bits:Nat):Int)+7) / 8=(Vj p g E:Int) by omega]
 refine NZ O$ OD.qb (e:=[(0,_),(2,_),(3,_),(5,_),(6,_),(9,_)]) ?_
 refine qN O$ Od O O$ NT O ?_
 have jF:=R.ext pu bV (λk hk=> .inl hk)
 refine PG O O (yci R.cl R.ml O O) (R.len jF) ?_
 rintro _ w8 ⟨rfl,dq⟩
 rw[aF]
 have jh:=E2.trans dq
 have nG:=R.ext jF dq (λk hk=> .inl hk)
 have iJ:=dq.NX qf
 have z28:=jh.size
 refine NT O$ Qp O O ?_
 rw[show((Vj p g E+(pfm p g E).size:Nat):Int)-(Vj p g E:Int)=((pfm p g E).size:Int) by omega]
 refine qV (Rt (cs:=[_,_,_]) zix O zh0 O O)$ qV (zfZ zjN (λ_ h=>by cases h) rfl) ?_
 have lb6:=iJ.lt
 have KJ:=R.ext (Y:=λk=>X k\/k=b6) cO jh (λk hk=>hk.imp id λe=>by have:=ah.size;omega)
 have iZ:∀k,(X k\/k=b6)->k<w8.heap.size:=λk hk=>by
  rcases hk with hk| e
  ·have:=gN k hk;have:=jh.size;omega
  ·omega
 refine Om zir O (z6c hp.ef (zdV R (Vj p g E) (pfm p g E).size (XF (Vn p g E g.length) (pfm p g E)) (by omega) (by omega) hp.index) (X:=λk=>X k\/k=b6) KJ iZ) ?_
 rintro _ w9 ⟨x,rfl,j0,hx,gM,aL⟩
 have ky:=aL.NX iJ (λhh=>hh (.inr O))
 have E3:Kp (λk=>¬X k) w2 w9:=jh.kp.trans (aL.Of λk hk e=>hk (.inl e))
 have z9:=aL.size
 refine NT O$ qV (QL (v:=ptr x 0) O O)$ qV (QL (v:=I 0) O O)$ Oc O$ NZ O$ py$ NQ$ qN O$ NT O$ Pz O O$ NZ O$ It O$ py ?_
 have iK:=Ext.Ob w9
 refine Qj (λw'=>Ext w9 w') O$ Oj 0 O O (iK)$ O0 2 O (OG Ti O) iK$ qT 3 O (λ_ h=>O6 U3 O O (h.NX ky) O) iK$ O0 4 O (TK O O (by omega)) iK$ RW 1 O zfv O (z8B (iK.NX j0)) ?_
 rintro _ w10 ⟨rfl,rfl⟩
 refine⟨iK,?_⟩
 rw[show(pfm p g E).n=(Vd p g E).n+1 from rfl]
 refine O0 5 O (yne O O) iK$ O0 6 O (Qq O) iK$ qE$ OD.qb (e:=[(0,_),(2,_),(3,_),(6,_),(10,_),(69,_)]) ?_
 have ij:=iK.NX ky
 have yG:=iK.NX j0
 refine O8 O (λh9=>?_)$ λh9=>?_
 ·exact absurd (by omega) h9
 ·refine An$ NS$ qN O$ qV (OE (news:=hdC (Vd p g E)) z5M O T7 O (O9.cells (n:=8) ij O) O)$ Od O O$ qV (Rt (cs:=[_,_,_,_,_,_,_,_,_,_]) zgf O zio O O)$ O5 O O (Qr O (cs:=gwC (Vd p g E) t u x) O) ?_;rintro _ w11 ⟨k,rfl,hk,aQ,aX⟩;refine Oc O$ NZ O$ NV func112 O ?_;have E4:=iK.trans aQ;have z02:=dx.size;have z28:=jh.size;have zdd:=iK.size;have lbx:=yG.lt;refine⟨_,rfl,k,x,rfl,aX,E4.NX j0,by omega,by omega,by omega,R.ext gM E4 (λj hj=>?_),(dx.trans E3).trans E4.kp⟩;rcases hj with hj|hj|hj
  ·exact .inl (.inl (.inl hj))
  ·exact .inl (.inr hj)
  ·exact .inr (by omega)
structure TP {t:TypeId}{u:Value}{p:PA}{g:List (List Nat)}{E:List (Nat×Nat)}(R:Src t u (WT p g E))(k x:Nat)(X:Nat->Prop)(w:World):Prop where
 ok:S1 p g E
 NX:O9 w k (gwC (Vd p g E) t u x) 165
 ix:O9 w x (elC (pfm p g E) 247 (YO t u (Vj p g E) (pfm p g E).size)) 295
 xk:X k
 xx:X x
 inv:R.inv X w
 lt:∀j,X j->j<w.heap.size
 x1:X 2
 x2:X 3
 gam:O9 w 2 (RB .gamma) 317
 una:O9 w 3 (RB .unary) 317
section
variable {t:TypeId}{u:Value}{p:PA}{g:List (List Nat)}{E:List (Nat×Nat)}{R:Src t u (WT p g E)}{k x:Nat}{X Y S:Nat->Prop}{w w':World}
theorem TP.grow (h:TP R k x X w)(hx:Ext w w')(hY:∀j,Y j->X j\/(w.heap.size<=j/\j<w'.heap.size))(cI:∀j,X j->Y j):TP R k x Y w':=
 ⟨h.ok,hx.NX h.NX,hx.NX h.ix,cI _ h.xk,cI _ h.xx,R.ext h.inv hx (λj hj=>(hY j hj).imp id And.left),λj hj=>by
  rcases hY j hj with e| e
  ·have:=h.lt j e;have:=hx.size;omega
  ·exact e.2,cI _ h.x1,cI _ h.x2,hx.NX h.gam,hx.NX h.una⟩
theorem TP.ext (h:TP R k x X w)(hx:Ext w w'):TP R k x X w':=h.grow hx (λj hj=> .inl hj) λj hj=>hj
theorem TP.less (h:TP R k x Y w)(cI:∀j,X j->Y j)(hk:X k)(hx:X x)(h1:X 2)(h2:X 3):TP R k x X w:=
 ⟨h.ok,h.NX,h.ix,hk,hx,R.ext h.inv (Ext.refl w) (λj hj=> .inl (cI j hj)),λj hj=>h.lt j (cI j hj),h1,h2,h.gam,h.una⟩
theorem TP.step (h:TP R k x X w)(hk:Kp S w w')(hS:∀j,S j->X j/\j≠k/\j≠x/\j≠2/\j≠3)(hY:∀j,Y j->X j\/(w.heap.size<=j/\j<w'.heap.size))(cI:∀j,X j->Y j):TP R k x Y w':=
 ⟨h.ok,hk.NX h.NX (λe=>(hS _ e).2.1 O),hk.NX h.ix (λe=>(hS _ e).2.2.1 O),cI _ h.xk,cI _ h.xx,R.step h.inv hk (λj hj=>(hS j hj).1) (λj hj=>(hY j hj).imp id And.left),λj hj=>by
  rcases hY j hj with e| e
  ·have:=h.lt j e;have:=hk.size;omega
  ·exact e.2,cI _ h.x1,cI _ h.x2,hk.NX h.gam (λe=>(hS _ e).2.2.2.1 O),hk.NX h.una (λe=>(hS _ e).2.2.2.2 O)⟩
theorem TP.own (h:TP R k x X w)(hk:Kp S w w')(hS:∀j,S j->X j/\j≠k/\j≠x/\j≠2/\j≠3):TP R k x X w':=
 ⟨h.ok,hk.NX h.NX (λe=>(hS _ e).2.1 O),hk.NX h.ix (λe=>(hS _ e).2.2.1 O),h.xk,h.xx,R.own h.inv hk (λj hj=>(hS j hj).1),λj hj=>by have:=h.lt j hj;have:=hk.size;omega,h.x1,h.x2,hk.NX h.gam (λe=>(hS _ e).2.2.2.1 O),hk.NX h.una (λe=>(hS _ e).2.2.2.2 O)⟩
theorem TP.src (h:TP R k x X w)(hk:Kp (λj=>¬X j) w w')(hI:R.inv X w'):TP R k x X w':=
 ⟨h.ok,hk.NX h.NX (λe=>e h.xk),hk.NX h.ix (λe=>e h.xx),h.xk,h.xx,hI,λj hj=>by have:=h.lt j hj;have:=hk.size;omega,h.x1,h.x2,hk.NX h.gam (λe=>e h.x1),hk.NX h.una (λe=>e h.x2)⟩
def TP.R2 (R:Src t u (WT p g E))(h:S1 p g E):Src 247 (YO t u (Vj p g E) (pfm p g E).size) (XF (Vn p g E g.length) (pfm p g E)):=
 zdV R (Vj p g E) (pfm p g E).size _ (by have:=h.len;omega) (by have:=h.small;omega) h.index
theorem TP.cells (h:TP R k x X w):O9 w k [I ((Vd p g E).n:Int),I ((Vd p g E).m:Int),I ((Vd p g E).p.Ou:Int),I ((Vd p g E).p.chain:Int),I ((Vd p g E).p.interval:Int),I ((Vd p g E).p.zeta:Int),I ((Vd p g E).p.most:Int),I ((Vd p g E).bits:Int),.iface t u,ptr x 0] 165:=h.NX
theorem zcA (h:TP R k x X w):Oy prog 40 [ptr k 0] w λv w'=>v=I (g.length:Int)/\w'=w:=by
 have hB:=h.cells
 refine NP (e:=[(0,_)]) func40 O ntmps40 O O$ qN O$ NZ O$ py$ qN O$ NT O$ qV (Pt U30 O O)$ NU$ It O$ An$ qN O$ NT O$ OH O$ Og VZ O ?_
 refine Og Ti O$ qV (O6 U3 O O hB O)$ NZ O$ NV func40 O ?_
 exact⟨_,rfl,rfl,rfl⟩
theorem z69 (h:TP R k x X w){b v c:Nat}(hv:v<g.length)(hr:Rd w (.slice (some ⟨b,0,none⟩) 1 c) 1 1 [I (v:Int)]):Oy prog 221 [ptr k 0,.slice (some ⟨b,0,none⟩) 1 c] w λv w'=>v=I 0/\w'=w:=by
 have hB:=h.cells
 have hn:(Vd p g E).n=g.length:=rfl
 refine NP (e:=[(0,_),(1,_)]) func221 O ntmps221 O O$ qN O$ NZ O$ py$ qN O$ NT O$ qV (Pt U30 O O)$ NU$ It O$ An$ py$ qN O$ NT O$ Qx Qt O ?_
 refine NT O$ NU$ NQ$ Qm (α:=Nat) (0) (λi=>[(0,ptr k 0),(9,.slice (some ⟨b,0,none⟩) 1 c),(10,I 1),(11,I (i:Int))]) (λi w'=>w'=w/\i<=1) (λi=>1-i) ?hI ?hround
 case hI=>exact⟨rfl,Nat.zero_le _⟩
 case hround=>
  rintro i w2 ⟨rfl,hi⟩ ih
  try dsimp only
  refine qN O$ Py O O$ NU$ py$ O8 O (λh0=>?_)$ λh0=>?_
  ·have ki:i=0:=by omega
   subst ki;refine An$ py$ NQ$ qN O$ qV (P7 Qt Pb O O (by omega))$ qV (OC U3 O O (Ps hr O))$ Oc O$ qM O$ NT O$ Py O O$ OR$ Od O O$ NT O$ OH O ?_;refine Og VZ O$ Og Ti O$ qV (O6 U3 O O hB O)$ SB O O$ OR$ OU O O$ NU$ It O$ An$ NS$ NW O$ P6 O O$ NT O$ NU ?_;exact(ih 1 _ ⟨rfl,by omega⟩ (by omega)).qb
  ·refine O4 O$ qN O$ NZ O$ NV func221 O ?_;exact⟨_,rfl,rfl,rfl⟩
theorem z8m {p:PA}{g:List (List Nat)}{E:List (Nat×Nat)}{v a n:Nat}{s:NY}(hs:((Ow (PL p g E g.length)).drop (a / 8)).take n=s)(ha:(PL p g E v).length=a)(hv:v<g.length)(hn:a+(WK p g E v).length<=8*(a / 8+n)):∃rest,(On s).drop (a%8)=WK p g E v++rest:=by
 have gX:∃r,PL p g E g.length=PL p g E (v+1)++r:=by
  have key:∀d i,∃r,PL p g E (i+d)=PL p g E i++r:=λd i=>by
   induction d with
   |zero=>exact⟨[],by simp⟩
   | succ d ih =>
     obtain⟨r,hr⟩:=ih;exact⟨r++WK p g E (i+d),by rw[<-Nat.add_assoc,Sc,hr,List.append_assoc]⟩
  obtain⟨r,hr⟩:=key (g.length-(v+1)) (v+1);rw[show v+1+(g.length-(v+1))=g.length by omega] at hr;exact⟨r,hr⟩
 obtain⟨r,hr⟩:=gX
 obtain⟨z,hz,-,-⟩:=Rq (PL p g E g.length)
 rw[<-hs,TO,SM,hz,hr,Sc,List.drop_take,List.drop_drop,show 8*(a / 8)+a%8=a by omega,List.append_assoc,List.append_assoc,List.drop_left' ha,List.take_append,List.take_of_length_le (by omega)]
 exact⟨_,rfl⟩
theorem z50 (h:TP R k x X w){v:Nat}(hv:v<g.length):Oy prog 240 [ptr k 0,I (v:Int)] w λr w'=>∃(b a e:Nat) (s:NY) (rest:List Bool),r= .tuple #[ptr b 0,I (e:Int),I 0]/\SX w' b s a/\(On s).drop a=WK p g E v++rest/\a+(WK p g E v).length=e/\w.heap.size<=b/\TP R k x (λj=>X j\/j=b) w'/\Kp (λj=>¬X j) w w':=by
 have hn:=h.ok.gr.n
 have qY:=h.ok.pk.bits
 have hB:=h.cells
 have iL:=Zq p g E (n:=g.length) (i:=v) (by omega)
 have yH:=Zq p g E (n:=g.length) (i:=v+1) (by omega)
 have jI:=VH p g E (g.length-(v+1)) (v+1)
 rw[show v+1+(g.length-(v+1))=g.length by omega] at jI
 have eg:=Sc p g E v
 have kY:=congrArg List.length eg
 rw[List.length_append] at kY
 refine NP (e:=[(0,_),(1,_)]) func240 O ntmps240 O O$ qN O$ Oc O$ Oc O$ Oc O$ qM O$ NT O$ OH O$ Og z7f O$ qV (O6 z2O O O hB O)$ NT O$ Om zdt O (z1B h.ok.ef (TP.R2 R h.ok) h.inv h.lt h.xx h.ix iL) ?_
 rintro _ w1 ⟨rfl,m9,aK⟩
 have h1:=h.src aK m9
 have ai:=h1.cells
 refine NT O$ P9 O O$ P9 O O$ Oc O$ NZ O$ py$ qN O$ NT O$ Pz O O$ NU$ It O$ An$ qN O$ NT O ?_
 refine OH O$ Og z7f O$ qV (O6 z2O O O ai O)$ NT O$ P6 O O ?_
 rw[show(v:Int)+1=((v+1:Nat):Int) by omega]
 refine Om zdt O (z1B h1.ok.ef (TP.R2 R h1.ok) h1.inv h1.lt h1.xx h1.ix yH) ?_
 rintro _ w2 ⟨rfl,cO,aq⟩
 have h2:=h1.src aq cO
 have am:=h2.cells
 have dx:=aK.trans aq
 obtain⟨al,ma⟩:∃n,(PL p g E v).length=n:=⟨_,rfl⟩
 obtain⟨bl,fu⟩:∃n,(PL p g E (v+1)).length=n:=⟨_,rfl⟩
 rw[ma,fu]
 have vG:(Vd p g E).bits=(PL p g E g.length).length:=rfl
 refine NT O$ P9 O O$ P9 O O$ Oc O$ NZ O$ OD.qb (e:=[(0,_),(4,_),(5,_),(6,_),(7,_),(8,_),(9,_)]) ?_
 refine py$ NQ$ qN O$ NT O$ Pz O O$ NZ O$ It O$ qN O$ Od O O$ PD O O$ OR$ Od O O$ NT O$ OH O ?_
 refine Og VZ O$ Og TZ O$ qV (O6 U3 O O am O)$ qV ((Pf O U3 Qy (by omega)))$ PD O O$ OR$ OU O O$ NZ O$ It O$ An$ NS$ qN O$ NT O$ qV (z7V O O O (by simp only[IntKind.bits];omega) (by omega)) ?_
 refine qV (OT O Qy U3 (by omega))$ NZ O$ OD.qb (e:=[(0,_),(4,_),(5,_),(6,_),(7,_),(8,_),(9,_),(10,_)]) ?_
 refine qN O$ NT O$ OH O$ Og zcG O$ qV (O6 z5I O O am O)$ NT O$ P6 O O$ NT O$ qV (QP O O)$ qV (OT O Qy U3 (by omega))$ qV (UH O O (by omega))$ NT O$ Qp O O ?_
 have B3:28+al / 8+((bl+7) / 8-al / 8)<=(WT p g E).length:=by have:=h.ok.len;unfold Vj at this;omega
 rw[show 28+((al / 8:Nat):Int)=((28+al / 8:Nat):Int) by omega]
 rw[show((((bl+7)%18446744073709551616:Nat):Int)) / 8-((al / 8:Nat):Int)=(((bl+7) / 8-al / 8:Nat):Int) by omega]
 refine PG O O (yci R.cr R.mr O O) (R.rd (28+al / 8) ((bl+7) / 8-al / 8) h2.inv h2.lt B3) ?_
 rintro _ w3 ⟨rfl,DM,aw⟩
 have h3:=h2.src aw DM
 rw[zbW h.ok (al / 8) ((bl+7) / 8-al / 8) (by omega)]
 obtain⟨s,hs⟩:∃s,((Ow (PL p g E g.length)).drop (al / 8)).take ((bl+7) / 8-al / 8)=s:=⟨_,rfl⟩
 rw[hs]
 refine NT O$ P9 O O$ P9 O O$ Oc O$ NZ O$ OD.qb (e:=[(4,_),(5,_),(6,_),(7,_),(8,_),(9,_),(10,_),(11,_)]) ?_
 refine py$ qN O$ NT O$ Pz O O ?_
 have fL:s.length=(bl+7) / 8-al / 8:=by
  rw[<-hs,List.length_take,List.length_drop,OO];omega
 obtain⟨rest,nI⟩:∃rest,(On s).drop (al%8)=WK p g E v++rest:=z8m hs ma hv (by omega)
 refine NU$ It O$ An$ qN O$ NT O$ Om z6C O (VW s (by omega) w3) ?_
 rintro _ w4 ⟨b,rfl,fT,az,hb⟩
 have lb:=fT.1.lt
 have h4:TP R k x (λj=>X j\/j=b) w4:=h3.grow az (λj hj=>hj.imp id λe=>by omega) (λj hj=> .inl hj)
 have fI:¬X b:=λe=>by have:=h3.lt b e;omega
 refine Oc O$ qM O$ Od O O$ qV (OT O Qy U3 (by omega))$ NT O$ qV (Xa O O (by omega))$ Qp O O ?_
 rw[show(al:Int)-8*((al / 8:Nat):Int)=((al%8:Nat):Int) by omega]
 refine Om z9O O (Y8 fT (al%8) (by omega)) ?_
 rintro _ w5 ⟨rfl,sq,ak⟩
 have h5:=h4.own ak (λj e=>by
  subst e
  exact⟨.inr O,λe=>fI (e▸h.xk),λe=>fI (e▸h.xx),λe=>fI (e▸h.x1),λe=>fI (e▸h.x2)⟩)
 refine qM O$ Od O O$ qV (OT O Qy U3 (by omega))$ NT O$ qV (Xa O O (by omega))$ Qp O O ?_
 rw[show(bl:Int)-8*((al / 8:Nat):Int)=((bl-8*(al / 8):Nat):Int) by omega]
 refine Oc O$ Oc O$ NZ O$ OD.qb (e:=[(4,_),(5,_),(6,_)]) ?_
 refine NV func240 O ?_
 have z03:=(dx.trans aw).size
 exact⟨_,rfl,b,al%8,bl-8*(al / 8),s,rest,rfl,sq,nI,by omega,by omega,h5,((dx.trans aw).trans az.kp).NR ak (λj e=> .inl (by omega))⟩
end
def Oh (g:List (List Nat))(v:Nat):List Nat:=(g[v]?).getD []
def OI (g:List (List Nat))(E:List (Nat×Nat))(v:Nat):Nat:=if Oh g v=[] then 0 else((E[v]?).getD (0,0)).1
def SH (p:PA)(g:List (List Nat))(E:List (Nat×Nat))(v:Nat):List (Cd×Nat):=if Oh g v=[] then [] else TJ p.list v (Oh g v) (PN g v (OI g E v)) (OI g E v)
theorem z9h (p:PA)(g:List (List Nat))(E:List (Nat×Nat))(v:Nat):WK p g E v=Oq (PK p.list (Oh g v).length (OI g E v))++Oq (SH p g E v):=by
 unfold WK SH OI
 rw[<-RD]
 by_cases h:Oh g v=[]
 ·have h':(g[v]?).getD []=[]:=h;rw[if_pos h,if_pos h,h',h]
  rfl
 ·rw[if_neg h,if_neg h];have:=z0R p.list v (ref:=PN g v ((E[v]?).getD (0,0)).1) ((E[v]?).getD (0,0)).1 h;rw[<-this];rfl
section
variable {t:TypeId}{u:Value}{p:PA}{g:List (List Nat)}{E:List (Nat×Nat)}{R:Src t u (WT p g E)}{k x:Nat}{X Y S:Nat->Prop}{w w':World}
theorem S1.ent (h:S1 p g E){v:Nat}(hv:v<g.length):YS p g E v (Oh g v).length ((E[v]?).getD (0,0)):=by
 have hl:=h.pk.el
 obtain⟨e,he⟩:∃e,E[v]? =some e:=⟨_,List.getElem?_eq_getElem (by omega)⟩
 have:=h.pk.ok.ent v e he
 rw[he];exact this
theorem S1.z2s (h:S1 p g E){v:Nat}(hv:v<g.length):OI g E v<=p.Ou/\OI g E v<=v:=by
 unfold OI
 split
 ·omega
 ·rcases h.ent hv with e| e
  ·rw[e];exact⟨Nat.zero_le _,Nat.zero_le _⟩
  ·exact⟨e.2.1,e.2.2.1⟩
theorem S1.suc (h:S1 p g E){v:Nat}(hv:v<g.length):OQ (Oh g v)/\(Oh g v).length<=g.length/\∀y∈Oh g v,y<g.length:=by
 have hm:Oh g v∈g:=by
  unfold Oh;rw[List.getElem?_eq_getElem hv];exact List.getElem_mem hv
 exact⟨h.gr.ok _ hm,h.gr.len hm,h.gr.lt _ hm⟩
theorem z5H (h:TP R k x X w){v:Nat}(hv:v<g.length):Oy prog 223 [ptr k 0,I (v:Int)] w λr w'=>∃(b a:Nat) (s:NY) (rest:List Bool),r= .tuple #[.agg #[I ((Oh g v).length:Int),I (OI g E v:Int)],ptr b 0,I ((a+(Oq (SH p g E v)).length:Nat):Int),I 0]/\SX w' b s a/\(On s).drop a=Oq (SH p g E v)++rest/\w.heap.size<=b/\TP R k x (λj=>X j\/j=b) w'/\Kp (λj=>¬X j) w w':=by
 have hn:=h.ok.gr.n
 obtain⟨dm,dc,oK⟩:=h.ok.suc hv
 have gR:=h.ok.z2s hv
 have pW:=z9h p g E v
 have yI:(Oh g v).length=0->OI g E v=0:=λe=>by unfold OI;rw[if_pos (List.eq_nil_of_length_eq_zero e)]
 refine NP (e:=[(0,_),(1,_)]) func223 O ntmps223 O O$ qN O$ O5 O O (QU (cs:=[_,_]) Rr O) ?_
 rintro _ w1 ⟨b4,rfl,fV,ad,aI⟩
 have l4:=aI.lt
 have h1:TP R k x (λj=>X j\/j=b4) w1:=h.grow ad (λj hj=>hj.imp id λe=>by omega) (λj hj=> .inl hj)
 have az:∀j,X j->j≠b4:=λj hj e=>by have:=h.lt j hj;omega
 refine Oc O$ Oc O$ Oc O$ qM O$ Od O O$ Om zgB O (z50 h1 hv) ?_
 rintro _ w2 ⟨b,a,e,s,rest,rfl,cK,hd,he,hb,h2,aq⟩
 have bE:=aq.NX aI (λe=>e (.inr O))
 have KK:=h2.cells
 have lb:=cK.1.lt
 have fI:∀j,X j->j≠b:=λj hj e=>by have:=h.lt j hj;have:=ad.size;omega
 have mx:∀j,j=b->(X j\/j=b4)\/j=b:=λj e=> .inr e
 refine NT O$ qV (QL (v:=ptr b 0) O O)$ qV (QL (v:=I (e:Int)) O O)$ qV (QL (v:=I 0) O O)$ Oc O$ Oc O$ NZ O$ py$ qN O$ NT O$ Pz O O$ NU$ It O$ An ?_
 refine qN O$ Od O O$ OH O$ Og VZ O$ Og Xo O$ qV (OE (news:=Uf p) ZX O QJ O (O9.cells (i:=2) (n:=5) KK O) O)$ Om z0G O (S2 p w2) ?_
 rintro _ w3 ⟨rfl,ah⟩
 have h3:=h2.ext ah
 have ld:SX w3 b s a:=⟨ah.NX cK.1,cK.2⟩
 rw[pW,List.append_assoc] at hd
 refine Om zdv O (z1W ld p.list h.ok.PI.1 h3.gam h3.una (λe=>fI 2 h.x1 e) (λe=>fI 3 h.x2 e) (Oh g v).length (OI g E v) (by omega) gR.1 yI _ hd) ?_
 rintro _ w4 ⟨rfl,fT,ao⟩
 have HH:=Rs hd
 have h4:=h3.own ao (λj e=>⟨.inr e,λe'=>fI k h.xk (e'▸e),λe'=>fI x h.xx (e'▸e),λe'=>fI 2 h.x1 (e'▸e),λe'=>fI 3 h.x2 (e'▸e)⟩)
 have cy:=ao.NX (ah.NX bE) (λe=>by omega)
 have fL:=congrArg List.length pW
 rw[List.length_append] at fL
 refine NT O$ qV (QL (v:= .agg #[I ((Oh g v).length:Int),I (OI g E v:Int)]) O O)$ qV (QL (v:=I 0) O O)$ O5 O O (QU (cs:=[_,_]) Rr O) ?_
 rintro _ w5 ⟨b11,rfl,j9,aR,aX⟩
 refine Oe O (P4 (news:=[I ((Oh g v).length:Int),I (OI g E v:Int)]) Rr O O O O aX (by simp)) ?_
 rintro w6 ⟨nJ,aP⟩
 replace nJ:O9 w6 b11 [I ((Oh g v).length:Int),I (OI g E v:Int)] 332:=nJ
 have cN:Ext w4 w6:=aR.NR aP (λj e=>by omega)
 have h6:=h4.ext cN
 have kV:SX w6 b s (a+(Oq (PK p.list (Oh g v).length (OI g E v))).length):=⟨cN.NX fT.1,fT.2⟩
 refine NZ O$ OD.qb (e:=[(4,_),(5,_),(6,_),(7,_),(8,_),(9,_),(10,_),(11,_)]) ?_
 refine py$ qN O$ NT O$ Pz O O$ OR$ Od O O$ Om Xv O (Th kV) ?_
 rintro _ w6 ⟨rfl,rfl⟩
 refine NT O$ PD O O$ OR$ OU O O$ NU$ It O$ An$ qN O$ qV (OE (news:=[I ((Oh g v).length:Int),I (OI g E v:Int)]) z4e O Rr O (O9.cells (n:=2) nJ O) O)$ Od O O ?_
 have cd:=cN.NX cy
 refine Oe O (P4 (news:=[I ((Oh g v).length:Int),I (OI g E v:Int)]) Rr O O O O cd (by simp)) ?_
 rintro w7 ⟨bD,aD⟩
 replace bD:O9 w7 b4 [I ((Oh g v).length:Int),I (OI g E v:Int)] 332:=bD
 have h7:=(h6.own aD (λj e=>⟨.inl (.inr e),λe'=>az k h.xk (e'▸e),λe'=>az x h.xx (e'▸e),λe'=>az 2 h.x1 (e'▸e),λe'=>az 3 h.x2 (e'▸e)⟩)).less (X:=λj=>X j\/j=b) (λj hj=>hj.imp .inl id) (.inl h.xk) (.inl h.xx) (.inl h.x1) (.inl h.x2)
 have KL:SX w7 b s (a+(Oq (PK p.list (Oh g v).length (OI g E v))).length):=⟨aD.NX kV.1 (by omega),kV.2⟩
 refine Oc O$ Oc O$ NZ O$ Oz func223 (.cell z4e O Rr O (O9.cells (n:=2) bD (news:=[_,_]) O) O (.tmp O (.tmp O (.tmp O .nil)))) (⟨_,rfl,b,a+(Oq (PK p.list (Oh g v).length (OI g E v))).length,s,rest,?_,KL,HH,by have:=ad.size;omega,h7,?_⟩)
 ·rw[show a+(Oq (PK p.list (Oh g v).length (OI g E v))).length+(Oq (SH p g E v)).length=e by omega]
  rfl
 ·have oH:Kp (λj=>¬X j) w w4:=((ad.kp.trans (aq.Of λj e e'=>e (.inl e'))).trans ah.kp).NR ao (λj e=> .inl (by have:=ad.size;omega));exact(oH.trans cN.kp).NR aD (λj e=> .inl (by omega))
end
section
variable {t:TypeId}{u:Value}{p:PA}{g:List (List Nat)}{E:List (Nat×Nat)}{R:Src t u (WT p g E)}{k x gb pb fb:Nat}{X Y S:Nat->Prop}{w w':World}
abbrev z3N (w:World)(vv:Value)(l:List Nat):Prop:=Sl w vv 106 1 l.length (l.map OB)
def SZ (E:List (Nat×Nat))(v:Nat):Nat:=((E[v]?).getD (0,0)).2
structure TdM (R:Src t u (WT p g E))(k x gb pb fb:Nat)(X:Nat->Prop)(w:World):Prop where
 gw:TP R k x X w
 bg:O9 w gb [ptr k 0] 30
 bp:O9 w pb [I (p.Ou:Int),I (p.chain:Int),I (p.interval:Int),I (p.zeta:Int),I (p.most:Int)] 94
 bf:O9 w fb [.func (.func 222) #[] #[ptr gb 0,ptr pb 0,ptr fb 0]] 330
 xg:X gb
 xp:X pb
 xf:X fb
theorem TdM.step (h:TdM R k x gb pb fb X w)(hk:Kp S w w')(hS:∀j,S j->X j->False)(h2:TP R k x Y w')(cI:∀j,X j->Y j):TdM R k x gb pb fb Y w':=
 ⟨h2,hk.NX h.bg (λe=>hS _ e h.xg),hk.NX h.bp (λe=>hS _ e h.xp),hk.NX h.bf (λe=>hS _ e h.xf),cI _ h.xg,cI _ h.xp,cI _ h.xf⟩
def VL (R:Src t u (WT p g E))(k x gb pb fb v behind:Nat)(X:Nat->Prop)(w:World):Prop:=
 Oy prog 222 [I (v:Int),I (behind:Int),ptr gb 0,ptr pb 0,ptr fb 0] w λr w'=>∃vv,r= .tuple #[vv,I 0]/\z3N w' vv (Oh g v)/\(∀b,vv.ownBlock=some b->w.heap.size<=b)/\TP R k x (λj=>X j\/vv.ownBlock=some j) w'/\Kp (λj=>¬X j) w w'
theorem S1.back (h:S1 p g E){v:Nat}(hv:v<g.length)(hq:0<OI g E v):OI g E v<=v/\SZ E v=SZ E (v-OI g E v)+1/\PN g v (OI g E v)=Oh g (v-OI g E v)/\0<(Oh g (v-OI g E v)).length/\(Oh g (v-OI g E v)).length<=p.most/\(Oh g v).length<=p.most/\Oh g v≠[]/\SZ E v<=p.chain:=by
 have bP:Oh g v≠[]:=λe=>by unfold OI at hq;rw[if_pos e] at hq;omega
 have hb:OI g E v=((E[v]?).getD (0,0)).1:=by unfold OI;rw[if_neg bP]
 rcases h.ent hv with e|⟨h1,h2,h3,l,e',h4,h5,h6,h7⟩
 ·rw[hb,e] at hq;cases hq
 ·rw[<-hb] at h1 h2 h3 h4 h5;have E5:=of_decide_eq_true h7;have hs:Oh g (v-OI g E v)=l:=by unfold Oh;rw[h4];rfl
  refine⟨h3,?_,?_,by rw[hs];omega,by rw[hs];omega,by omega,bP,?_⟩
  ·unfold SZ;rw[h5];exact h6
  ·unfold PN;rw[if_neg (by omega)];rfl
  ·show((E[v]?).getD (0,0)).2<=_;omega
theorem z7N (ay:S1 p g E)(jg:g.length<50){v:Nat}(hv:v<g.length){b a:Nat}{s:NY}{rest:List Bool}(hR:SX w b s a)(hd:(On s).drop a=Oq (SH p g E v)++rest)(hG:O9 w 2 (RB .gamma) 317)(hU:O9 w 3 (RB .unary) 317)(h1:¬2=b)(h2:¬3=b)
  {vb:Value} (eI:OI g E v=0->vb= .slice none 0 0) (hS:0<OI g E v->z3N w vb (Oh g (v-OI g E v))) (AQ:∀j,vb.ownBlock=some j->j≠b):
  Oy prog 224 [ptr b 0,I (v:Int),I (g.length:Int),.agg #[I ((Oh g v).length:Int),I (OI g E v:Int)],vb,lpV p.list] w λr w'=>∃vv,r= .tuple #[vv,I 0]/\z3N w' vv (Oh g v)/\(∀j,vv.ownBlock=some j->w.heap.size<=j)/\SX w' b s (a+(Oq (SH p g E v)).length)/\Kp (λj=>j=b) w w':=by
 obtain⟨dm,dc,oK⟩:=ay.suc hv
 have gR:=ay.z2s hv
 by_cases bP:Oh g v=[]
 ·have yI:OI g E v=0:=by unfold OI;rw[if_pos bP]
  have E6:SH p g E v=[]:=by unfold SH;rw[if_pos bP]
  rw[yI,eI yI,E6,bP];refine(z2I p.list ay.PI.1 v (by omega) g.length (by omega)).mono λr w' hr=>?_;obtain⟨rfl,hx⟩:=hr;exact⟨_,rfl,Sl.nil _ _ _,λj e=>(by cases e),⟨hx.NX hR.1,hR.2⟩,hx.kp⟩
 ·have E6:SH p g E v=TJ p.list v (Oh g v) (PN g v (OI g E v)) (OI g E v):=by unfold SH;rw[if_neg bP]
  have jH:OQ (PN g v (OI g E v))/\(PN g v (OI g E v)).length<=60:=by
   have hn:=ay.gr.n;rcases W8 g v (OI g E v) with e| e
   ·rw[e];exact⟨⟨List.Pairwise.nil,λy hy=>(by cases hy)⟩,by simp⟩
   ·exact⟨ay.gr.ok _ e,by have:=ay.gr.len e;omega⟩
  have Bz:=Yj ay.PI.1 (x:=v) (by omega) dm jH.1 gR.1 (by omega) jH.2;rw[E6] at hd⊢;rcases Nat.eq_zero_or_pos (OI g E v) with h0|h0
  ·have lC:PN g v (OI g E v)=[]:=by unfold PN;rw[if_pos h0]
   rw[eI h0];have:=Z4 hR p.list ay.PI.1 v (by omega) g.length (by omega) (ra:=none) (rc:=0) (Oh g v) (PN g v (OI g E v)) dm bP (by omega) oK jH.1 (OI g E v) gR.1 (λ_=>lC) hG hU h1 h2 (λw2 aq=>by rw[lC];exact(Sl.nil _ 106 1).rd) (by rw[lC];exact Nat.le_refl _) (by omega) rest hd;rw[lC] at this⊢;exact this
  ·obtain⟨q1,q2,q3,q4,q5,q6,q7,q8⟩:=ay.back hv h0;have E7:=hS h0;rw[<-q3] at E7
   obtain⟨ga,gc,rfl,jO⟩:∃a c,vb= .slice a (PN g v (OI g E v)).length c/\(PN g v (OI g E v)).length<=c:=by
    rcases E7.shape with⟨-,e⟩|⟨b,c,e,hc⟩
    ·rw[q3] at e;omega
    ·exact⟨_,c,e,hc⟩
   exact Z4 hR p.list ay.PI.1 v (by omega) g.length (by omega) (ra:=ga) (rc:=gc) (Oh g v) (PN g v (OI g E v)) dm bP (by omega) oK jH.1 (OI g E v) gR.1 (λe=>by omega) hG hU h1 h2 (λw2 aq=>(E7.kp aq λj e=>AQ j e).rd) jO (by omega) rest hd
end
section
variable {t:TypeId}{u:Value}{p:PA}{g:List (List Nat)}{E:List (Nat×Nat)}{R:Src t u (WT p g E)}{k x gb pb fb:Nat}{X Y S:Nat->Prop}{w w':World}
theorem YN (jg:g.length<50){v behind:Nat}(hv:v<g.length)(B7:behind+SZ E v<=p.chain)(ht:TdM R k x gb pb fb X w)
  (ih:0<OI g E v->∀(X':Nat->Prop) (w':World),TdM R k x gb pb fb X' w'->VL R k x gb pb fb (v-OI g E v) (behind+1) X' w'):VL R k x gb pb fb v behind X w:=by
 have ay:=ht.gw.ok
 have hn:=ay.gr.n
 have Nn:p.chain<=1000000:=by have:=ay.PI.2.1;omega
 obtain⟨dm,dc,oK⟩:=ay.suc hv
 have gR:=ay.z2s hv
 have xN:=ht.bg
 unfold VL
 refine NP (e:=[(0,_),(1,_),(2,_),(3,_),(4,_)]) func222 O ntmps222 O O$ qN O$ Oc O$ Oc O$ qM O$ qV (O6 U30 O O xN O)$ NT O$ Om zhx O (z5H ht.gw hv) ?_
 rintro _ w1 ⟨b,a,s,rest,rfl,kJ,tw,bK,h1,aK⟩
 have lb1:=kJ.1.lt
 have iZ:∀j,X j->j≠b:=λj hj e=>by have:=ht.gw.lt j hj;omega
 refine NT O$ qV (QL (v:= .agg #[I ((Oh g v).length:Int),I (OI g E v:Int)]) O O)$ qV (QL (v:=ptr b 0) O O)$ qV (QL (v:=I ((a+(Oq (SH p g E v)).length:Nat):Int)) O O)$ qV (QL (v:=I 0) O O)$ O5 O O (QU (cs:=[_,_]) Rr O) ?_
 rintro _ w2 ⟨b9,rfl,oF,ae,cL⟩
 refine Oe O (P4 (news:=[I ((Oh g v).length:Int),I (OI g E v:Int)]) Rr O O O O cL (by simp)) ?_
 rintro w3 ⟨cP,aw⟩
 replace cP:O9 w3 b9 [I ((Oh g v).length:Int),I (OI g E v:Int)] 332:=cP
 have ba:Ext w1 w3:=ae.NR aw (λj e=>by omega)
 have l93:=cP.lt
 have z13:=ba.size
 have h3:TP R k x (λj=>(X j\/j=b)\/j=b9) w3:=h1.grow ba (λj hj=>hj.imp id λe=>by omega) (λj hj=> .inl hj)
 have ct:Kp (λj=>¬X j) w w3:=aK.trans ba.kp
 have pN:TdM R k x gb pb fb (λj=>(X j\/j=b)\/j=b9) w3:=ht.step ct (λj e e'=>e e') h3 (λj hj=> .inl (.inl hj))
 have ld:SX w3 b s a:=⟨ba.NX kJ.1,kJ.2⟩
 refine Oc O$ Oc O$ NZ O$ py$ qN O$ NT O$ Pz O O$ NU$ It O$ An$ qN O$ NZ O$ py$ qN O ?_
 refine Og Ru O$ qV (O6 U3 O O cP O)$ PD O O$ NU$ OD.qb (e:=[(0,_),(1,_),(2,_),(3,_),(4,_),(7,_),(8,_),(9,_),(10,_),(11,_),(12,_),(13,_),(28,_)]) ?_
 refine OX (λe' w'=>∃vb,e'=[(0,I (v:Int)),(2,ptr gb 0),(3,ptr pb 0),(9,ptr b9 0),(10,ptr b 0),(11,I ((a+(Oq (SH p g E v)).length:Nat):Int)),(13,vb)]/\TP R k x (λj=>(X j\/j=b)\/j=b9) w'/\Kp (λj=>¬((X j\/j=b)\/j=b9)) w3 w'/\(OI g E v=0->vb= .slice none 0 0)/\(0<OI g E v->z3N w' vb (Oh g (v-OI g E v)))/\(∀j,vb.ownBlock=some j->j≠b)) ?cF$ λcF=>?cR
 case cF=>
  rintro e' w4 ⟨vb,rfl,h4,ao,uX,eZ,E8⟩;have xd:TdM R k x gb pb fb (λj=>(X j\/j=b)\/j=b9) w4:=pN.step ao (λj e e'=>e e') h4 (λj hj=>hj);have mb:=ao.NX cP (λe=>e (.inr O));have fT:SX w4 b s a:=⟨ao.NX ld.1 (λe=>e (.inl (.inr O))),ld.2⟩;have E9:=xd.bg;have jm:=xd.bp;have Ea:=xd.gw.cells;have af:=Ext.Ob w4;refine py ?_;have ngb:gb≠b:=iZ gb ht.xg;have nk:k≠b:=iZ k ht.gw.xk;have npb:pb≠b:=iZ pb ht.xp;have n9:b9≠b:=by omega
  refine Qj (λw'=>Kp (λj=>j=b) w4 w') O$ Oj 0 O O (af.kp)$ Oj 1 O O (af.kp)$ qT 2 O (λ_ h=>(O6 U30 O O (h.NX E9 ngb) O)) (af.kp)$ O0 3 O (Pq O) (af.kp)$ O0 4 O (OG VZ O) (af.kp)$ O0 5 O (OG Ti O) (af.kp)$ qT 6 O (λ_ h=>(O6 U3 O O (h.NX Ea nk) O)) (af.kp)$ Oj 8 O O (af.kp)$ qT 7 O (λ_ hS=>OE (news:=[I ((Oh g v).length:Int),I (OI g E v:Int)]) z4e O Rr O (O9.cells (n:=2) (hS.NX mb n9) O) O) (af.kp)$ qT 9 O (λ_ h=>OE (news:=Uf p) ZX O QJ O (O9.cells (n:=5) (h.NX jm npb) O) O) (af.kp)$ RW 10 O z0G O (S2 p w4.drew) ?_;rintro _ w5 ⟨rfl,aR⟩;refine⟨(af.trans aR).kp,?_⟩;have di:=af.trans aR;have h5:=h4.ext di;have sq:SX w5 b s a:=⟨di.NX fT.1,fT.2⟩;have Eb:¬2=b:=λe=>iZ 2 ht.gw.x1 e;have Ec:¬3=b:=λe=>iZ 3 ht.gw.x2 e;refine RW 11 O zhA O (z7N ay jg hv sq tw h5.gam h5.una Eb Ec uX (λe=>(eZ e).ext di) E8) ?_;rintro _ w6 ⟨vv,rfl,ev,mK,kV,aP⟩;refine⟨di.kp.trans aP,?_⟩;refine Oj 12 O O (di.kp.trans aP)$ O0 13 O (QL (v:=vv) O O) (di.kp.trans aP)$ O0 15 O (Qq O) (di.kp.trans aP)$ O0 14 O (QL (v:=I 0) O O) (di.kp.trans aP)$ O0 16 O (Qq O) (di.kp.trans aP)$ qE$ py$ qN O$ NT O$ Pz O O$ Od O O$ Om Xv O (Th kV) ?_;rintro _ w6 ⟨rfl,rfl⟩;refine NT O$ Pz O O$ OR$ OU O O$ NU$ OD.qb (e:=[(14,_),(92,_)]) ?_;refine It O$ An$ qN O$ NT O$ Oc O$ NZ O$ NV func222 O ?_;have z34:=ao.size;have z45:=di.size;have z03:=ct.size;have h6:=(h5.step (Y:=λj=>((X j\/j=b)\/j=b9)\/vv.ownBlock=some j) aP (λj e=>⟨.inl (.inr e),λe'=>iZ k ht.gw.xk (e'▸e),λe'=>iZ x ht.gw.xx (e'▸e),λe'=>iZ 2 ht.gw.x1 (e'▸e),λe'=>iZ 3 ht.gw.x2 (e'▸e)⟩) (λj hj=>hj.imp id λe=>⟨mK j e,ev.lt e⟩) (λj hj=> .inl hj)).less (X:=λj=>X j\/vv.ownBlock=some j) (λj hj=>hj.imp (λe=> .inl (.inl e)) id) (.inl ht.gw.xk) (.inl ht.gw.xx) (.inl ht.gw.x1) (.inl ht.gw.x2);exact⟨_,rfl,vv,rfl,ev,λj e=>by have:=mK j e;omega,h6,((ct.trans (ao.Of λj e e'=>e (.inl (.inl e')))).trans di.kp).trans (aP.Of λj e e'=>iZ j e' e)⟩
 case cR=>
  refine O8 O (λh0=>?_)$ λh0=>?_
  ·have rG:0<OI g E v:=by omega
   obtain⟨q1,q2,q3,q4,q5,q6,q7,q8⟩:=ay.back hv rG;have yJ:=pN.bp;have Ed:=pN.bf;refine py$ qN O$ Og Ru O$ qV ((O6 U3 O O cP O))$ NT O$ PD O O$ OR$ Od O O$ Og Ye O$ qV ((O6 U3 O O yJ O))$ SB O O$ OR$ OU O O$ NT O ?_;refine Og Sx O$ qV ((O6 U3 O O cP O))$ Og SL O$ qV ((O6 U3 O O yJ O))$ PD O O$ OR$ OU O O$ NU$ OD.qb (e:=[(0,_),(1,_),(2,_),(3,_),(4,_),(7,_),(8,_),(9,_),(10,_),(11,_),(12,_),(13,_),(45,_)]) ?_;refine It O$ An$ py$ qN O$ qV ((O6 zgP O O Ed O))$ NT O$ Og Ru O$ qV ((O6 U3 O O cP O))$ Qp O O ?_;rw[show(v:Int)-(OI g E v:Int)=((v-OI g E v:Nat):Int) by omega];refine NT O$ P6 O O ?_;rw[show(behind:Int)+1=((behind+1:Nat):Int) by omega];have HZ:=ih rG _ w3 pN;unfold VL at HZ;refine PG O O (R0 zda O O) (HZ) ?_;rintro _ w4 ⟨vb,rfl,dl,pC,h4,ao⟩
   obtain⟨vo,vc,rfl,AR⟩:∃o c,vb= .slice (some ⟨o,0,none⟩) (Oh g (v-OI g E v)).length c/\w3.heap.size<=o:=by
    rcases dl.shape with⟨-,e⟩|⟨o,c,e,hc⟩
    ·omega
    ·exact⟨o,c,e,pC o (by rw[e];rfl)⟩
   refine NT O$ qV (QL (v:= .slice (some ⟨vo,0,none⟩) (Oh g (v-OI g E v)).length vc) O O)$ qV (QL (v:=I 0) O O)$ Oc O$ Oc O$ qM O$ NT O$ Pz O O ?_;have jm:=(pN.step ao (λj e e'=>e e') h4 (λj hj=> .inl hj)).bp;refine NU$ OD.qb (e:=[(0,_),(2,_),(3,_),(7,_),(8,_),(9,_),(10,_),(11,_),(12,_),(13,_),(58,_)]) ?_;refine It O$ An$ qN O$ NT O$ Qx OA O$ Qe O O$ OR$ Od O O$ Qx OA O$ Og SL O$ qV (O6 U3 O O jm O)$ PD O O$ OR$ OU O O ?_;refine NU$ It O$ An ?_;exact(cF _ _ ⟨_,rfl,h4.less (λj hj=> .inl hj) h3.xk h3.xx h3.x1 h3.x2,ao,λe=>by omega,λ_=>dl,λj e=>by have e':vo=j:=PJ e;omega⟩).qb
  ·refine An ?_;exact(cF _ _ ⟨_,rfl,h3,Kp.refl _ _,λ_=>rfl,λe=>by omega,λj e=>by cases e⟩).qb
theorem z0K (jg:g.length<50):∀(d:Nat) {v behind:Nat} {X:Nat->Prop} {w:World},SZ E v<=d->v<g.length->behind+SZ E v<=p.chain->TdM R k x gb pb fb X w->VL R k x gb pb fb v behind X w
 | 0, v, behind, X, w, hd, hv, B7, ht => YN jg hv B7 ht λh0 => by
   obtain⟨q1,q2,-⟩:=ht.gw.ok.back hv h0
   omega
 | d + 1, v, behind, X, w, hd, hv, B7, ht => YN jg hv B7 ht λh0 X' w' KM => by
   obtain⟨q1,q2,-⟩:=ht.gw.ok.back hv h0;exact z0K jg d (by omega) (by omega) (by omega) KM
theorem S1.zbx (h:S1 p g E){v:Nat}(hv:v<g.length):SZ E v<=p.chain:=by
 rcases h.ent hv with e|⟨h1,h2,h3,l,e',h4,h5,h6,h7⟩
 ·unfold SZ;rw[e];exact Nat.zero_le _
 ·have E5:=of_decide_eq_true h7;unfold SZ;omega
theorem z5a (jg:g.length<50){v:Nat}(hv:v<g.length)(h:TP R k x X w):Oy prog 196 [ptr k 0,I (v:Int)] w λr w'=>∃vv,r= .tuple #[vv,I 0]/\z3N w' vv (Oh g v)/\(∀b,vv.ownBlock=some b->w.heap.size<=b)/\TP R k x (λj=>X j\/vv.ownBlock=some j) w'/\Kp (λj=>¬X j) w w':=by
 refine NP (e:=[(0,_),(1,_)]) func196 O ntmps196 O O$ qN O$ O5 O O (Qr O (cs:=[ptr k 0]) O) ?_
 rintro _ w1 ⟨gb,rfl,KN,ad,xN⟩
 refine Oc O$ NZ O$ py$ qN O$ qV (O6 U30 O O xN O)$ NT O$ O5 O O (Vl (cs:=[_]) (zs:=[Value.int .i64 0]) Qt Pb O (by kernel_rfl) O O O (by decide)) ?_
 rintro _ w2 ⟨vb,rfl,⟨eI,ae,No⟩,KO⟩
 have h2:=(h.ext ad).ext ae
 have tT:=ae.NX xN
 have Ee:=h2.cells
 have z1:=ad.size
 have z2:=ae.size
 refine Om ziS O (z69 h2 hv KO.rd) ?_
 rintro _ w2 ⟨rfl,rfl⟩
 refine Oc O$ qM O$ NT O$ Pz O O$ NU$ It O$ An$ qN O$ qV (O6 U30 O O tT O)$ OH O$ Og VZ O$ Og Xo O$ qV (OE (news:=Uf p) ZX O QJ O (O9.cells (i:=2) (n:=5) Ee O) O)$ O5 O O (QU (cs:=[_,_,_,_,_]) QJ O) ?_
 rintro _ w3 ⟨pb,rfl,qY,ah,ri⟩
 refine Oe O (P4 (news:=Uf p) QJ O O O O ri (by simp)) ?_
 rintro w4 ⟨jm,ao⟩
 replace jm:O9 w4 pb [I (p.Ou:Int),I (p.chain:Int),I (p.interval:Int),I (p.zeta:Int),I (p.most:Int)] 94:=jm
 have dw:Ext w2 w4:=ah.NR ao (λj e=>by omega)
 refine qM O$ O5 O O (QU (cs:=[_]) zdu O) ?_
 rintro _ w5 ⟨fb,rfl,Np,aR,cZ⟩
 refine qM O$ qV (ymf (first:=[]) (caps:=[.tmp 2,.tmp 7,.tmp 8]) O O)$ Oe O (PV zdu O O O cZ (by simp)) ?_
 rintro w6 ⟨yK,aP⟩
 have cN:Ext w4 w6:=aR.NR aP (λj e=>by omega)
 have iB:=dw.trans cN
 have z6:=iB.size
 have lg:=tT.lt
 have lp:=jm.lt
 have lf:=yK.lt
 have z24:=dw.size
 have z3:=ah.size
 have z46:=cN.size
 have iD:=(ad.trans ae).trans iB
 have h6:TP R k x (λj=>X j\/j=gb\/j=pb\/j=fb) w6:=h.grow iD (λj hj=>hj.imp id λe=>by omega) (λj hj=> .inl hj)
 have wL:TdM R k x gb pb fb (λj=>X j\/j=gb\/j=pb\/j=fb) w6:=⟨h6,iB.NX tT,cN.NX jm,yK,.inr (.inl O),.inr (.inr (.inl O)),.inr (.inr (.inr O))⟩
 have yL:=wL.bf
 have eU:=z0K jg _ (behind:=0) (Nat.le_refl _) hv (by have:=h.ok.zbx hv;omega) wL
 unfold VL at eU
 refine qM O$ qV (O6 zgP O O yL O)$ NT O$ PG O O (R0 zda O O) (eU) ?_
 rintro _ w7 ⟨vv,rfl,gL,lA,h7,aD⟩
 refine qV (QL (v:=vv) O O)$ qV (QL (v:=I 0) O O)$ Oc O$ NZ O$ OD.qb (e:=[(4,_),(5,_)]) ?_
 refine NV func196 O ?_
 exact⟨_,rfl,vv,rfl,gL,λj e=>by have:=lA j e;omega,h7.less (λj hj=>hj.imp .inl id) (.inl h.xk) (.inl h.xx) (.inl h.x1) (.inl h.x2),iD.kp.trans (aD.Of λj e e'=>e (.inl e'))⟩
end
def stV (b:Bool):Value:= .int .u8 (if b then 1 else 0)
structure Wz (w:World)(m gi:Nat)(L:List Bool):Prop where
 NX:O9 w m [I 2,.slice (some ⟨gi,0,none⟩) L.length L.length,.slice none 0 0,.bool false] 138
 sl:Sl w (.slice (some ⟨gi,0,none⟩) L.length L.length) 172 1 L.length (L.map stV)
 ne:gi≠m
 n:L.length<=4096
 n2:2<=L.length
section
variable {w w':World}{m gi:Nat}{L:List Bool}{S:Nat->Prop}
theorem Wz.kp (h:Wz w m gi L)(hk:Kp S w w')(h1:¬S m)(h2:¬S gi):Wz w' m gi L:=
 ⟨hk.NX h.NX h1,h.sl.kp hk λg e=>by cases e;exact h2,h.ne,h.n,h.n2⟩
theorem Wz.ext (h:Wz w m gi L)(hx:Ext w w'):Wz w' m gi L:=h.kp (S:=λ_=>False) hx id id
theorem Wz.ltm (h:Wz w m gi L):m<w.heap.size:=h.NX.lt
theorem Wz.ltg (h:Wz w m gi L):gi<w.heap.size:=h.sl.lt O
theorem Wz.get (h:Wz w m gi L){i:Nat}{b:Bool}(hi:L[i]? =some b):w.cell? ⟨gi,0+i*1,none⟩=some (stV b):=
 Ps h.sl.rd (by rw[List.getElem?_map,hi];rfl)
theorem z9j (B:Nat)(hB:2<=B/\B<=4096)(w:World):Oy prog 33 [I 2,I (B:Int)] w λv w'=>∃m gi,v= .tuple #[ptr m 0,I 0]/\Wz w' m gi (List.replicate B false)/\w.heap.size<=m/\w.heap.size<=gi/\Ext w w':=by
 refine NP (e:=[(0,_),(1,_)]) func33 O ntmps33 O O$ qN O$ Oc O$ NZ O$ py$ qN O$ NT O$ Py O O$ OR$ Od O O$ NT O$ PD O O$ OR$ OU O O ?_
 refine Od O O$ PD O O$ OR$ OU O O$ NU$ It O$ An$ qN O$ Od O O$ O5 O O (pmk (c:=B) (n:=B) US z1r O O O (Nat.le_refl _) (by omega) (by simp only[maxLen];omega)) ?_
 rintro _ w1 ⟨gi,rfl,⟨tE,ad,ai⟩,j3⟩
 refine qV (Rt (cs:=[_,_,_,_]) zhi O zfX O O)$ O5 O O (Qr O (cs:=[I 2,.slice (some ⟨gi,0,none⟩) B B,.slice none 0 0,.bool false]) O) ?_
 rintro _ w2 ⟨m,rfl,hm,ae,am⟩
 refine Oc O$ NZ O$ NV func33 O ?_
 have:=ad.size
 have lg:=j3.lt (g:=gi) O
 refine⟨_,rfl,m,gi,rfl,⟨by rw[List.length_replicate];exact am,?_,by omega,by rw[List.length_replicate];omega,by rw[List.length_replicate];omega⟩,by omega,by omega,ad.trans ae⟩
 rw[List.length_replicate,List.map_replicate]
 exact j3.ext ae
def Pv (L:List Bool)(s n:Nat)(b:Bool):List Bool:=L.take s++(List.replicate n b++L.drop (s+n))
theorem Pl {L:List Bool}{s n:Nat}{b:Bool}(h:s+n<=L.length):(Pv L s n b).length=L.length:=by
 unfold Pv
 rw[List.length_append,List.length_append,List.length_take,List.length_replicate,List.length_drop];omega
theorem z8d (L:List Bool)(s:Nat)(b:Bool):Pv L s 0 b=L:=by simp[Pv]
theorem z9p {L:List Bool}{s n:Nat}{b:Bool}(h:s+n<L.length):(Pv L s n b).set (s+n) b=Pv L s (n+1) b:=by
 have h1:(L.take s++List.replicate n b).length=s+n:=by rw[List.length_append,List.length_take,List.length_replicate];omega
 unfold Pv
 rw[<-List.append_assoc,List.set_append_right _ _ (by omega),h1,Nat.sub_self,List.drop_eq_getElem_cons h,List.set_cons_zero,List.replicate_succ',List.append_assoc,List.append_assoc]
 rfl
theorem z1u (h:Wz w m gi L)(s n:Nat)(b:Bool)(hs:s+n<=L.length):Oy prog 142 [ptr m 0,.agg #[I (s:Int),I (n:Int)],stV b] w λv w'=>v= .tuple #[]/\Wz w' m gi (Pv L s n b)/\Kp (λk=>k=gi) w w':=by
 have hn:=h.n
 refine NP (e:=[(0,_),(1,_),(2,_)]) func142 O ntmps142 O O$ qN O$ O5 O O (Qr O (cs:=[I (s:Int),I (n:Int)]) O) ?_
 rintro _ w1 ⟨b4,rfl,fV,ad,aI⟩
 have lg:=h.ltg
 have l4:=aI.lt
 have h1:=h.ext ad
 refine qM O$ Og Qh O$ qV (O6 U3 O O aI O)$ NT O$ NU$ NQ$ Qm (α:=Nat) (0) (λi=>[(0,ptr m 0),(2,stV b),(4,ptr b4 0),(8,I (n:Int)),(9,I (i:Int))]) (λi w'=>Wz w' m gi (Pv L s i b)/\Kp (λk=>k=gi) w1 w'/\i<=n) (λi=>n-i) ?hI ?hround
 case hI=>exact⟨by rw[z8d];exact h1,Kp.refl _ _,Nat.zero_le _⟩
 case hround=>
  rintro i w2 ⟨h2,aq,hi⟩ ih
  try dsimp only
  refine qN O$ Py O O$ NU$ py$ O8 O (λh0=>?_)$ λh0=>?_
  ·have aV:i<n:=by omega
   have hl:=Pl (L:=L) (s:=s) (n:=i) (b:=b) (by omega);have am:=h2.NX;have bE:=aq.NX aI (by omega);have hg:=Ext.Ob w2;refine An$ py$ NQ$ qN O$ NT O$ NZ O$ Oo [10] (λw'=>Ext w2 w') (by kernel_rfl) O$ OW 0 O O (hg)$ Ot 1 O (Pq O) hg$ Ot 2 O (OG U1 O) hg$ qL 3 O (λ_ h=>(O6 US O O (h.NX am) O)) hg$ Ot 4 O (OG Qc O) hg$ qL 5 O (λ_ h=>(O6 U3 O O (h.NX bE) O)) hg$ OW 6 O O (hg) ?_;refine Ot 7 O (TK O O (by omega)) hg$ OW 8 O O (hg)$ Ot 9 O (P7 US z1r O O (by omega)) hg$ S8 [10]$ qO 10$ OP (i:=10) O O (QH z1r O O O (h2.ext hg).sl (by rw[List.length_map,hl];omega)) ?_;rintro w3 ⟨cj,aw⟩;refine⟨trivial,?_⟩
   have h3:Wz w3 m gi (Pv L s (i+1) b):=by
    refine⟨?_,?_,h2.ne,by rw[Pl (by omega)];exact h.n,by rw[Pl (by omega)];exact h.n2⟩
    ·rw[Pl (by omega),<-hl];exact aw.NX (hg.NX am) (λe=>h2.ne e.symm)
    ·rw[show 0+(s+i)*1=s+i by omega,<-List.map_set,z9p (by omega)] at cj;rw[Pl (by omega),<-hl];exact cj
   refine qE$ NS$ NW O$ P6 O O$ NT O$ NU ?_;exact(ih (i+1) _ ⟨h3,aq.trans (hg.kp.trans aw),by omega⟩ (by omega)).qb
  ·have aV:i=n:=by omega
   subst aV;refine O4 O$ PE func142 O ?_;exact⟨_,rfl,rfl,h2,ad.kp.trans aq⟩
end
structure Pre (L:List Bool)(a:Nat):Prop where
 a2:2<=a
 le:a<=L.length
 tk:∀i,2<=i->i<a->L[i]? =some true
 fr:∀i,a<=i->i<L.length->L[i]? =some false
section
variable {w w':World}{m gi a:Nat}{L:List Bool}{S:Nat->Prop}
theorem Xf {l bm : Nat}(hm : Wz w m gi L)(hp : Pre L a)(ha : a < L.length)(ly : O9 w bm [ptr m 0] 51)(J : World -> Prop)(hJ : ∀ w w', J w -> Ext w w' -> J w')
  (hround:∀w',Ext w w'->z2k prog l [.agg #[I (a:Int),I ((L.length-a:Nat):Int)]] w' λv w''=>(v= .bool true/\J w''/\O9 w'' bm [ptr m 0] 51/\Wz w'' m gi L)\/(v= .bool false/\J w'')):
  Oy prog 85 [.func (.yield l) #[] #[],ptr bm 0] w λv w'=>v= .tuple #[]/\J w':=by
 have hn:=hm.n
 have pn:=hp.a2
 have hB:=hm.NX
 refine NP (e:=[(0,_),(1,_)]) func85 O ntmps85 O O$ qN O$ qV ((O6 U51 O O ly O))$ OH O$ Og z6q O$ qV ((O6 U3 O O hB O))$ NZ O$ NQ$ Qm (α:=Nat) (2) (λi=>[(0,.func (.yield l) #[] #[]),(1,ptr bm 0),(3,I (i:Int))]) (λi w'=>O9 w' bm [ptr m 0] 51/\Wz w' m gi L/\((2<=i/\i<=a/\Ext w w')\/(i=L.length+1/\J w'))) (λi=>L.length+1-i) ?hI ?hround
 case hI=>exact⟨ly,hm,.inl ⟨Nat.le_refl _,pn,Ext.refl _⟩⟩
 case hround=>
  rintro i w1 ⟨tU,jI,gA⟩ ih;have ai:=jI.NX
  try dsimp only
  refine py$ qN O$ NT O$ qV ((O6 U51 O O tU O))$ OH O$ Og U1 O$ qV ((O6 US O O ai O))$ Qx US O$ Py O O$ NU$ O8 O (λh0=>?_)$ λh0=>?_
  ·have tV : 2 <= i /\ i <= a /\ Ext w w1 := by
    rcases gA with h| h
    ·exact h
    ·omega
   obtain⟨dt,I0,ad⟩:=tV;refine An$ py$ NQ$ qN O$ NT O$ qV (Rt (cs:=[_,_]) Qf O zgh O O)$ O5 O O (QU (cs:=[_,_]) Qf O) ?_;rintro _ w2 ⟨b4,rfl,fV,ae,aI⟩;refine Oe O (P4 (news:=[I (i:Int),I 0]) Qf O O O O aI (by simp)) ?_;rintro w3 ⟨dN,aw⟩;replace dN:O9 w3 b4 [I (i:Int),I 0] 119:=dN;have ba:Ext w1 w3:=ae.NR aw (λj e=>by omega);have tW:=ba.NX tU;have kY:=jI.ext ba;have au:=kY.NX;refine NU$ py$ NQ$ Qm (α:=Nat) (i) (λj=>[(0,.func (.yield l) #[] #[]),(1,ptr bm 0),(3,I (j:Int)),(4,ptr b4 0)]) (λj w'=>w'=w3/\i<=j/\j<=L.length/\(i<j->i=a)) (λj=>L.length-j) ?hI ?hround
   case hI=>exact⟨rfl,Nat.le_refl _,by omega,λh=>absurd h (by omega)⟩
   case hround =>
    rintro j w4 ⟨rfl,gP,Nq,Ef⟩ ih2
    try dsimp only
    rcases Nat.lt_or_ge j L.length with hj|hj
    ·obtain⟨b,hb⟩:∃b,L[j]? =some b:=⟨_,List.getElem?_eq_getElem hj⟩;have aW:=kY.get hb;refine py$ qN O$ NT O$ qV ((O6 U51 O O tW O))$ OH O$ Og U1 O$ qV ((O6 US O O au O))$ Qx US O$ Py O O$ Qs$ NT O$ qV ((O6 U51 O O tW O))$ OH O$ Og U1 O ?_;refine qV ((O6 US O O au O))$ NT O$ qV (P7 US z1r O O (by omega)) ?_
     cases b with
     | true =>
       refine qV (OC (v:= .int .u8 1) z9Q O O aW) ?_
       have KP:i<a:=by
        rcases Nat.lt_or_ge i a with h| h
        ·exact h
        ·have:=hp.fr j (by omega) hj;rw[this] at hb;cases hb
       have rz:j=i:=by
        rcases Nat.lt_or_ge i j with h| h
        ·have:=Ef h;omega
        ·omega
       subst rz;refine Qe O O$ OR$ PT O O$ NU$ It O$ O4 O$ qN O$ NT O$ Og Qc O$ qV (O6 U3 O O dN O)$ Qp O O$ Og Qh O$ Oe O (PV Pb O O O dN (by simp)) ?_;rintro w5 ⟨aM,ak⟩;rw[show(j:Int)-(j:Int)=0 by omega] at aM;replace aM:O9 w5 b4 [I (j:Int),I 0] 119:=aM;have bT:Ext w1 w5:=ba.NR ak (λq e=>by have:=ae.size;omega);refine qM O$ Og Qh O$ qV (O6 U3 O O aM O)$ PD O O$ NT O$ qS$ qS$ qS$ qS$ OU O O$ NU$ It O$ An$ NS ?_;refine NW O$ NT O$ P6 O O$ NZ O ?_
       exact(ih (j+1) w5 ⟨bT.NX tU,jI.ext bT,.inl ⟨by omega,by omega,ad.trans bT⟩⟩ (by omega)).qb
     | false =>
       refine qV (OC (v:= .int .u8 0) z9Q O O aW)$ Qe O O$ Qs$ PT O O ?_
       have tX:i=a:=by
        rcases Nat.lt_or_ge i a with h| h
        ·rcases Nat.lt_or_ge i j with h2|h2
         ·exact Ef h2
         ·have e:j=i:=by omega
          subst e;have:=hp.tk j dt h;rw[this] at hb;cases hb
        ·omega
       refine NU$ Oa O$ An$ NQ$ NW O$ NT O$ P6 O O$ NZ O$ NS ?_;exact(ih2 (j+1) _ ⟨rfl,by omega,by omega,λ_=>tX⟩ (by omega)).qb
    ·have KQ:j=L.length:=by omega
     subst KQ;have tX:=Ef (by omega);subst tX;refine py$ qN O$ NT O$ qV ((O6 U51 O O tW O))$ OH O$ Og U1 O$ qV ((O6 US O O au O))$ Qx US O$ Py O O$ OR$ NT O$ qS$ qS$ qS ?_;refine qS$ qS$ qS$ qS$ qS$ OU O O$ NU$ It O$ O4 O$ qN O$ NT O$ Og Qc O$ qV (O6 U3 O O dN O)$ Qp O O ?_;refine Og Qh O$ Oe O (PV Pb O O O dN (by simp)) ?_;rintro w5 ⟨aM,ak⟩;rw[show(L.length:Int)-(i:Int)=((L.length-i:Nat):Int) by omega] at aM;replace aM:O9 w5 b4 [I (i:Int),I ((L.length-i:Nat):Int)] 119:=aM;have bT:Ext w1 w5:=ba.NR ak (λq e=>by have:=ae.size;omega);refine qM O$ Og Qh O$ qV (O6 U3 O O aM O)$ PD O O$ Qs$ Od O O$ qV (OE (news:=[I (i:Int),I ((L.length-i:Nat):Int)]) Wj O Qf O (O9.cells (n:=2) aM O) O)$ z6k O O (yy O O) (hround w5 (ad.trans bT)) ?_;rintro v w6 hv;rcases hv with⟨rfl,yM,Eg,KR⟩|⟨rfl,yM⟩
     ·refine qV ((Rn O))$ PT O O$ NU$ It O$ An$ NS$ NW O$ NT O$ P6 O O$ NZ O ?_;exact(ih (L.length+1) w6 ⟨Eg,KR,.inr ⟨rfl,yM⟩⟩ (by omega)).qb
     ·refine qV ((Rn O))$ PT O O$ NU$ Oa O$ NV func85 O ?_;exact⟨_,rfl,rfl,yM⟩
  ·rcases gA with⟨-,h,-⟩|⟨-,yM⟩
   ·omega
   ·refine O4 O$ PE func85 O ?_;exact⟨_,rfl,rfl,yM⟩
theorem XE (w:World)(m:Nat):Oy prog 49 [ptr m 0] w λv w'=>∃bm,v= .func (.func 85) #[] #[ptr bm 0]/\O9 w' bm [ptr m 0] 51/\w.heap.size<=bm/\Ext w w':=by
 refine NP (e:=[(0,_)]) func49 O ntmps49 O O$ qN O$ O5 O O (Qr O (cs:=[ptr m 0]) O) ?_
 rintro _ w1 ⟨bm,rfl,ly,ad,ai⟩
 refine Oc O$ qM O$ qV (ymf (first:=[]) (caps:=[.tmp 1]) O O)$ NZ O$ NV func49 O ?_
 exact⟨_,rfl,bm,rfl,ai,by omega,ad⟩
theorem z5c (h:Wz w m gi L)(hp:Pre L a)(ha:a<L.length):Oy prog 18 [ptr m 0] w λv w'=>v=I ((L.length-a:Nat):Int)/\Ext w w':=by
 have hn:=h.n
 refine NP (e:=[(0,_)]) func18 O ntmps18 O O$ qN O$ Oc O$ qM O$ O5 O O (QU (cs:=[_]) Pb O) ?_
 rintro _ w1 ⟨b3,rfl,f7,ad,au⟩
 refine Oe O (PV Pb O O O au (by simp)) ?_
 rintro w2 ⟨db,aq⟩
 replace db:O9 w2 b3 [I 0] 3:=db
 have ae:Ext w w2:=ad.NR aq (λj e=>by omega)
 refine NU$ py$ qN O$ NT O$ qV (z2V U51 O O)$ NU$ Oa O$ qN O$ NT O$ Om zhI O (XE w2 m) ?_
 rintro _ w3 ⟨bm,rfl,ly,mx,ah⟩
 have da:=ae.trans ah
 have eC:=ah.NX db
 have kY:=h.ext da
 have l3:=eC.lt
 have l32:=db.lt
 have lm:=ly.lt
 have lmm:=h.ltm
 have lmg:=h.ltg
 have z1:=ad.size
 refine NU$ NQ$ SW (ps:=[9]) (p:=[]) (q:=[_]) O zfB ?_
 rintro l wl eR fJ cE hD Rc dy ff
 have Eh:=zbu dy ff
 have zl:=eR.size
 refine Oy.mono (Xf (kY.ext eR) hp ha (eR.NX ly)
  (λw'=>Rc .ready none w'/\O9 w' b3 [I ((L.length-a:Nat):Int)] 3/\Kp (λk=>k=l\/k=b3) wl w')
  (λw w' h hx=>⟨hx.kp.rc (S:=λ_=>False) dy h.1 id,hx.NX h.2.1,h.2.2.trans hx.kp⟩) ?_) ?_
 ·intro w4 az;have eS:=Kp.rc (S:=λ_=>False) az dy ff id;have eh:=az.NX (eR.NX eC);have z4:=az.size;refine U0 dy eS O O$ NW O$ O5 O O (QU (cs:=[_,_]) Qf O) ?_;rintro _ w5 ⟨b4,rfl,fV,aR,aI⟩;refine Oe O (P4 (news:=[I (a:Int),I ((L.length-a:Nat):Int)]) Qf O O O O aI (by simp)) ?_;rintro w6 ⟨cd,aP⟩;replace cd:O9 w6 b4 [I (a:Int),I ((L.length-a:Nat):Int)] 119:=cd;have cN:Ext w4 w6:=aR.NR aP (λj e=>by omega);have KS:=Kp.rc (S:=λ_=>False) cN dy eS id;have z46:=cN.size;have l4:=cd.lt;refine NU$ run_beginRound O dy KS ?_;rintro w7 h7 aD;have mM:=aD.NX (cN.NX eh) (by omega);have bD:=aD.NX cd (by omega);refine NQ$ NW O$ qV ((O6 U3 O O mM O))$ Og Qh O$ qV ((O6 U3 O O bD O))$ P6 O O ?_;rw[show(0:Int)+((L.length-a:Nat):Int)=((L.length-a:Nat):Int) by omega];refine Oe O (PV Pb O O O mM (by simp)) ?_;rintro w8 ⟨sw,aS⟩;have h8:=Kp.rc aS dy h7 (by omega);refine NU$ NS$ UD dy h8 ?_;intro w9 h9 aL;have gZ:Kp (λk=>k=l\/k=b3) w4 w9:=((cN.kp.trans (aD.Of λk e=> .inl e)).trans (aS.Of λk e=> .inr e)).trans (aL.Of λk e=> .inl e);exact .inl ⟨rfl,⟨h9,aL.NX sw (by omega),az.kp.trans gZ⟩,gZ.NX (az.NX (eR.NX ly)) (by omega),((kY.ext eR).ext az).kp gZ (by omega) (by omega)⟩
 ·rintro v wz ⟨rfl,eS,KT,ek⟩;refine⟨_,_,eS,by simp,λwy iM=>?_⟩;have zz:=ek.size;have zy:=iM.size;have KU:=iM.NX KT (by omega);have yN:=iM.heap (ek.heap hD (by omega)) (by omega);refine NS$ qN O$ qV (O6 U3 O O KU O)$ NZ O$ zaC (by simp) (XY yN) func18 O ?_;have z3:=ah.size;have dg:Kp (λk=>k=w3.heap.size) wy (St [.mk w3.heap.size] wy):=PR wy w3.heap.size (.deferred none);have Ei:Kp (λk=>k=l\/k=b3\/k=w3.heap.size) w3 (St [.mk w3.heap.size] wy):=((eR.kp.trans (ek.Of λk e=>by omega)).trans (iM.Of λk e=>by omega)).trans (dg.Of λk e=>by omega);exact⟨_,rfl,rfl,da.NR Ei (λk e=>by omega)⟩
end
section
variable {w w':World}{m gi a:Nat}{L:List Bool}{S:Nat->Prop}
theorem z4m (h:Wz w m gi L)(hp:Pre L a){n:Nat}(cT:1<=n)(oS:a+n<=L.length):Oy prog 101 [ptr m 0,I (n:Int)] w λv w'=>v= .tuple #[.agg #[I (a:Int),I (n:Int)],I 0]/\Wz w' m gi (Pv L a n true)/\Kp (λk=>k=gi) w w':=by
 have hn:=h.n
 refine NP (e:=[(0,_),(1,_)]) func101 O ntmps101 O O$ qN O$ O5 O O (Qr O (cs:=[ptr m 0]) O) ?_
 rintro _ w1 ⟨b2,rfl,bU,ad,am⟩
 refine O5 O O (Qr O (cs:=[I (n:Int)]) O) ?_
 rintro _ w2 ⟨b3,rfl,f7,ae,au⟩
 refine O5 O O (QU (cs:=[_,_]) Qf O) ?_
 rintro _ w3 ⟨b4,rfl,fV,ah,aI⟩
 refine O5 O O (QU (cs:=[_]) z1e O) ?_
 rintro _ w4 ⟨b5,rfl,gQ,az,aG⟩
 have l2:=am.lt
 have l3:=au.lt
 have l4:=aI.lt
 have l5:=aG.lt
 have z1:=ad.size
 have z2:=ae.size
 have z3:=ah.size
 have z4:=az.size
 have ip:=az.NX (ah.NX (ae.NX am))
 have eh:=az.NX (ah.NX au)
 have cy:=az.NX aI
 refine NU$ py$ NQ$ qN O$ qV ((O6 U51 O O ip O))$ qV (Pt U51 O O)$ NZ O$ It O$ qN O$ qV ((O6 U3 O O eh O))$ Py O O$ OR$ NZ O$ It O ?_
 refine An$ NS$ py$ qN O$ qV ((O6 U51 O O ip O))$ Om zhI O (XE w4 m) ?_
 rintro _ w5 ⟨bm,rfl,ly,mx,aR⟩
 have bO:=(((ad.trans ae).trans ah).trans az).trans aR
 have rH:=h.ext bO
 have lm:=ly.lt
 have lmm:=h.ltm
 have lmg:=h.ltg
 have z5:=aR.size
 refine NU$ NQ$ SW (ps:=[17]) (p:=[]) (q:=[_]) O zfB ?_
 rintro l wl eR fJ cE hD Rc dy ff
 have Eh:=zbu dy ff
 have zl:=eR.size
 have xJ:=aR.trans eR
 refine Oy.mono (Xf (rH.ext eR) hp (by omega) (eR.NX ly)
  (λw'=>Rc .done (some .ret) w'/\O9 w' b4 [I (a:Int),I (n:Int)] 119/\O9 w' b5 [I 0] 36/\Wz w' m gi (Pv L a n true)/\Kp (λk=>k=l\/k=b4\/k=b5\/k=gi) wl w')
  (λw w' h hx=>⟨hx.kp.rc (S:=λ_=>False) dy h.1 id,hx.NX h.2.1,hx.NX h.2.2.1,h.2.2.2.1.ext hx,h.2.2.2.2.trans hx.kp⟩) ?_) ?_
 ·intro w6 aH;have eS:=Kp.rc (S:=λ_=>False) aH dy ff id;have z6:=aH.size;refine U0 dy eS O O$ NW O$ O5 O O (QU (cs:=[_,_]) Qf O) ?_;rintro _ w7 ⟨b6,rfl,jP,bV,aO⟩;refine Oe O (P4 (news:=[I (a:Int),I ((L.length-a:Nat):Int)]) Qf O O O O aO (by simp)) ?_;rintro w8 ⟨iJ,aS⟩;replace iJ:O9 w8 b6 [I (a:Int),I ((L.length-a:Nat):Int)] 119:=iJ;have iC:Ext w6 w8:=bV.NR aS (λj e=>by omega);have Ej:=Kp.rc (S:=λ_=>False) iC dy eS id;have z8:=iC.size;have l6:=iJ.lt;refine NU$ run_beginRound O dy Ej ?_;rintro w9 h9 aL;have qg:=(xJ.trans aH).trans iC;have yO:=aL.NX (qg.NX eh) (by omega);have Ek:=aL.NX (qg.NX ip) (by omega);have ky:=aL.NX iJ (by omega);have KV:=((((rH.ext eR).ext aH).ext iC).kp aL (by omega) (by omega));refine NQ$ qN O$ Og Qh O$ qV ((O6 U3 O O ky O))$ qV ((O6 U3 O O yO O))$ SB O O$ Qs$ NU$ Oa O$ qN O$ qV ((O6 U3 O O yO O))$ Og Qh O$ Oe O (PV Pb O O O ky (by simp)) ?_;rintro w10 ⟨ij,ar⟩;replace ij:O9 w10 b6 [I (a:Int),I (n:Int)] 119:=ij;have yP:=ar.NX Ek (by omega);have El:=KV.kp ar (by omega) (by omega);have eQ:=Kp.rc ar dy h9 (by omega);refine qM O$ qV (O6 U51 O O yP O)$ qV (OE (news:=[I (a:Int),I (n:Int)]) Wj O Qf O (O9.cells (n:=2) ij O) O)$ Om ze2 O (z1u El a n true oS) ?_;rintro _ w11 ⟨rfl,Em,aY⟩;have yQ:=aY.NX ij (by omega);have yR:=aY.NX (ar.NX (aL.NX (qg.NX cy) (by omega)) (by omega)) (by omega);have yS:=aY.NX (ar.NX (aL.NX (qg.NX aG) (by omega)) (by omega)) (by omega);have im:=Kp.rc aY dy eQ (by omega);refine NU$ OD.qb (e:=[(4,_),(5,_),(6,_)]) ?_;refine qN O$ qV (OE (news:=[I (a:Int),I (n:Int)]) Wj O Qf O (O9.cells (n:=2) yQ O) O)$ Oe O (P4 (news:=[I (a:Int),I (n:Int)]) Qf O O O O yR (by simp)) ?_;rintro w12 ⟨yT,bc⟩;refine Oe O (PV z1e O O O (bc.NX yS (by omega)) (by simp)) ?_;rintro w13 ⟨yU,cU⟩;have tY:=Kp.rc cU dy (Kp.rc bc dy im (by omega)) (by omega);refine NU ?_
  -- AT: Code.ret
  refine XV dy tY ?_;intro w14 En cC
  exact .inr ⟨rfl,En,cC.NX (cU.NX yT (by omega)) (by omega),cC.NX yU (by omega),((Em.kp bc (by omega) (by omega)).kp cU (by omega) (by omega)).kp cC (by omega) (by omega),
   (((((((aH.kp.trans iC.kp).trans (aL.Of λk e=>by omega)).NR ar (λk e=>by omega)).trans (aY.Of λk e=>by omega)).trans (bc.Of λk e=>by omega)).trans (cU.Of λk e=>by omega)).trans (cC.Of λk e=>by omega))⟩
 ·rintro v wz ⟨rfl,eS,Eo,Ep,KW,ek⟩;refine⟨_,_,eS,by simp,λwy iM=>?_⟩;have zz:=ek.size;have zy:=iM.size;have Er:=iM.NX Eo (by omega);have Es:=iM.NX Ep (by omega);have yN:=iM.heap (ek.heap hD (by omega)) (by omega);have dg:=PR wy w5.heap.size (.deferred none);have KX:=dg.NX Er (by omega);have Et:=dg.NX Es (by omega);refine VS (by simp) (XY yN) func101 (.cell Wj O Qf O (O9.cells (n:=2) KX (news:=[_,_]) O) O (.cell1 U36 O O ((Et).cell _) .nil)) ?_;have Eu:Kp (λk=>k=gi) w (St [.mk w5.heap.size] wy):=((((bO.kp.trans eR.kp).NR ek (λk e=>by omega)).NR iM (λk e=>by omega)).NR dg (λk e=>by omega));exact⟨_,rfl,rfl,(KW.kp iM (by omega) (by omega)).kp dg (by omega) (by omega),Eu⟩
end
section
variable {w w':World}{m gi a:Nat}{L:List Bool}{S:Nat->Prop}
theorem z94 (h:Wz w m gi L)(s n:Nat)(cT:1<=n)(dc:2<=s)(eE:s+n<=L.length):Oy prog 156 [ptr m 0,.agg #[I (s:Int),I (n:Int)]] w λv w'=>v= .bool true/\Ext w w':=by
 have hn:=h.n
 refine NP (e:=[(0,_),(1,_)]) func156 O ntmps156 O O$ qN O$ O5 O O (Qr O (cs:=[I (s:Int),I (n:Int)]) O) ?_
 rintro _ w1 ⟨b3,rfl,f7,ad,au⟩
 have hg:=Ext.Ob w1
 have tZ:=(h.ext ad).NX
 refine NZ O$ py$ Qj (λw'=>Ext w1 w') O$ O0 0 O (OG Qh O) hg$ qT 1 O (λ_ h=>(O6 U3 O O (h.NX au) O)) hg$ O0 2 O (yge O O) hg$ T4$ Oj 3 O O (hg)$ O0 4 O (OG Qc O) hg$ qT 5 O (λ_ h=>(O6 U3 O O (h.NX au) O)) hg$ Oj 6 O O (hg)$ O0 7 O (Pq O) hg$ O0 8 O (OG z6q O) hg$ qT 9 O (λ_ h=>(O6 U3 O O (h.NX tZ) O)) hg ?_
 refine O0 10 O (yge O O) hg$ T4$ O0 11 O (TL O O) hg$ Oj 12 O O (hg)$ O0 13 O (OG Qc O) hg$ qT 14 O (λ_ h=>(O6 U3 O O (h.NX au) O)) hg$ Oj 15 O O (hg)$ O0 16 O (Pq O) hg$ O0 17 O (OG U1 O) hg$ qT 18 O (λ_ h=>(O6 US O O (h.NX tZ) O)) hg$ O0 19 O (RJ US O) hg$ O0 20 O (ZR O O) hg$ T4$ O0 21 O (TL O O) hg ?_
 refine Oj 22 O O (hg)$ O0 23 O (OG Qh O) hg$ qT 24 O (λ_ h=>(O6 U3 O O (h.NX au) O)) hg$ Oj 25 O O (hg)$ O0 26 O (Pq O) hg$ O0 27 O (OG U1 O) hg$ qT 28 O (λ_ h=>(O6 US O O (h.NX tZ) O)) hg$ O0 29 O (RJ US O) hg$ O0 30 O (OG Qc O) hg$ qT 31 O (λ_ h=>(O6 U3 O O (h.NX au) O)) hg$ O0 32 O (Ww O O (by omega)) hg$ O0 33 O (Y6 O O) hg$ T4$ O0 34 O (TL O O) hg ?_
 refine O0 35 O (Qq O) hg$ qE$ OD.qb (e:=[(4,_)]) ?_
 refine NV func156 O ?_
 exact⟨_,rfl,rfl,ad.trans hg⟩
theorem z5W {b5:Nat}(c d:Bool)(hB:O9 w b5 [stV d] 172)(Bu:c=d):Oy prog 193 [stV c,ptr b5 0] w λv w'=>v= .bool false/\w'=w:=by
 subst Bu
 cases c with
 | true =>
   replace hB:O9 w b5 [.int .u8 1] 172:=hB;show Oy prog 193 [.int .u8 1,ptr b5 0] w _;refine NP (e:=[(0,_),(1,_)]) func193 O ntmps193 O O$ qN O$ Oc O$ qM O$ NT O$ qV (O6 z9Q O O hB O)$ Pz O O$ OR$ NZ O$ NV func193 O ?_
   exact⟨_,rfl,rfl,rfl⟩
 | false =>
   replace hB:O9 w b5 [.int .u8 0] 172:=hB;show Oy prog 193 [.int .u8 0,ptr b5 0] w _;refine NP (e:=[(0,_),(1,_)]) func193 O ntmps193 O O$ qN O$ Oc O$ qM O$ NT O$ qV (O6 z9Q O O hB O)$ Pz O O$ OR$ NZ O$ NV func193 O ?_;exact⟨_,rfl,rfl,rfl⟩
theorem z9r {b5 b o n cap:Nat}(hn:n<=4096)(c:Bool)(hB:O9 w b5 [stV c] 172)(hR:Rd w (.slice (some ⟨b,o,none⟩) n cap) 1 n (List.replicate n (stV c))):
  Oy prog 220 [.slice (some ⟨b,o,none⟩) n cap,.func (.func 193) #[] #[ptr b5 0]] w λv w'=>v=I (-1)/\w'=w:=by
 refine NP (e:=[(0,_),(1,_)]) func220 O ntmps220 O O$ qN O$ NZ O$ py$ qN O$ NT O$ Qx US O$ NT O$ NU$ NQ$ Qm (α:=Nat) (0) (λi=>[(0,.slice (some ⟨b,o,none⟩) n cap),(1,.func (.func 193) #[] #[ptr b5 0]),(7,I (n:Int)),(8,I (i:Int))]) (λi w'=>w'=w/\i<=n) (λi=>n-i) ?hI ?hround
 case hI=>exact⟨rfl,Nat.zero_le _⟩
 case hround=>
  rintro i w1 ⟨rfl,hi⟩ ih
  try dsimp only
  refine qN O$ Py O O$ NU$ py$ O8 O (λh0=>?_)$ λh0=>?_
  ·refine An$ py$ NQ$ qN O$ NT O$ Oc O$ qM O$ Od O O$ NT O$ qV (P7 US z1r O O (by omega))$ qV (OC (v:=stV c) z9Q O O (Ps hR (by rw[List.getElem?_replicate,if_pos (by omega)]))) ?_;refine PG O O (R0 zht O O) (z5W c c hB O) ?_;rintro _ w1 ⟨rfl,rfl⟩;refine NU$ It O$ An$ NS$ NW O$ P6 O O$ NT O$ NU ?_;exact(ih (i+1) _ ⟨rfl,by omega⟩ (by omega)).qb
  ·refine O4 O$ qN O$ NZ O$ NV func220 O ?_;exact⟨_,rfl,rfl,rfl⟩
theorem z8h {b5 b o n cap:Nat}(hn:n<=4096)(c:Bool)(hB:O9 w b5 [stV c] 172)(hR:Rd w (.slice (some ⟨b,o,none⟩) n cap) 1 n (List.replicate n (stV c))):
  Oy prog 192 [.slice (some ⟨b,o,none⟩) n cap,.func (.func 193) #[] #[ptr b5 0]] w λv w'=>v= .bool false/\w'=w:=by
 refine NP (e:=[(0,_),(1,_)]) func192 O ntmps192 O O$ qN O$ Oc O$ qM O$ Od O O$ Om zhr O (z9r hn c hB hR) ?_
 rintro _ w ⟨rfl,rfl⟩
 refine SB O O$ OR$ NZ O$ NV func192 O ?_
 exact⟨_,rfl,rfl,rfl⟩
theorem z90 (h:Wz w m gi L)(s n:Nat)(c:Bool)(cT:1<=n)(eE:s+n<=L.length)(hc:∀i,s<=i->i<s+n->L[i]? =some c):Oy prog 157 [ptr m 0,.agg #[I (s:Int),I (n:Int)],stV c] w λv w'=>v= .bool true/\Ext w w':=by
 have hn:=h.n
 refine NP (e:=[(0,_),(1,_),(2,_)]) func157 O ntmps157 O O$ qN O$ O5 O O (Qr O (cs:=[I (s:Int),I (n:Int)]) O) ?_
 rintro _ w1 ⟨b4,rfl,fV,ad,aI⟩
 refine O5 O O (Qr O (cs:=[stV c]) (by cases c<;>rfl)) ?_
 rintro _ w2 ⟨b5,rfl,gQ,ae,aG⟩
 have hg:=Ext.Ob w2
 have aJ:=ad.trans ae
 have tZ:=(h.ext aJ).NX
 have bE:=ae.NX aI
 have eg:=(h.ext aJ).ext hg
 refine NZ O$ py$ Qj (λw'=>Ext w2 w') O$ Oj 0 O O (hg)$ O0 1 O (Pq O) hg$ O0 2 O (OG U1 O) hg$ qT 3 O (λ_ h=>(O6 US O O (h.NX tZ) O)) hg$ O0 4 O (OG Qc O) hg$ qT 5 O (λ_ h=>(O6 U3 O O (h.NX bE) O)) hg$ O0 6 O (OG Qc O) hg$ qT 7 O (λ_ h=>(O6 U3 O O (h.NX bE) O)) hg$ O0 8 O (OG Qh O) hg$ qT 9 O (λ_ h=>(O6 U3 O O (h.NX bE) O)) hg$ O0 10 O (TK O O (by omega)) hg ?_
 refine O0 12 O (ymf (first:=[]) (caps:=[.tmp 5]) O O) hg ?_
 rw[show(s:Int)+(n:Int)=((s+n:Nat):Int) by omega]
 refine O0 11 O (zfp (i:=s) (j:=s+n) US z1r O O O (by omega) (by omega)) hg ?_
 rw[show s+n-s=n by omega]
 have hR:Rd w2.drew (.slice (some ⟨gi,0+s*1,none⟩) n (L.length-s)) 1 n (List.replicate n (stV c)):=by
  have h1:=Sk (RF eg.sl.rd (i:=s) (by omega) (Nat.le_refl _)) (i:=n) (by omega);rw[if_neg (by omega)] at h1
  have e:((L.map stV).drop s).take n=List.replicate n (stV c):=by
   apply List.ext_getElem?;intro i;rw[List.getElem?_take,List.getElem?_drop,List.getElem?_map,List.getElem?_replicate];by_cases hi:i<n
   ·rw[if_pos hi,if_pos hi,hc (s+i) (by omega) (by omega)];rfl
   ·rw[if_neg hi,if_neg hi]
  rw[e] at h1
  have e2:(some (⟨gi,0,none⟩:Addr)).map (λx=>x.add (s*1))=some ⟨gi,0+s*1,none⟩:=by
   show some (Addr.add _ _)=_;unfold Addr.add;split
   ·rename_i h0;rw[h0]
   ·rfl
  rw[e2] at h1;exact h1
 refine RW 13 O zhj O (z8h (by omega) c ((hg.NX aG)) hR) ?_
 rintro _ w3 ⟨rfl,rfl⟩
 refine⟨hg,?_⟩
 refine O0 14 O ((Rn O)) hg$ O0 15 O (Qq O) hg$ qE$ NV func157 O ?_
 exact⟨_,rfl,rfl,aJ.trans hg⟩
theorem z6h (h:Wz w m gi L)(s n:Nat)(cT:1<=n)(dc:2<=s)(eE:s+n<=L.length)(hc:∀i,s<=i->i<s+n->L[i]? =some true):Oy prog 118 [ptr m 0,.agg #[I (s:Int),I (n:Int)]] w λv w'=>v=I 0/\Wz w' m gi (Pv L s n false)/\Kp (λk=>k=gi) w w':=by
 refine NP (e:=[(0,_),(1,_)]) func118 O ntmps118 O O$ qN O$ O5 O O (Qr O (cs:=[I (s:Int),I (n:Int)]) O) ?_
 rintro _ w1 ⟨b3,rfl,f7,ad,au⟩
 have h1:=h.ext ad
 have l3:=au.lt
 have lg:=h.ltg
 refine NZ O$ py$ NQ$ qN O$ NT O$ qV (Pt U51 O O)$ NZ O$ It O$ qN O$ NT O$ qV (OE (news:=[I (s:Int),I (n:Int)]) Wj O Qf O (O9.cells (n:=2) au O) O)$ Om zhJ O (z94 h1 s n cT dc eE) ?_
 rintro _ w2 ⟨rfl,ae⟩
 have h2:=h1.ext ae
 have db:=ae.NX au
 refine qV ((Rn O))$ Od O O$ qV (OE (news:=[I (s:Int),I (n:Int)]) Wj O Qf O (O9.cells (n:=2) db O) O)$ Om zhz O (z90 h2 s n true cT eE hc) ?_
 rintro _ w3 ⟨rfl,ah⟩
 have h3:=h2.ext ah
 have eC:=ah.NX db
 have tZ:=h3.NX
 refine qV ((Rn O))$ OU O O$ NZ O$ It O$ qN O$ NT O$ OH O$ Og zbX O$ qV (O6 U4 O O tZ O)$ NZ O$ It O ?_
 have eC:=ah.NX db
 refine NW O$ NT O$ qV (OE (news:=[I (s:Int),I (n:Int)]) Wj O Qf O (O9.cells (n:=2) eC O) O)$ Om ze2 O (z1u h3 s n false eE) ?_
 rintro _ w4 ⟨rfl,h4,ao⟩
 refine NU$ OD.qb (e:=[(4,_)]) ?_
 refine NS$ qN O$ NZ O$ NV func118 O ?_
 exact⟨_,rfl,rfl,h4,((ad.trans ae).trans ah).kp.trans ao⟩
end
structure Dev where
 due:Int
 RE:List Int
 zcm:Int
 mask:UInt8
 B:Nat
 N:Nat
 sf:Int->Option NY
 cache:List (Int×NY)
 down:Bool
 calls:Int
 reads:Int
def zeros (n:Nat):NY:=List.replicate n 0
def Dev.kept (D:Dev)(n:Int):NY:=(D.sf n).getD (zeros (512*D.N))
def VF (l:List (Int×NY))(n:Int):Option NY:=(l.reverse.find? λx=>x.1==n).map (·.2)
def Dev.now (D:Dev)(n:Int):NY:=(VF D.cache n).getD (D.kept n)
def Dev.has (D:Dev)(n:Int):Bool:=decide (0<=n/\n<(D.B:Int))
def Dev.count (D:Dev):Dev:={D with calls:=D.calls+1,due:=if D.due=0 then 0 else D.due-1}
structure Dev.Ok (D:Dev):Prop where
 hB:16<=D.B/\D.B<=4096
 hN:1<=D.N/\D.N<=8
 due:0<=D.due/\D.due<=9223372036854775807
 sf:∀n s,D.sf n=some s->0<=n/\n<(D.B:Int)/\s.length=512*D.N
 cache:∀x∈D.cache,0<=x.1/\x.1<(D.B:Int)/\x.2.length=512*D.N
 len:0<=D.calls
 reads:True
def Dev.Bd (D:Dev):Prop:=D.calls<1000000000000/\D.cache.length<1000000000000/\True
def wr (x:Int×NY):List Value:=[I x.1,S x.2]
def wrs (l:List (Int×NY)):List Value:=l.flatMap wr
@[simp] theorem wrs_length (l:List (Int×NY)):(wrs l).length=l.length*2:=by
 induction l with
 |nil=>rfl
 |cons x r ih=>simp[wrs,wr,List.flatMap_cons] at ih⊢;omega
def XL (kp ca:Value)(m:Nat)(D:Dev):List Value:=[I D.due,kp,I D.zcm,Rb D.mask,I (D.B:Int),I (D.N:Int),.map (some m),ca,.bool D.down,I D.calls,I D.reads]
@[simp] theorem devCs_length (kp ca:Value) (m:Nat) (D:Dev):(XL kp ca m D).length=11:=rfl
abbrev KI:Int->Value:=λz=> .int .i64 z
structure Ra (w:World)(p m:Nat)(kp ca:Value)(D:Dev):Prop where
 NX:O9 w p (XL kp ca m D) 135
 map:∃kv,Wn KI w m kv/\∀n,Ql kv n=(D.sf n).map S
 cache:Sl w ca 337 2 D.cache.length (wrs D.cache)
 RE:Sl w kp 3 1 D.RE.length (D.RE.map I)
 ok:D.Ok
def fpD (p m:Nat)(kp ca:Value):Nat->Prop:=λk=>k=p\/k=m\/ca.ownBlock=some k\/kp.ownBlock=some k
def Vh (w:World)(p:Nat)(D:Dev)(F:Nat->Prop):Prop:=∃m kp ca,Ra w p m kp ca D/\∀k,F k↔fpD p m kp ca k
def Upd (F F':Nat->Prop)(w w':World):Prop:=Kp F w w'/\∀k,F' k->F k\/w.heap.size<=k
theorem Upd.trans {F F' F'':Nat->Prop}{a b c:World}(h:Upd F F' a b)(k:Upd F' F'' b c):Upd F F'' a c:=
 ⟨h.1.NR k.1 λi hi=>(h.2 i hi).symm,λi hi=>by
  rcases k.2 i hi with h'|h'
  ·exact h.2 i h'
  ·exact .inr (Nat.le_trans h.1.size h')⟩
theorem Ext.Z8 {F:Nat->Prop}{w w':World}(h:Ext w w'):Upd F F w w':=⟨h.kp,λ_ h=> .inl h⟩
theorem Ra.pm {w:World}{p m:Nat}{kp ca:Value}{D:Dev}(h:Ra w p m kp ca D):¬p=m:=λe=>by
 obtain⟨kv,⟨⟨es,c,hh,-⟩,-⟩,-⟩:=h.map
 obtain⟨fz,hb,-⟩:=h.NX
 rw[e] at hb;rw[hb] at hh;cases hh
theorem Sw {w:World}{v:Value}{e size n:Nat}{cs:List Value}{b:Nat}(h:Sl w v e size n cs)(hb:v.ownBlock=some b):∃xs fz,w.heap[b]? =some (.cells xs e fz):=by
 rcases h.2 with⟨hz,-⟩|⟨g,cap,cur,hv,-,hg,-⟩
 ·rw[hz] at hb;cases hb
 ·rw[hv] at hb;cases hb;exact⟨_,_,hg⟩
theorem Ra.kp {S:Nat->Prop}{w w':World}{p m:Nat}{kp ca:Value}{D:Dev}(h:Ra w p m kp ca D)(k:Kp S w w')(hn:∀i,fpD p m kp ca i->¬S i):Ra w' p m kp ca D:=
 ⟨k.NX h.NX (hn p (.inl O)),let ⟨kv,h1,h2⟩:=h.map;⟨kv,k.map h1 (hn m (.inr (.inl O))),h2⟩,h.cache.kp k λg hg=>hn g (.inr (.inr (.inl hg))),h.RE.kp k λg hg=>hn g (.inr (.inr (.inr hg))),h.ok⟩
theorem Ra.ext {w w':World}{p m:Nat}{kp ca:Value}{D:Dev}(h:Ra w p m kp ca D)(k:Ext w w'):Ra w' p m kp ca D:=h.kp k λ_ _=>id
theorem Dev.Ok.count {D:Dev}(h:D.Ok):D.count.Ok:=by
 have:=h.due
 have:=h.len
 refine⟨h.hB,h.hN,?_,h.sf,h.cache,?_,h.reads⟩
 ·simp only[Dev.count];split<;>omega
 ·simp only[Dev.count];omega
theorem Ra.turn {w w':World}{p m:Nat}{kp ca:Value}{D D':Dev}(h:Ra w p m kp ca D)(hb:O9 w' p (XL kp ca m D') 135)(k:Kp (λi=>i=p) w w')(h1:D'.sf=D.sf)(h2:D'.cache=D.cache)(h3:D'.RE=D.RE)(h4:D'.N=D.N)(ay:D'.Ok):Ra w' p m kp ca D':=by
 obtain⟨fz,hp,-⟩:=h.NX
 refine⟨hb,let ⟨kv,hm,hs⟩:=h.map;⟨kv,k.map hm λe=>h.pm e.symm,by rw[h1];exact hs⟩,?_,?_,ay⟩
 ·rw[h2];refine h.cache.kp k λg hg qh=>?_;obtain⟨xs,fz',hx⟩:=Sw h.cache hg;rw[qh,hp] at hx;cases hx
 ·rw[h3];refine h.RE.kp k λg hg qh=>?_;obtain⟨xs,fz',hx⟩:=Sw h.RE hg;rw[qh,hp] at hx;cases hx
def Z8 (f:Int->Option NY)(n:Int)(s:NY):Int->Option NY:=λx=>if x=n then some s else f x
def z7K (c:NY)(i:Nat)(x:NY):NY:=c.take i++x++c.drop (i+x.length)
def mixN (mask:UInt8)(a b:NY):Nat->NY
 |0=>a
 |s+1=>if mask.toNat / 2^s%2=1 then z7K (mixN mask a b s) (512*s) ((b.drop (512*s)).take 512) else mixN mask a b s
theorem z3I (c x:NY)(i:Nat)(h:i+x.length<=c.length):(z7K c i x).length=c.length:=by
 simp[z7K];omega
theorem Vx (mask:UInt8)(a b:NY)(N:Nat)(ha:a.length=512*N)(hb:b.length=512*N):∀s,s<=N->(mixN mask a b s).length=512*N
 |0,_=>ha
 | s + 1, h => by
   have ih:=Vx mask a b N ha hb s (by omega);simp only[mixN];split
   ·rw[z3I _ _ _ (by simp[ih];omega),ih]
   ·exact ih
def Dev.fallTo (D:Dev)(l:List Int)(tn:Int)(mk:UInt8):Nat->(Int->Option NY)
 |0=>D.sf
 | i + 1 => match D.cache[i]? with
   |none=>D.fallTo l tn mk i
   | some x => if (i : Int) = tn then Z8 (D.fallTo l tn mk i) x.1 (mixN mk (((D.fallTo l tn mk i) x.1).getD (zeros (512 * D.N))) x.2 D.N)
     else if(i:Int)∈l then Z8 (D.fallTo l tn mk i) x.1 x.2 else D.fallTo l tn mk i
def Dev.za5 (D:Dev)(l:List Int)(tn:Int)(mk:UInt8):Dev:=
 {D with sf:=D.fallTo l tn mk D.cache.length,cache:=[],due:=0,RE:=[],zcm:=0,mask:=0,down:=true}
theorem Dev.Ok.put {D:Dev}(h:D.Ok){n:Int}{s:NY}(hn:0<=n/\n<(D.B:Int))(hs:s.length=512*D.N):Dev.Ok {D with sf:=Z8 D.sf n s}:=
 ⟨h.hB,h.hN,h.due,λx t hx=>by
  simp only[Z8] at hx;split at hx
  ·rename_i e
   cases hx;exact⟨by omega,by rw[e];exact hn.2,hs⟩
  ·exact h.sf x t hx,h.cache,h.len,h.reads⟩
theorem Dev.Ok.kept {D:Dev}(h:D.Ok)(n:Int):(D.kept n).length=512*D.N:=by
 unfold Dev.kept
 cases hs:D.sf n with
 |none=>simp[zeros]
 |some s=>exact(h.sf n s hs).2.2
theorem Ra.put {w w':World}{p m:Nat}{kp ca:Value}{D:Dev}{kv:List (Int×Value)}{n:Int}{s:NY}(h:Ra w p m kp ca D)(hs:∀n,Ql kv n=(D.sf n).map S)(hm:Wn KI w' m (putL kv n (S s)))(k:Kp (λi=>i=m) w w')
  (ay:Dev.Ok {D with sf:=Z8 D.sf n s}):Ra w' p m kp ca {D with sf:=Z8 D.sf n s}:=by
 obtain⟨kv0,⟨⟨es,c,hh,-⟩,-⟩,-⟩:=h.map
 refine⟨k.NX h.NX h.pm,⟨_,hm,λx=>?_⟩,?_,?_,ay⟩
 ·rw[zbB,hs x];simp only[Z8];split<;>rfl
 ·refine h.cache.kp k λg hg qh=>?_;obtain⟨xs,fz',hx⟩:=Sw h.cache hg;rw[qh,hh] at hx;cases hx
 ·refine h.RE.kp k λg hg qh=>?_;obtain⟨xs,fz',hx⟩:=Sw h.RE hg;rw[qh,hh] at hx;cases hx
theorem Rd.kpm {w w':World}{v:Value}{size n m:Nat}{cs:List Value}{kv:List (Int×Value)}(h:Rd w v size n cs)(hm:Wn KI w m kv)(k:Kp (λi=>i=m) w w'):Rd w' v size n cs:=by
 obtain⟨h1,h2⟩:=h
 refine⟨h1,h2.imp id λ⟨b,off,cap,hv,hc⟩=>⟨b,off,cap,hv,λj u hj=>?_⟩⟩
 have B8:=hc j u hj
 obtain⟨⟨es,c,hh,-⟩,-⟩:=hm
 have bP:¬b=m:=λe=>by
  rw[e] at B8;simp[World.cell?,hh] at B8
 have aZ:b<w.heap.size:=by
  rcases Nat.lt_or_ge b w.heap.size with h'|h'
  ·exact h'
  ·simp[World.cell?,Array.getElem?_eq_none h'] at B8
 rw[<-B8]
 simp only[World.cell?,k.block b aZ bP]
theorem Ra.ziL {w:World}{p m:Nat}{kp ca:Value}{D:Dev}(h:Ra w p m kp ca D){g:Nat}(hg:ca.ownBlock=some g):¬g=p/\¬g=m/\¬kp.ownBlock=some g:=by
 obtain⟨xs,fz',hx⟩:=Sw h.cache hg
 refine⟨λe=>?_,λe=>?_,λe=>?_⟩
 ·obtain⟨fz,hb,-⟩:=h.NX;rw[e,hb] at hx;cases hx
 ·obtain⟨kv,⟨⟨es,c,hh,-⟩,-⟩,-⟩:=h.map;rw[e,hh] at hx;cases hx
 ·obtain⟨ys,fy,hy⟩:=Sw h.RE e;rw[hx] at hy;cases hy
theorem Ra.zgE {w:World}{p m:Nat}{kp ca:Value}{D:Dev}(h:Ra w p m kp ca D){g:Nat}(hg:kp.ownBlock=some g):¬g=p/\¬g=m/\¬ca.ownBlock=some g:=by
 obtain⟨xs,fz',hx⟩:=Sw h.RE hg
 refine⟨λe=>?_,λe=>?_,λe=>?_⟩
 ·obtain⟨fz,hb,-⟩:=h.NX;rw[e,hb] at hx;cases hx
 ·obtain⟨kv,⟨⟨es,c,hh,-⟩,-⟩,-⟩:=h.map;rw[e,hh] at hx;cases hx
 ·obtain⟨ys,fy,hy⟩:=Sw h.cache e;rw[hx] at hy;cases hy
theorem Ra.lt {w:World}{p m:Nat}{kp ca:Value}{D:Dev}(h:Ra w p m kp ca D):∀k,fpD p m kp ca k->k<w.heap.size:=by
 intro k hk
 rcases hk with rfl|rfl|hc|hc
 ·exact h.NX.lt
 ·obtain⟨kv,hm,-⟩:=h.map;exact hm.lt
 ·exact h.cache.lt hc
 ·exact h.RE.lt hc
theorem Vh.kp {S F:Nat->Prop}{w w':World}{p:Nat}{D:Dev}(h:Vh w p D F)(k:Kp S w w')(hn:∀i,F i->¬S i):Vh w' p D F:=by
 obtain⟨m,kp,ca,h1,h2⟩:=h
 exact⟨m,kp,ca,h1.kp k λi hi=>hn i ((h2 i).2 hi),h2⟩
theorem Vh.ext {F:Nat->Prop}{w w':World}{p:Nat}{D:Dev}(h:Vh w p D F)(k:Ext w w'):Vh w' p D F:=h.kp k λ_ _=>id
theorem Vh.lt {F:Nat->Prop}{w:World}{p:Nat}{D:Dev}(h:Vh w p D F):∀k,F k->k<w.heap.size:=by
 obtain⟨m,kp,ca,h1,h2⟩:=h
 intro k hk
 rcases (h2 k).1 hk with rfl|rfl|hc|hc
 ·exact h1.NX.lt
 ·obtain⟨kv,hm,-⟩:=h1.map;exact hm.lt
 ·exact h1.cache.lt hc
 ·exact h1.RE.lt hc
theorem Z2 (n:Nat):((List.replicate n (Value.int .u8 0)).drop 0).take n=(zeros n).map Rb:=by
 simp[zeros,Rb]
section
variable {w:World}{p m:Nat}{kp ca:Value}{D:Dev}
theorem z66 (h:Ra w p m kp ca D):Oy prog 144 [ptr p 0] w λv w'=>v=I (D.B:Int)/\w'=w:=by
 have hM:=h.NX
 refine NP (e:=[(0,_)]) func144 O ntmps144 O O$ qN O$ NZ O$ py$ qN O$ NT O$ qV (Pt U28 O O)$ NU$ It O$ An$ qN O$ NT O$ OH O$ Og Zl O ?_
 refine Og YA O$ qV (O6 U3 O O hM O)$ NZ O$ NV func144 O ?_
 exact⟨_,rfl,rfl,rfl⟩
theorem z0P (h:Ra w p m kp ca D):Oy prog 100 [ptr p 0] w λv w'=>v=I ((512*D.N:Nat):Int)/\w'=w:=by
 have hM:=h.NX
 have hN:=h.ok.hN
 refine NP (e:=[(0,_)]) func100 O ntmps100 O O$ qN O$ NZ O$ py$ qN O$ NT O$ qV (Pt U28 O O)$ NU$ It O$ An$ qN O$ NT O$ OH O$ Og Zl O ?_
 refine Og YD O$ qV (O6 U3 O O hM O)$ qV (Xa O O (by omega))$ NZ O$ NV func100 O (⟨_,rfl,?_,rfl⟩)
 show I _=I _
 congr 1;omega
theorem z1F (h:Ra w p m kp ca D):Oy prog 205 [ptr p 0] w λv w'=>v=I (if D.down then 8 else 0)/\w'=w:=by
 have hM:=h.NX
 refine NP (e:=[(0,_)]) func205 O ntmps205 O O$ qN O$ NZ O$ py$ NQ$ qN O$ NT O$ qV (Pt U28 O O)$ NZ O$ It O$ qN O$ NT O$ OH O$ Og z2L O ?_
 refine qV (O6 U4 O O hM O)$ NZ O$ Po O (λhd=>?_)$ λhd=>?_
 ·refine qN O$ NZ O$ NV func205 O ?_;exact⟨_,rfl,by simp[hd,Pn],rfl⟩
 ·refine An$ NS$ qN O$ NZ O$ NV func205 O ?_;exact⟨_,rfl,by simp[hd,Pn],rfl⟩
theorem z6r (n:Int)(h:Ra w p m kp ca D):Oy prog 206 [ptr p 0,I n] w λv w'=>v= .bool (D.has n)/\w'=w:=by
 have hM:=h.NX
 refine NP (e:=[(0,_),(1,_)]) func206 O ntmps206 O O$ qN O$ Oc O$ qM O$ NT O$ SB O O$ Rv (λh1=>?_)$ λh1=>?_
 ·refine Od O O$ NT O$ OH O$ Og Zl O$ Og YA O$ qV (O6 U3 O O hM O)$ Py O O$ PT O O$ NZ O$ NV func206 O (⟨_,rfl,?_,rfl⟩);simp[Dev.has,h1,Pn]
 ·refine NT O$ qS$ qS$ qS$ qS$ qS$ qS$ qS$ OU O O$ NZ O$ NV func206 O (⟨_,rfl,?_,rfl⟩);simp[Dev.has,h1,Pn]
theorem z42 (n:Int)(h:Ra w p m kp ca D):Oy prog 229 [ptr p 0,I n] w λv w'=>v=S (D.kept n)/\Ext w w':=by
 have hM:=h.NX
 have hN:=h.ok.hN
 have dF:maxLen=9223372036854775807:=rfl
 obtain⟨kv,nK,mQ⟩:=h.map
 refine NP (e:=[(0,_),(1,_)]) func229 O ntmps229 O O$ qN O$ NZ O$ py$ qN O$ NT O$ OH O$ Og z2n O$ qV (O6 z8U O O hM O)$ NT O$ qV (zjs (k:=n) (K:=KI) z8U (Rj U3) ZF O O nK) ?_
 rw[mQ n]
 cases hs:D.sf n with
 | some s =>
   refine NT O$ P9 O O$ P9 O O$ Oc O$ Oc O$ qM O$ NT O$ NU$ Oa O$ qN O$ NT O$ NZ O$ NV func229 O ?_
   exact⟨_,rfl,by simp[Dev.kept,hs,Pn],Ext.refl w⟩
 | none =>
   refine NT O$ P9 O O$ P9 O O$ Oc O$ Oc O$ qM O$ NT O$ NU$ It O$ An$ qN O$ NT O$ Om zaW O (z0P h) ?_;rintro _ w1 ⟨rfl,rfl⟩;refine O5 O O (pmk (c:=512*D.N) (n:=512*D.N) Pc Us O O O (by omega) (by omega) (by omega)) ?_;rintro _ w1 ⟨b1,rfl,⟨bK,ad,ai⟩,-⟩;refine qV (z18 (l:=zeros (512*D.N)) Pc U5 U9 O ai (Z2 _) (by simp[zeros])) ?_;refine NZ O$ NV func229 O ?_;exact⟨_,rfl,by simp[Dev.kept,hs,Pn],ad⟩
theorem z4w (h:Ra w p m kp ca D)(hc:D.calls<1000000000000):Oy prog 226 [ptr p 0] w λv w'=>v= .bool (decide (D.due=1))/\Ra w' p m kp ca D.count/\Kp (λk=>k=p) w w':=by
 have hM:=h.NX
 have qi:=h.ok.due
 have aF:=h.ok.len
 refine NP (e:=[(0,_)]) func226 O ntmps226 O O$ qN O$ Oc O$ qM O$ NT O$ OH O$ Og z7s O$ qV (O6 U3 O O hM O)$ P6 O O$ OH O$ Og z7s O$ Oe O (PV Pb O O O hM (by simp)) ?_
 rintro w1 ⟨dG,aK⟩
 refine NU$ py$ qN O$ NT O$ OH O$ Og W1 O$ Og Zf O$ qV (O6 U3 O O dG O)$ Qe O O$ NU$ O8 O (λh0=>?_)$ λh0=>?_
 ·refine qN O$ NZ O$ NV func226 O ?_;have e0:(XL kp ca m D).set (0+9) (I (D.calls+1))=XL kp ca m D.count:=by simp[XL,Dev.count,h0]
  rw[e0] at dG;exact⟨_,rfl,by simp[Pn];omega,h.turn dG aK O O O O h.ok.count,aK⟩
 ·refine An$ qN O$ NT O$ OH O$ Og W1 O$ Og Zf O$ qV (O6 U3 O O dG O)$ Qp O O$ OH O$ Og W1 O$ Og Zf O$ Oe O (PV Pb O O O dG (by simp)) ?_;rintro w2 ⟨my,aq⟩;refine qM O$ NT O$ OH O$ Og W1 O$ Og Zf O$ qV (O6 U3 O O my O)$ Qe O O$ NZ O$ OD.qb (e:=[(2,_)]) ?_;refine NV func226 O ?_;have e0:((XL kp ca m D).set (0+9) (I (D.calls+1))).set (0+0+0) (I (D.due-1))=XL kp ca m D.count:=by simp[XL,Dev.count,h0]
  rw[e0] at my;exact⟨_,rfl,by simp[Pn];omega,h.turn my (aK.trans aq) O O O O h.ok.count,aK.trans aq⟩
end
theorem z6L (xs:List (Int×NY))(j:Nat)(h:j<xs.length):((wrs xs).drop (j*2)).take 2=wr xs[j]:=by
 induction xs generalizing j with
 |nil=>simp at h
 | cons x r ih =>
   cases j with
   |zero=>simp[wrs,wr,List.flatMap_cons]
   | succ j =>
     have e:(wrs (x::r))=I x.1::S x.2::wrs r:=by simp[wrs,wr,List.flatMap_cons]
     rw[e,show(j+1)*2=(j*2)+1+1 by omega]
     simpa using ih j (by simpa using h)
theorem z0r (a:Option Addr)(n cap:Nat)(w:World):Oy prog 228 [.slice a n cap] w λv w'=>∃b,v= .func (.func 246) #[] #[ptr b 0]/\Z7 w b [.slice a n cap] 133 w':=by
 refine NP (e:=[(0,_)]) func228 O ntmps228 O O$ qN O$ O5 O O (Qr O O) ?_
 rintro _ w1 ⟨b1,rfl,hN⟩
 refine Oc O$ qM O$ qV (ymf (first:=[]) (caps:=[.tmp 1]) O O)$ NZ O$ NV func228 O ?_
 exact⟨_,rfl,_,rfl,hN⟩
theorem z2v (l bx:Nat)(ca:Value)(xs:List (Int×NY))(J:Nat->World->Prop)(Jx:World->Prop)(w:World)(hn:xs.length<4611686018427387904)
  (hJ:∀i w,J i w->(∃T,O9 w bx [ca] T)/\Sl w ca 337 2 xs.length (wrs xs))
  (hround:∀i w x,xs.reverse[i]? =some x->J i w->z2k prog l [I ((xs.length:Int)-1-i),.agg (wr x).toArray] w λv w'=>(v= .bool true/\J (i+1) w')\/(v= .bool false/\Jx w')) (h0:J 0 w):
  Oy prog 246 [.func (.yield l) #[] #[],ptr bx 0] w λv w'=>v= .tuple #[]/\(J xs.length w'\/Jx w'):=by
 obtain⟨⟨T,hM⟩,hS⟩:=hJ 0 w h0
 obtain⟨a,cap,rfl,ha⟩:=hS.rd.shape
 refine NP (e:=[(0,_),(1,_)]) func246 O ntmps246 O O$ qN O$ qV (O6 z0v O O hM O)$ Qx z0v O$ Qp O O$ NZ O$ NQ ?_
 rw[show(xs.length:Int)-1=(xs.length:Int)-1-((0:Nat):Int) by omega]
 refine Qm (α:=Nat) (0) (λi=>[(0,.func (.yield l) #[] #[]),(1,ptr bx 0),(3,I ((xs.length:Int)-1-i))]) (λi w=>i<=xs.length/\J i w) (λi=>xs.length-i) ?hI ?hround
 case hI=>exact⟨by omega,h0⟩
 case hround=>
  rintro i w1 ⟨hi,hj⟩ ih
  try dsimp only
  obtain⟨⟨T1,dG⟩,j3⟩:=hJ i w1 hj;refine py$ qN O$ NT O$ SB O O$ NU$ O8 O (λio=>?_)$ λio=>?_
  ·have aZ:i<xs.length:=by omega
   have B6:=j3.shape;rcases B6 with⟨-,h⟩|⟨gb,cap',lB,jO⟩
   ·omega
   cases lB;obtain⟨x,hx⟩:∃x,xs.reverse[i]? =some x:=⟨_,List.getElem?_eq_getElem (by simpa using aZ)⟩
   have fP:((wrs xs).drop ((xs.length-1-i)*2)).take 2=wr x:=by
    rw[z6L xs _ (by omega)]
    congr 1
    rw[List.getElem?_reverse aZ,List.getElem?_eq_getElem (by omega)] at hx;exact PJ hx
   have hz:((xs.length:Int)-1-i)=((xs.length-1-i:Nat):Int):=by omega
   have hy:=hround i w1 x hx hj;rw[hz] at hy⊢;refine An$ py$ NQ$ qN O$ Od O O$ qV (O6 z0v O O dG O)$ NT O$ qV (P7 z0v VA O O (by omega))$ qV (OE zhK O VA O (j3.part fP) O)$ z6k O O (yy O O) (hy) ?_;rintro v w2 hv;rcases hv with⟨rfl,kM⟩|⟨rfl,ae⟩
   ·refine qV ((Rn O))$ NU$ It O$ An$ NS$ NW O$ NT O$ Qp O O$ NZ O ?_;rw[show((xs.length-1-i:Nat):Int)-1=(xs.length:Int)-1-((i+1:Nat):Int) by omega];exact(ih (i+1) w2 ⟨by omega,kM⟩ (by omega)).qb
   ·refine qV ((Rn O))$ NU$ Oa O$ NV func246 O ?_;exact⟨_,rfl,rfl,.inr ae⟩
  ·refine O4 O$ PE func246 O ?_;have:i=xs.length:=by omega
   subst this;exact⟨_,rfl,rfl,.inl hj⟩
theorem z5V (xs:List (Int×NY))(n:Int)(i:Nat):(∀j x,j<i->xs.reverse[j]? =some x->x.1≠n)->∀x,xs.reverse[i]? =some x->x.1=n->VF xs n=some x.2:=by
 intro fx x hx he
 have aZ:i<xs.reverse.length:=by
  rcases Nat.lt_or_ge i xs.reverse.length with h| h
  ·exact h
  ·rw[List.getElem?_eq_none h] at hx;cases hx
 have:xs.reverse.find? (λx=>x.1==n)=some x:=by
  rw[List.find?_eq_some_iff_getElem];refine⟨by simp[he],i,aZ,?_,λj hj=>?_⟩
  ·rw[List.getElem?_eq_getElem aZ] at hx;exact PJ hx
  ·have:=fx j _ hj (List.getElem?_eq_getElem (by omega))
   simpa using this
 simp[VF,this]
theorem z4J (xs:List (Int×NY))(n:Int):(∀j x,j<xs.length->xs.reverse[j]? =some x->x.1≠n)->VF xs n=none:=by
 intro fx
 have:xs.reverse.find? (λx=>x.1==n)=none:=by
  rw[List.find?_eq_none];intro x hx;obtain⟨j,hj,rfl⟩:=List.getElem_of_mem hx;have:=fx j _ (by simpa using hj) (List.getElem?_eq_getElem hj)
  simpa using this
 simp[VF,this]
theorem zcp {w:World}{p m:Nat}{kp ca:Value}{D:Dev}(n:Int)(h:Ra w p m kp ca D)(hc:D.cache.length<1000000000000):
  Oy prog 207 [ptr p 0,I n] w λv w'=>v=S (D.now n)/\Ext w w':=by
 have hM:=h.NX
 have aF:=h.ok.len
 have er:=hc
 obtain⟨a,cap,rfl,ha⟩:=h.cache.rd.shape
 refine NP (e:=[(0,_),(1,_)]) func207 O ntmps207 O O$ qN O$ O5 O O (Qr O O) ?_
 rintro _ w1 ⟨b3,rfl,f7,ad,au⟩
 refine O5 O O (QU (cs:=[_]) ZF O) ?_
 rintro _ w2 ⟨b4,rfl,fV,ae,aI⟩
 replace h:=(h.ext ad).ext ae
 have my:=h.NX
 refine NU$ py$ qN O$ NT O$ OH O$ Og XM O$ qV (O6 z0v O O my O)$ Om zi6 O (z0r a D.cache.length cap _) ?_
 rintro _ w3 ⟨bx,rfl,fI,ah,j0⟩
 replace h:=h.ext ah
 replace au:=ah.NX (ae.NX au)
 replace aI:=ah.NX aI
 refine NU$ NQ$ SW (ps:=[12,13]) (p:=[]) (q:=[_]) O ziV ?_
 rintro l w4 az hl cE hD Rc dy ff
 have Nr:=zbu dy ff
 have h3:=h
 replace h:=h.ext az
 replace au:=az.NX au
 replace aI:=az.NX aI
 have Ev:=j0.lt
 have j4:=au.lt
 have dm:=ad.size
 have dc:=ae.size
 have oK:=ah.size
 have KY:bx<w3.heap.size:=j0.lt
 replace j0:=az.NX j0
 refine Oy.mono (z2v l bx (.slice a D.cache.length cap) D.cache
  (λi w'=>Rc .ready none w'/\Kp (λk=>k=l) w4 w'/\∀j x,j<i->D.cache.reverse[j]? =some x->x.1≠n)
  (λw'=>Rc .done (some .ret) w'/\Kp (λk=>k=l\/k=b4) w4 w'/\O9 w' b4 [S (D.now n)] 9) w4 (by omega) ?_ ?_ ⟨ff,Kp.refl _ _,by omega⟩) ?_
 ·rintro i w' ⟨h1,h2,-⟩;refine⟨⟨_,h2.NX j0 (by omega)⟩,h.cache.kp h2 λg hg dz=>?_⟩;have:=h3.cache.lt hg;omega
 ·rintro i w' x hx ⟨h1,h2,fx⟩;refine U0 dy h1 O O ?_;have xM:=h2.size;refine NW O$ O5 O O (QU (cs:=[_,_]) VA O) ?_;rintro _ w5 ⟨b6,rfl,jP,aR,aO⟩;refine Oe O (P4 VA O O O O aO (by simp)) ?_;rintro w6 ⟨mL,aP⟩;have aH:=aR.NR aP (λi hi=>by omega);replace h1:=aH.rc dy h1 id;replace h2:=h2.trans aH.kp;have Ew:=aR.size;have KZ:=mL.lt;refine NU$ run_beginRound O dy h1 ?_;rintro w7 h7 aD;have bN:=aD.NX mL (by omega);have nL:=(h2.trans aD).NX au (by omega);refine NQ$ qN O$ Og Zm O$ qV ((O6 U3 O O bN O))$ qV ((O6 U3 O O nL O))$ Qe O O$ NU$ O8 O (λdI=>?_)$ λdI=>?_
  ·have fj:=(h2.trans aD).NX aI (by omega);refine qN O$ Og z2p O$ qV ((O6 U9 O O bN O))$ Oe O (PV ZF O O O fj (by simp)) ?_;rintro w8 ⟨cn,aS⟩;refine NU$ XV dy (aS.rc dy h7 (by omega)) ?_;intro w9 h9 aL;refine .inr ⟨rfl,h9,((h2.trans aD).Of λ_ h=> .inl h).trans ((aS.Of λ_ h=> .inr h).trans (aL.Of λ_ h=> .inl h)),?_⟩
   have Ex:D.now n=x.2:=by
    unfold Dev.now;rw[z5V D.cache n i fx x hx dI]
    rfl
   rw[Ex];exact aL.NX cn (by omega)
  ·refine An$ NS$ UD dy h7 ?_;intro w9 h9 aL;refine .inl ⟨rfl,h9,(h2.trans aD).trans aL,λj y hj hy=>?_⟩;rcases Nat.lt_or_ge j i with rz|rz
   ·exact fx j y rz hy
   ·have:j=i:=by omega
    subst this;rw[hx] at hy;cases hy;exact dI
 ·rintro v w' ⟨rfl,⟨h1,h2,fx⟩|⟨h1,h2,hB⟩⟩
  ·refine⟨_,_,h1,by simp,λw5 h5=>?_⟩;have ak:=h2.trans h5;have aR:Ext w3 w5:=az.NR ak (λi hi=>by omega);replace h3:=h3.ext aR;have nL:=ak.NX au (by omega);have fj:=ak.NX aI (by omega);have u3:=ak.heap hD (by omega);refine NS$ qN O$ NT O$ qV (O6 U3 O O nL O)$ Om zdn O (z42 n h3) ?_;rintro _ w6 ⟨rfl,aH⟩;replace fj:=aH.NX fj;replace u3:=aH.heap u3 id;refine Oe O (PV ZF O O O fj (by simp)) ?_;rintro w7 ⟨bN,aD⟩;replace u3:=aD.heap u3 (by omega);have cn:=(PR w7 w3.heap.size (.deferred none)).NX bN (by omega);refine NU$ VS (by simp) (XY u3) func207 (.cell1 U9 O O ((cn).cell _) .nil) ?_;refine⟨_,rfl,?_,?_⟩
   ·simp[Dev.now,z4J D.cache n fx,Pn]
   ·exact((((ad.trans (ae.trans ah)).trans aR).trans aH).NR aD (λi hi=>by omega)).NR (PR w7 w3.heap.size (.deferred none)) (λi hi=>by omega)
  ·refine⟨_,_,h1,by simp,λw5 h5=>?_⟩;have u3:=(h2.trans (h5.Of λ_ h=> .inl h)).heap hD (by omega);have aG:=h5.NX hB (by omega);have cn:=(PR w5 w3.heap.size (.deferred none)).NX aG (by omega);refine VS (by simp) (XY u3) func207 (.cell1 U9 O O ((cn).cell _) .nil) ?_;refine⟨_,rfl,rfl,?_⟩;exact(((ad.trans (ae.trans (ah.trans az))).NR h2 (λi hi=>by omega)).NR h5 (λi hi=>by omega)).NR (PR w5 w3.heap.size (.deferred none)) (λi hi=>by omega)
section
variable {w:World}{p m:Nat}{kp ca:Value}{D:Dev}
theorem z9z (h:Ra w p m kp ca D):Oy prog 164 [ptr p 0] w λv w'=>v= .bool D.down/\w'=w:=by
 have hM:=h.NX
 refine NP (e:=[(0,_)]) func164 O ntmps164 O O$ qN O$ Oc O$ qM O$ NT O$ qV (Pt U28 O O)$ Od O O$ OH O$ Og z2L O$ qV (O6 U4 O O hM O)$ OU O O$ NZ O$ NV func164 O ?_
 exact⟨_,rfl,rfl,rfl⟩
end
end Go.Proofs.YtgdkbagngobdlaaGreatDoor
