/- Merged by program. -/
import Derived.Test.YtfgjaafcgghnoaaGreatDoorCPp4
import Derived.WideLaws
set_option linter.all false
set_option maxRecDepth 1000000
set_option maxHeartbeats 16000000
namespace Go.Proofs.YtfgjaafcgghnoaaGreatDoor
open Go Go.RowKit Go.Proofs.Tryz
structure PHd where
 n:Nat
 m:Nat
 p:Pa
 bits:Nat
def hdC (h:PHd):List Value:=[I (h.n:Int),I (h.m:Int),I (h.p.O6:Int),I (h.p.chain:Int),I (h.p.interval:Int),I (h.p.zeta:Int),I (h.p.most:Int),I (h.bits:Int)]
abbrev hdV (h:PHd):Value:= .agg (hdC h).toArray
structure PHd.Pk (h:PHd):Prop where
 n1:1<=h.n
 n2:h.n<=65536
 m:h.m<=1048576
 bits:h.bits<=134217728
 p:h.p.Pk
def Xt (h:PHd):List (Nat×Nat):=[(h.n,32),(h.m,32),(h.p.O6,8),(h.p.chain,8),(h.p.interval,8),(h.p.zeta,8),(h.p.most,32),(h.bits,64)]
def Q7 (l:List (Nat×Nat)):List Bool:=l.flatMap λq=>O7 q.2 q.1
def z6w:NH:=[119,116,108,49]
def hdT (h:PHd):NH:=z6w++Oc (Q7 (Xt h))
theorem Te (h:PHd):(Q7 (Xt h)).length=192:=by
 simp[Q7,Xt]
theorem VH (h:PHd):(hdT h).length=28:=by
 unfold hdT
 rw[List.length_append,Ot,Te];rfl
theorem We (h:PHd)(hh:h.Pk)(w:World):Oa prog 121 [hdV h] w λu w'=>u=I 0/\Ext w w':=by
 obtain⟨g1,g2,g3,g4,g5⟩:=hh
 refine Nu (e:=[(0,_)]) func121 O ntmps121 O O$ qN O$ NK O O (PW O (cs:=hdC h) O) ?_
 rintro _ w1 ⟨b1,rfl,bN,ad,aj⟩
 replace aj:NM w1 b1 [I (h.n:Int),I (h.m:Int),I (h.p.O6:Int),I (h.p.chain:Int),I (h.p.interval:Int),I (h.p.zeta:Int),I (h.p.most:Int),I (h.bits:Int)] 149:=aj
 refine NF O$ py$ Nw$ py$ qN O$ NO SV O$ qV (NJ U3 O O aj O)$ Pb O O$ Ox$ Nz O$ NO SV O$ qV (NJ U3 O O aj O)$ P9 O O$ Ox ?_
 refine OC O O$ NF O$ It O$ qN O$ NO z1w O$ qV (NJ U3 O O aj O)$ Pb O O$ Ox$ Nz O$ NO z1w O$ qV (NJ U3 O O aj O)$ P9 O O$ Ox$ OC O O ?_
 refine NF O$ It O$ qN O$ NO TJ O$ qV (NJ U3 O O aj O)$ Pb O O$ Ox$ Nz O$ NO TJ O$ qV (NJ U3 O O aj O)$ P9 O O$ Ox$ OC O O$ NF O ?_
 refine Of.qb (e:=[(1,_),(2,_),(3,_)]) ?_
 refine It O$ NC O$ NO SV O$ qV (NJ U3 O O aj O)$ Px O O$ Ox$ Nz O$ qS$ qS$ qS$ qS$ qS$ qS$ OC O O ?_
 refine NF O$ It O$ An$ Ny$ qN O$ NO Xq O$ qV (Oh (news:=TR h.p) U88 O Qm O (aj.cells (i:=2) (n:=5) O) O)$ NZ zcf O (YN h.p g5 _) ?_
 rintro _ w2 ⟨rfl,ag⟩
 refine NF O$ NA func121 O ?_
 exact⟨_,rfl,rfl,ad.trans ag⟩
theorem z7P (h:PHd)(hh:h.Pk)(w:World):Oa prog 87 [hdV h] w λu w'=>u= .tuple #[S (hdT h),I 0]/\Ext w w':=by
 obtain⟨g1,g2,g3,g4,g5⟩:=id hh
 obtain⟨q1,q2,q3⟩:=id g5
 obtain⟨r1,r2,r3,r4⟩:=id q1
 have r1':h.p.O6<=16:=r1
 have r2':h.p.interval<=64:=by
  have:h.p.interval=0\/2<=h.p.interval/\h.p.interval<=64:=r2;omega
 have r4':h.p.zeta<=16:=r4
 refine Nu (e:=[(0,_)]) func87 O ntmps87 O O$ qN O$ NK O O (PW O (cs:=hdC h) O) ?_
 rintro _ w1 ⟨b1,rfl,bN,ad,aj⟩
 replace aj:NM w1 b1 [I (h.n:Int),I (h.m:Int),I (h.p.O6:Int),I (h.p.chain:Int),I (h.p.interval:Int),I (h.p.zeta:Int),I (h.p.most:Int),I (h.bits:Int)] 149:=aj
 refine NQ O$ NF O$ py$ qN O$ qV (Oh (news:=hdC h) z5h O Ss O (aj.cells (n:=8) O) O)$ NZ za7 O (We h hh _) ?_
 rintro _ w2 ⟨rfl,ag⟩
 refine NQ O$ qM O$ Nz O$ P3 O O$ NB$ It O$ An$ qN O$ NZ Zi O (T8 w2) ?_
 rintro _ w3 ⟨wp,F,rfl,mT,ah,qp⟩
 have aO:=ag.trans ah
 have du:=aO.ND aj
 refine NQ O$ qM O$ NO Xq O$ qV (Oh (news:=TR h.p) U88 O Qm O (du.cells (i:=2) (n:=5) O) O)$ NK O O (Qk (cs:=[_,_,_,_,_]) Qm O) ?_
 rintro _ w4 ⟨b6,rfl,mN,aB,aR⟩
 refine NP O (OA (news:=TR h.p) Qm O O O O aR (by simp)) ?_
 rintro w5 ⟨fQ,ai⟩
 replace fQ:NM w5 b6 [I (h.p.O6:Int),I (h.p.chain:Int),I (h.p.interval:Int),I (h.p.zeta:Int),I (h.p.most:Int)] 88:=fQ
 have cn:Ext w3 w5:=aB.Nv ai (λi e=>by omega)
 have dI:=cn.ND du
 refine NB$ py$ qN O$ NO SV O$ qV ((NJ U3 O O dI O))$ qV (QP (cs:=[_,_]) TV O Yr O O)$ NO z1w O$ qV ((NJ U3 O O dI O))$ qV (QP (cs:=[_,_]) TV O Yr O O)$ NO z0d O$ qV ((NJ U3 O O fQ O))$ qV (QP (cs:=[_,_]) TV O Yr O O)$ NO XF O$ qV ((NJ U3 O O fQ O)) ?_
 refine qV (QP (cs:=[_,_]) TV O Yr O O)$ NO z9C O$ qV ((NJ U3 O O fQ O))$ qV (QP (cs:=[_,_]) TV O Yr O O)$ NO z9F O$ qV ((NJ U3 O O fQ O))$ qV (QP (cs:=[_,_]) TV O Yr O O)$ NO Sd O$ qV ((NJ U3 O O fQ O))$ qV (QP (cs:=[_,_]) TV O Yr O O)$ NO TJ O$ qV ((NJ U3 O O dI O))$ qV (QP (cs:=[_,_]) TV O Yr O O)$ NK O O (Ur (cs:=[_,_,_,_,_,_,_,_,_,_,_,_,_,_,_,_]) (zs:=[Value.int .i64 0,Value.int .i64 0,Value.int .i64 0,Value.int .i64 0,Value.int .i64 0,Value.int .i64 0,Value.int .i64 0,Value.int .i64 0,Value.int .i64 0,Value.int .i64 0,Value.int .i64 0,Value.int .i64 0,Value.int .i64 0,Value.int .i64 0,Value.int .i64 0,Value.int .i64 0]) zdm TV O (by kernel_rfl) O O O (by decide)) ?_
 rintro _ w6 ⟨b43,rfl,⟨Ca,aK,dW⟩,nK⟩
 have xY:=cn.trans aK
 have lK:=mT.ext xY
 have z3:=ah.size
 have hL:(Xt h).length=8:=rfl
 replace nK:Sl w6 (.slice (some ⟨b43,0,none⟩) 8 8) 233 2 8 ((Xt h).flatMap λq=>[I (q.1:Int),I (q.2:Int)]):=nK
 refine Q0 zdm O$ Nz O$ NB$ Of.qb (e:=[(2,_),(3,_),(5,_),(43,_),(44,_),(45,_)]) ?_
 refine Nw$ Qb (α:=Nat) (0) (λi=>[(5,ptr wp 0),(43,.slice (some ⟨b43,0,none⟩) 8 8),(44,I 8),(45,I (i:Int))]) (λi w'=>WrR wp F w6 w' (Q7 ((Xt h).take i))/\i<=8) (λi=>8-i) ?hI ?hround
 case hI=>exact⟨⟨F,lK,Kp.refl _ _,λk hk=> .inl hk⟩,Nat.zero_le _⟩
 case hround=>
  rintro i w7 ⟨⟨F7,pe,ax,pf⟩,hi⟩ ih
  try dsimp only
  refine qN O$ Pb O O$ NB$ py$ NN O (λh0=>?_)$ λh0=>?_
  ·obtain⟨⟨v,c⟩,hq⟩:∃q,(Xt h)[i]? =some q:=⟨_,List.getElem?_eq_getElem (by rw[hL];omega)⟩
   have AR:v<2^c/\c<=64/\v<=134217728:=by
    have hm:=List.mem_of_getElem? hq;simp only[Xt,List.mem_cons,List.not_mem_nil,or_false,Prod.mk.injEq] at hm;rcases hm with⟨rfl,rfl⟩|⟨rfl,rfl⟩|⟨rfl,rfl⟩|⟨rfl,rfl⟩|⟨rfl,rfl⟩|⟨rfl,rfl⟩|⟨rfl,rfl⟩|⟨rfl,rfl⟩<;>refine⟨by omega,by omega,by omega⟩
   have fL:(Q7 ((Xt h).take i)).length+c<=192:=by
    have e:Q7 ((Xt h).take (i+1))=Q7 ((Xt h).take i)++O7 c v:=by rw[OB hq];simp[Q7]
    have e2:=congrArg List.length e;rw[List.length_append,bitsN_length] at e2
    have e3:(Q7 (Xt h)).length=(Q7 ((Xt h).take (i+1))).length+(Q7 ((Xt h).drop (i+1))).length:=by
     conv=>lhs;rw[<-List.take_append_drop (i+1) (Xt h)]
     unfold Q7;rw[List.flatMap_append,List.length_append]
    have e4:=Te h;omega
   have iu:=nK.kp ax (λg hg e=>by have e1:b43=g:=Pz hg;have:=lK.lt e;have:=mT.lt e;have:=cn.size;omega);have km:=Zv (f:=λq:Nat×Nat=>[I (q.1:Int),I (q.2:Int)]) (λ_=>rfl) iu.rd hq;refine An$ py$ Nw$ qN O$ qV (OH zdm TV O O (by omega))$ qV (Oh (news:=[I (v:Int),I (c:Int)]) zij O TV O km O)$ NK O O (Qk (cs:=[_,_]) TV O) ?_;rintro _ w8 ⟨b8,rfl,jE,dC,ck⟩;refine NP O (OA (news:=[I (v:Int),I (c:Int)]) TV O O O O ck (by simp)) ?_;rintro w9 ⟨qz,aS⟩;replace qz:NM w9 b8 [I (v:Int),I (c:Int)] 233:=qz;have gz:Ext w7 w9:=dC.Nv aS (λi e=>by omega);refine NB$ NC O$ Nz O$ NO zb5 O$ qV (NJ U3 O O qz O)$ qV ((OM O U3 Qe (by omega)))$ NO zbx O$ qV (NJ U3 O O qz O)$ NZ UT O (QS (pe.ext gz) v c AR.2.1 AR.1 (by omega)) ?_;rintro _ w10 ⟨rfl,F10,Dr,au,aZ⟩;refine NB$ Ny$ NC O$ OI O O$ Nz O$ NB ((ih (i+1) _ ⟨⟨F10,?_,(ax.trans gz.kp).Nv au (λk hk=>(pf k hk).symm),λk hk=>?_⟩,by omega⟩ (by omega)).qb)
   ·rw[OB hq,show Q7 ((Xt h).take i++[(v,c)])=Q7 ((Xt h).take i)++O7 c v by simp[Q7]];exact Dr
   ·rcases aZ k hk with e| e
    ·exact pf k e
    ·have:=ax.size;have:=gz.size;exact .inr (by omega)
  ·have cu:i=8:=by omega
   subst cu;rw[show(Xt h).take 8=Xt h from rfl] at pe;refine NL O$ qN O$ Nz O$ NZ z6v O (VA pe) ?_;rintro _ w8 ⟨rfl,rfl⟩;have et:(Oc (Q7 (Xt h))).length=24:=by rw[Ot,Te]
   refine Nz O$ ON O O$ ON O O$ NQ O$ NQ O$ qM O$ Nz O$ qV (S9 O O (by first|omega|(simp;done)|(simp;omega))) ?_;refine Nz O$ NQ O$ NF O$ NA func87 O (⟨_,rfl,?_,((ad.trans aO).trans xY).Nv ax (λk hk=>by have:=qp k hk;have:=ag.size;have:=ad.size;omega)⟩);simp[OR,hdT,z6w]
theorem z50 {w:World}{ga:Option Addr}{gc:Nat}{g:List (List Nat)}(h:GrM w (.slice ga g.length gc) g)(hg:QQ g):Oa prog 86 [.slice ga g.length gc] w λu w'=>u=I (Ph g:Int)/\w'=w:=by
 have hn:=hg.n
 obtain⟨vs,fM,iz⟩:=h.ex
 refine Nu (e:=[(0,_)]) func86 O ntmps86 O O$ qN O$ NQ O$ qM O$ NF O$ py$ qN O$ Nz O$ Q0 SH O$ Nz O$ NB$ Nw$ Qb (α:=Nat) (0) (λi=>[(3,I (Ph (g.take i):Int)),(6,.slice ga g.length gc),(7,I (g.length:Int)),(8,I (i:Int))]) (λi w'=>w'=w/\i<=g.length) (λi=>g.length-i) ?hI ?hround
 case hI=>exact⟨rfl,Nat.zero_le _⟩
 case hround=>
  rintro i w4 ⟨rfl,hi⟩ ih;have pw:=St hg i
  try dsimp only
  refine qN O$ Pb O O$ NB$ py$ NN O (λh0=>?_)$ λh0=>?_
  ·obtain⟨l,hl⟩:∃l,g[i]? =some l:=⟨_,List.getElem?_eq_getElem (by omega)⟩;have fG:=hg.len (List.mem_of_getElem? hl);obtain⟨a,c,e1,e2,e3⟩:=iz i l hl
   obtain⟨gb,go,gc',e4⟩:∃b o c',Value.slice ga g.length gc= .slice (some ⟨b,o,none⟩) g.length c':=by
    rcases fM.2 with⟨c,hc,h0⟩|⟨b,off,c',hc,-⟩
    ·omega
    ·exact⟨b,off,c',hc⟩
   cases e4;have AU:=Wj (g.take i) l;rw[<-OB hl] at AU;refine An$ py$ Nw$ qN O$ qV (OH SH QC O O (by omega))$ qV (Oi Ob O O (P6 fM e1))$ NF O$ NC O$ NT O O$ Q0 Ob O$ OI O O$ NF O$ Ny$ NC O ?_;refine OI O O$ Nz O$ NB ?_;rw[show(Ph (g.take i):Int)+(l.length:Int)=(Ph (g.take (i+1)):Int) by omega];exact(ih (i+1) _ ⟨rfl,by omega⟩ (by omega)).qb
  ·have cu:i=g.length:=by omega
   subst cu;rw[List.take_length];refine NL O$ qN O$ Nz O$ NF O$ NA func86 O ?_;exact⟨_,rfl,rfl,rfl⟩
theorem Vz (p:Pa)(g:List (List Nat))(E:List (Nat×Nat)):∀(d i:Nat),(Po p g E i).length<=(Po p g E (i+d)).length
 |0,i=>Nat.le_refl _
 | d + 1, i => by
   have h:=Vz p g E d i;rw[<-Nat.add_assoc,RB,List.length_append];omega
theorem z6i (p:Pa)(g:List (List Nat))(E:List (Nat×Nat))(n:Nat):Nof (UN p g E n):=by
 unfold UN Nof
 rw[List.pairwise_map]
 refine List.pairwise_lt_range.imp fun {i j} iq=>?_
 have:=Vz p g E (j-i) i
 rwa [show i+(j-i)=j by omega] at this
theorem Z6 (p:Pa)(g:List (List Nat))(E:List (Nat×Nat)){n i:Nat}(h:i<=n):(UN p g E n)[i]? =some (Po p g E i).length:=by
 unfold UN
 rw[List.getElem?_map,List.getElem?_range (by omega)];rfl
theorem zdg (p:Pa)(g:List (List Nat))(E:List (Nat×Nat))(n:Nat):∀v∈UN p g E n,v<=(Po p g E n).length:=λv hv=>by
 unfold UN at hv
 obtain⟨j,hj,rfl⟩:=List.mem_map.1 hv
 have h1:=List.mem_range.1 hj
 have:=Vz p g E (n-j) j
 rwa [show j+(n-j)=n by omega] at this
theorem z3b {l:List Nat}(cY:1<=l.length)(hn:l.length<=64)(mv:Nof l){z:Nat}(hz:l[l.length-1]? =some z):(WE l (Sw l.length (z+1))).length=(Sw l.length (z+1)).size:=by
 have h1:=z0a (Sw l.length (z+1)).width mv hz
 have h2:=Tn (Sw l.length (z+1)).width l
 have h3:(QJ (Sw l.length (z+1)).width l).length=32:=by
  cases l with
  |nil=>simp at cY
  |cons v l=>simp[QJ]
 have h4:(Sw l.length (z+1)).bits=z / 2^(Sw l.length (z+1)).width+l.length:=by
  show(z+1-1) / _+_=_;rw[Nat.add_sub_cancel]
  rfl
 unfold WE Fm.size Fm.Tq Fm.high
 rw[List.length_append,List.length_append,List.length_append,Ot,Ot,Ot,Ot,List.length_append,bitsN_length,bitsN_length,h1,h2,h3,h4]
 show _=12+(l.length*_+7) / 8+_+4*((l.length+63) / 64)
 have h5:(l.length+63) / 64=1:=by omega
 rw[h5]
def Wu (p:Pa)(g:List (List Nat))(E:List (Nat×Nat)):NH:=
 hdT ⟨g.length,Ph g,p,(Po p g E g.length).length⟩++Oc (Po p g E g.length)++WE (UN p g E g.length) (Sw (g.length+1) ((Po p g E g.length).length+1))
structure z9N (p:Pa)(g:List (List Nat))(E:List (Nat×Nat)):Prop where
 el:E.length=g.length
 ok:zcz p g E
 bits:(Po p g E g.length).length<=2688000
theorem z4U {w:World}{p:Pa}(hp:p.Pk){g:List (List Nat)}(hg:QQ g)(av:1<=g.length){ga:Option Addr}{gc:Nat}(ln:GrM w (.slice ga g.length gc) g)(hG:NM w 0 (QX .gamma) 260)(hU:NM w 1 (QX .unary) 260):
  Oa prog 54 [.slice ga g.length gc,bpV p] w λu w'=>∃E,z9N p g E/\u= .tuple #[S (Wu p g E),I 0]/\Ext w w':=by
 have hn:=hg.n
 have tY:=St hg g.length
 rw[List.take_length] at tY
 refine Nu (e:=[(0,_),(1,_)]) func54 O ntmps54 O O$ qN O$ NK O O (PW O (cs:=TR p) O) ?_
 rintro _ w1 ⟨b3,rfl,dF,ad,ar⟩
 refine NQ O$ NQ O$ qM O$ Nz O$ qV (Oh (news:=TR p) U88 O Qm O (ar.cells (n:=5) O) O)$ NZ zi8 O (z8B hp hg (ln.ext ad) (ad.ND hG) (ad.ND hU)) ?_
 rintro _ w2 ⟨E,v,rfl,rT,JP,pu,cm,sJ,ag⟩
 have aJ:=ad.trans ag
 have aa:=Ext.NY w2
 obtain⟨va,vc,rfl,-⟩:=cm.rd.shape
 have xZ:=z6i p g E g.length
 have gO:=zdg p g E g.length
 have aA:=z1q p g E g.length
 have gA:=Z6 p g E (Nat.le_refl g.length)
 obtain⟨vb,vc2,e5⟩:∃b c,Value.slice va (g.length+1) vc= .slice (some ⟨b,0,none⟩) (g.length+1) c:=by
  rcases cm.shape with⟨-,h0⟩|⟨b,c,e,hc⟩
  ·omega
  ·exact⟨b,c,e⟩
 cases e5
 refine Nz O$ qV (Q8 (v:=S (Oc (Po p g E g.length))) O O)$ qV (Q8 (v:= .slice (some ⟨vb,0,none⟩) (g.length+1) vc) O O)$ qV (Q8 (v:=I 0) O O)$ NQ O$ NQ O$ NF O$ py$ qN O$ Nz O$ P3 O O$ NB$ It O$ An ?_
 refine py ?_
 have JQ:PHd.Pk ⟨g.length,Ph g,p,(Po p g E g.length).length⟩:=⟨av,(by show g.length<=_;omega),(by show Ph g<=_;omega),(by show(Po p g E g.length).length<=_;omega),hp⟩
 refine PK (λw'=>Ext w2 w') O$ NX 0 O O (aa)$ NG 1 O (R7 SH O) aa$ NX 2 O O (aa)$ NX 5 O O (aa)$ NX 6 O O (aa)$ NG 7 O (R7 SH O) aa$ NG 8 O (OH Y3 Tr O O (by omega)) aa$ qT 4 O (λ_ hS=>Oh (news:=TR p) U88 O Qm O ((hS.ND (ag.ND ar)).cells (n:=5) O) O) aa$ qT 9 O (λ_ hS=>Oi Qe O O (P6 (cm.ext hS).rd (show((UN p g E g.length).map NW)[g.length]? =some (NW (Po p g E g.length).length) by rw[List.getElem?_map,gA];rfl))) aa ?_
 refine NG 10 O (Ow O Qe U3 (by omega)) aa$ Qv 3 O zif O (z50 ((ln.ext aJ).ext aa) hg) ?_
 rintro _ w3 ⟨rfl,rfl⟩
 refine⟨aa,?_⟩
 refine NG 11 O (QP (cs:=[_,_,_,_,_,_,_,_]) Ss O zcr O O) aa$ Qv 12 O zi6 O (z7P ⟨g.length,Ph g,p,(Po p g E g.length).length⟩ JQ _) ?_
 rintro _ w3 ⟨rfl,ah⟩
 refine⟨aa.trans ah,?_⟩
 have cD:=aa.trans ah
 refine NX 13 O O (aa.trans ah)$ qT 14 O (λ_ hS=>Q8 (v:=S (hdT ⟨g.length,Ph g,p,(Po p g E g.length).length⟩)) O O) (aa.trans ah)$ NG 16 O (PO O) (aa.trans ah)$ NG 15 O (Q8 (v:=I 0) O O) (aa.trans ah)$ NG 17 O (PO O) (aa.trans ah)$ qE$ Of.qb (e:=[(4,_),(5,_),(6,_),(7,_),(8,_),(9,_)]) ?_
 refine py$ qN O$ Nz O$ P3 O O ?_
 have Dt:Rd w3 (.slice (some ⟨vb,0,none⟩) (UN p g E g.length).length vc) 1 (UN p g E g.length).length ((UN p g E g.length).map NW):=by rw[aA];exact(cm.ext cD).rd
 have hz:(UN p g E g.length)[(UN p g E g.length).length-1]? =some (Po p g E g.length).length:=by rw[aA];exact gA
 have BR:=z3a (by omega) (by omega) xZ (λv hv=>by have:=gO v hv;omega) Dt hz
 have pw:=z3b (by omega) (by omega) xZ hz
 have JR:(Sw (UN p g E g.length).length ((Po p g E g.length).length+1)).size<=40000000:=by
  have h1:=z2e (n:=(UN p g E g.length).length) (u:=(Po p g E g.length).length+1) (by omega) (by omega) (by omega) (by omega);have h2:=Fm.Vl h1;obtain⟨h3,h4,h5⟩:=h1;unfold Fm.size Fm.Tq;omega
 rw[aA] at BR pw JR
 have pz:=VH ⟨g.length,Ph g,p,(Po p g E g.length).length⟩
 have et:=Ot (Po p g E g.length)
 refine NB$ It O$ An$ qN O$ Nz O$ NZ ziL O (BR) ?_
 rintro _ w4 ⟨rfl,aB⟩
 refine Nz O$ qV (Q8 (v:=S (WE (UN p g E g.length) (Sw (g.length+1) ((Po p g E g.length).length+1)))) O O)$ qV (Q8 (v:=I 0) O O)$ NQ O$ NQ O$ qM O$ NT O O$ qV (S9 O O (by first|omega|(simp;done)|(simp;omega))) ?_
 refine Nz O$ qV (S9 O O (by first|omega|(simp;done)|(simp;omega))) ?_
 refine Nz O$ NQ O$ NF O$ NA func54 O ?_
 exact⟨_,rfl,E,⟨rT,JP,pu⟩,rfl,(aJ.trans cD).trans aB⟩
/-! ### Bytes of a word, the least first -/
def OO:List Nat->Nat
 |[]=>0
 |b::r=>b+256*OO r
theorem Tl {s a b c d:Nat}(hb:b<2^s)(hd:d<2^s):(b+2^s*a)&&&(d+2^s*c)=(b&&&d)+2^s*(a&&&c):=by
 apply Nat.eq_of_testBit_eq
 intro j
 have pu:b&&&d<2^s:=Nat.lt_of_le_of_lt Nat.and_le_left hb
 rw[Nat.testBit_and,Nat.add_comm b,Nat.add_comm d,Nat.add_comm (b&&&d),Nat.testBit_two_pow_mul_add _ hb,Nat.testBit_two_pow_mul_add _ hd,Nat.testBit_two_pow_mul_add _ pu]
 by_cases h:j<s
 ·simp only[if_pos h,Nat.testBit_and]
 ·simp only[if_neg h,Nat.testBit_and]
theorem zbu {s a b m:Nat}(hb:b<2^s)(hm:m<2^s):(b+2^s*a)&&&m=b&&&m:=by
 have:=Tl (a:=a) (c:=0) hb hm
 simpa using this
theorem ZS (m:Nat)(hm:m<256):∀L:List Nat,(∀b∈L,b<256)->OO L&&&OO (List.replicate L.length m)=OO (L.map (·&&&m))
 |[],_=>by simp[OO]
 | b :: r, h => by
   have ih:=ZS m hm r (λx hx=>h x (List.mem_cons_of_mem b hx));rw[List.length_cons,List.replicate_succ,OO,OO,List.map_cons,OO,<-ih];exact Tl (s:=8) (h b List.mem_cons_self) hm
theorem z1I (s m:Nat)(hs:s<=8)(hm:m<2^(8-s)):∀L:List Nat,(∀b∈L,b<256)->OO L / 2^s&&&OO (List.replicate L.length m)=OO (L.map λb=>b / 2^s&&&m)
 |[],_=>by simp[OO]
 | b :: r, h => by
   have ih:=z1I s m hs hm r (λx hx=>h x (List.mem_cons_of_mem b hx));have hb:=h b List.mem_cons_self;have e256:256=2^s*2^(8-s):=by rw[<-Nat.pow_add,show s+(8-s)=8 by omega]
   have hp:0<2^s:=Nat.two_pow_pos s;have y6:b / 2^s<2^(8-s):=by rw[Nat.div_lt_iff_lt_mul hp,Nat.mul_comm,<-e256];exact hb
   have e1:(b+256*OO r) / 2^s=b / 2^s+2^(8-s)*OO r:=by
    rw[e256,Nat.mul_assoc,Nat.add_mul_div_left _ _ hp]
   have e2:b / 2^s+2^(8-s)*OO r=(b / 2^s+2^(8-s)*(OO r%2^s))+2^8*(OO r / 2^s):=by
    have h1:=Nat.div_add_mod (OO r) (2^s);have e3:2^8=2^(8-s)*2^s:=by rw[Nat.mul_comm];exact e256
    rw[e3,Nat.mul_assoc,Nat.add_assoc,<-Nat.mul_add,Nat.add_comm (OO r%2^s),h1]
   have h3:b / 2^s+2^(8-s)*(OO r%2^s)<2^8:=by
    have h4:OO r%2^s+1<=2^s:=Nat.mod_lt _ hp;have h5:=Nat.mul_le_mul_left (2^(8-s)) h4;rw[Nat.mul_add,Nat.mul_one] at h5;have e3:2^8=2^(8-s)*2^s:=by rw[Nat.mul_comm];exact e256
    omega
   have JS:m<2^8:=Nat.lt_of_lt_of_le hm (Nat.pow_le_pow_right (by decide) (by omega));rw[List.length_cons,List.replicate_succ,OO,OO,List.map_cons,OO,<-ih,e1,e2];have:=Tl (s:=8) (a:=OO r / 2^s) (c:=OO (List.replicate r.length m)) h3 JS;rw[show m+256*OO (List.replicate r.length m)=m+2^8*OO (List.replicate r.length m) from rfl,this,zbu y6 hm]
theorem Zw (f g:Nat->Nat):∀L:List Nat,OO (L.map f)+OO (L.map g)=OO (L.map λb=>f b+g b)
 |[]=>rfl
 | b :: r => by
   rw[List.map_cons,List.map_cons,List.map_cons,OO,OO,OO,<-Zw f g r,Nat.mul_add];omega
theorem z3o:∀L:List Nat,(∀c∈L,c / 16<=4/\c%16<=4)->(OO L / 16+OO L)&&&OO (List.replicate L.length 15)=OO (L.map λc=>c / 16+c%16)/\OO L%16<=4
 |[],_=>⟨by simp[OO],by simp[OO]⟩
 | c :: r, h => by
   obtain⟨ih,ih2⟩:=z3o r (λx hx=>h x (List.mem_cons_of_mem c hx));obtain⟨h1,h2⟩:=h c List.mem_cons_self;have e:(c+256*OO r) / 16+(c+256*OO r)=(c / 16+16*(OO r%16)+c)+2^8*(OO r / 16+OO r):=by omega
   have aU:c / 16+16*(OO r%16)+c<2^8:=by omega
   have JT:(c / 16+16*(OO r%16)+c)&&&15=c / 16+c%16:=by
    have:=Nat.and_two_pow_sub_one_eq_mod (c / 16+16*(OO r%16)+c) 4;rw[show(2:Nat)^4-1=15 from rfl,show(2:Nat)^4=16 from rfl] at this;rw[this];omega
   refine⟨?_,by rw[OO];omega⟩;rw[List.length_cons,List.replicate_succ,OO,OO,List.map_cons,OO,<-ih,e];have:=Tl (s:=8) (a:=OO r / 16+OO r) (c:=OO (List.replicate r.length 15)) aU (by decide:15<2^8);rw[show 15+256*OO (List.replicate r.length 15)=15+2^8*OO (List.replicate r.length 15) from rfl,this,JT]
theorem z3H:∀L:List Nat,(∀b∈L,b<256)->(O7 (8*L.length) (OO L)).count true=(L.map λb=>(O7 8 b).count true).sum
 |[],_=>rfl
 | b :: r, h => by
   have ih:=z3H r (λx hx=>h x (List.mem_cons_of_mem b hx));have hb:=h b List.mem_cons_self;rw[List.length_cons,Nat.mul_add,Nat.mul_one,Qx,List.count_append,OO];have e1:(b+256*OO r) / 2^8=OO r:=by omega
   rw[List.map_cons,List.sum_cons,show(O7 8 (b+256*OO r))=O7 8 b from UW (by omega),e1,ih];omega
def s1B (b:Nat):Nat:=(b / 2&&&85)+(b&&&85)
def s2B (b:Nat):Nat:=(b / 4&&&51)+(b&&&51)
theorem z8k:∀b:Fin 256,s1B b<256/\s2B (s1B b)<256/\s2B (s1B b) / 16<=4/\s2B (s1B b)%16<=4/\s2B (s1B b) / 16+s2B (s1B b)%16=(O7 8 b).count true:=by decide+kernel
theorem Wz {b:Nat}(h:b<256):s1B b<256/\s2B (s1B b)<256/\s2B (s1B b) / 16<=4/\s2B (s1B b)%16<=4/\s2B (s1B b) / 16+s2B (s1B b)%16=(O7 8 b).count true:=z8k ⟨b,h⟩
def XN (x:Nat):List Nat:=[x%256,x / 256%256,x / 65536%256,x / 16777216%256,x / 4294967296%256,x / 1099511627776%256,x / 281474976710656%256,x / 72057594037927936%256]
theorem z4H {x:Nat}(h:x<18446744073709551616):OO (XN x)=x:=by
 simp only[XN,OO]
 omega
theorem z7n (x:Nat):∀b∈XN x,b<256:=λb hb=>by
 simp only[XN,List.mem_cons,List.not_mem_nil,or_false] at hb
 rcases hb with rfl|rfl|rfl|rfl|rfl|rfl|rfl|rfl<;>exact Nat.mod_lt _ (by decide)
theorem z44 {x:Nat}(h:x<18446744073709551616):∃D:List Nat,D.length=8/\(∀d∈D,d<=8)/\
  ((((x / 2&&&6148914691236517205)+(x&&&6148914691236517205)) / 4&&&3689348814741910323)+(((x / 2&&&6148914691236517205)+(x&&&6148914691236517205))&&&3689348814741910323)) / 16+((((x / 2&&&6148914691236517205)+(x&&&6148914691236517205)) / 4&&&3689348814741910323)+(((x / 2&&&6148914691236517205)+(x&&&6148914691236517205))&&&3689348814741910323))&&&1085102592571150095=OO D/\D.sum=(O7 64 x).count true:=by
 have hv:=z4H h
 have hl:=z7n x
 have hL:(XN x).length=8:=rfl
 generalize XN x=L at hv hl hL
 have m0:6148914691236517205=OO (List.replicate L.length 85):=by rw[hL];rfl
 have m1:3689348814741910323=OO (List.replicate L.length 51):=by rw[hL];rfl
 have m2:1085102592571150095=OO (List.replicate L.length 15):=by rw[hL];rfl
 have f1:=z1I 1 85 (by decide) (by decide) L hl
 have f2:=ZS 85 (by decide) L hl
 rw[show(2:Nat)^1=2 from rfl] at f1
 have lu:∀b∈L.map s1B,b<256:=λb hb=>by
  obtain⟨y,hy,rfl⟩:=List.mem_map.1 hb;exact(Wz (hl y hy)).1
 have e1:(x / 2&&&6148914691236517205)+(x&&&6148914691236517205)=OO (L.map s1B):=by
  rw[m0,<-hv,f1,f2,Zw];rfl
 have f3:=z1I 2 51 (by decide) (by decide) (L.map s1B) lu
 have f4:=ZS 51 (by decide) (L.map s1B) lu
 rw[show(2:Nat)^2=4 from rfl] at f3
 rw[List.length_map] at f3 f4
 have e2:(OO (L.map s1B) / 4&&&3689348814741910323)+(OO (L.map s1B)&&&3689348814741910323)=OO ((L.map s1B).map s2B):=by
  rw[m1,f3,f4,Zw];rfl
 rw[e1,e2]
 have gV:∀c∈(L.map s1B).map s2B,c / 16<=4/\c%16<=4:=λc hc=>by
  obtain⟨z,hz,rfl⟩:=List.mem_map.1 hc;obtain⟨y,hy,rfl⟩:=List.mem_map.1 hz;have:=Wz (hl y hy);exact⟨this.2.2.1,this.2.2.2.1⟩
 have f5:=(z3o _ gV).1
 rw[List.length_map,List.length_map] at f5
 refine⟨((L.map s1B).map s2B).map λc=>c / 16+c%16,by rw[List.length_map,List.length_map,List.length_map];exact hL,λd hd=>?_,by rw[m2];exact f5,?_⟩
 ·obtain⟨c,hc,rfl⟩:=List.mem_map.1 hd;have:=gV c hc;omega
 ·have tZ:=z3H L hl;rw[hL,hv] at tZ;rw[show 8*8=64 from rfl] at tZ;rw[tZ,List.map_map,List.map_map]
  congr 1
  refine List.map_congr_left λb hb=>?_;exact(Wz (hl b hb)).2.2.2.2
theorem z9n {D:List Nat}(h8:D.length=8)(hd:∀d∈D,d<=8):let x4:=OO D+OO D / 256;let x5:=x4+x4 / 65536;let x6:=x5+x5 / 4294967296;OO D<1152921504606846976/\x6%128=D.sum/\D.sum<=64:=by
 obtain⟨d0,d1,d2,d3,d4,d5,d6,d7,rfl⟩:∃d0 d1 d2 d3 d4 d5 d6 d7,D=[d0,d1,d2,d3,d4,d5,d6,d7]:=by
  match D,h8 with
  |[a,b,c,d,e,f,g,i],_=>exact⟨a,b,c,d,e,f,g,i,rfl⟩
 have k0:=hd d0 (by simp)
 have k1:=hd d1 (by simp)
 have k2:=hd d2 (by simp)
 have k3:=hd d3 (by simp)
 have k4:=hd d4 (by simp)
 have k5:=hd d5 (by simp)
 have k6:=hd d6 (by simp)
 have k7:=hd d7 (by simp)
 have h3:OO [d0,d1,d2,d3,d4,d5,d6,d7] / 256=OO [d1,d2,d3,d4,d5,d6,d7]:=by
  rw[OO,Nat.add_mul_div_left _ _ (by decide),Nat.div_eq_of_lt (by omega),Nat.zero_add]
 have h4:OO [d0,d1,d2,d3,d4,d5,d6,d7]+OO [d1,d2,d3,d4,d5,d6,d7]=(d0+d1+256*(d1+d2))+65536*((d2+d3)+256*(d3+d4)+65536*((d4+d5)+256*(d5+d6)+65536*((d6+d7)+256*d7))):=by
  simp only[OO];omega
 have h5:(OO [d0,d1,d2,d3,d4,d5,d6,d7]+OO [d1,d2,d3,d4,d5,d6,d7]) / 65536=(d2+d3)+256*(d3+d4)+65536*((d4+d5)+256*(d5+d6)+65536*((d6+d7)+256*d7)):=by
  rw[h4,Nat.add_mul_div_left _ _ (by decide),Nat.div_eq_of_lt (by omega),Nat.zero_add]
 dsimp only
 rw[h3,h5,h4]
 have h6:(d0+d1+256*(d1+d2))+65536*((d2+d3)+256*(d3+d4)+65536*((d4+d5)+256*(d5+d6)+65536*((d6+d7)+256*d7)))+((d2+d3)+256*(d3+d4)+65536*((d4+d5)+256*(d5+d6)+65536*((d6+d7)+256*d7)))=
   ((d0+d1+d2+d3)+256*(d1+d2+d3+d4)+65536*((d2+d3+d4+d5)+256*(d3+d4+d5+d6)))+4294967296*((d4+d5+d6+d7)+256*(d5+d6+d7)+65536*(d6+d7+256*d7)):=by omega
 rw[h6,Nat.add_mul_div_left _ _ (by decide),Nat.div_eq_of_lt (by omega),Nat.zero_add]
 refine⟨by simp only[OO];omega,?_,by simp only[List.sum_cons,List.sum_nil];omega⟩
 simp only[List.sum_cons,List.sum_nil]
 have h7:(d0+d1+d2+d3)+256*(d1+d2+d3+d4)+65536*((d2+d3+d4+d5)+256*(d3+d4+d5+d6))+4294967296*((d4+d5+d6+d7)+256*(d5+d6+d7)+65536*(d6+d7+256*d7))+((d4+d5+d6+d7)+256*(d5+d6+d7)+65536*(d6+d7+256*d7))=
   (d0+d1+d2+d3+d4+d5+d6+d7)+128*(2*(d1+d2+d3+d4)+512*((d2+d3+d4+d5)+256*(d3+d4+d5+d6))+33554432*((d4+d5+d6+d7)+256*(d5+d6+d7)+65536*(d6+d7+256*d7))+(2*(d5+d6+d7)+512*(d6+d7+256*d7))):=by omega
 rw[h7,Nat.add_mul_mod_self_left,Nat.mod_eq_of_lt (by omega)]
 omega
theorem z8K (x:Nat)(hx:x<18446744073709551616)(w:World):Oa prog 213 [NW x] w λv w'=>v=I ((O7 64 x).count true:Int)/\w'=w:=by
 obtain⟨D,h1,h2,h3,h4⟩:=z44 hx
 obtain⟨f1,f2,f3⟩:=z9n h1 h2
 have a1:x / 2&&&6148914691236517205<=6148914691236517205:=Nat.and_le_right
 have a2:x&&&6148914691236517205<=6148914691236517205:=Nat.and_le_right
 rw[<-h4]
 refine Nu (e:=[(0,_)]) func213 O ntmps213 O O$ qN O$ NQ O$ qM O$ Nz O$ qV (RS 1 2 O O (by decide) O)$ qV (Td O O (by omega) (by omega))$ Nz O$ qV (Td O O (by omega) (by omega))$ qV (TF O O)$ NQ O$ qM O ?_
 rw[Nat.mod_eq_of_lt (show(x / 2&&&6148914691236517205)+(x&&&6148914691236517205)<18446744073709551616 by omega)]
 generalize hy:(x / 2&&&6148914691236517205)+(x&&&6148914691236517205)=y at h3
 have rW:y<18446744073709551616:=by omega
 have a3:y / 4&&&3689348814741910323<=3689348814741910323:=Nat.and_le_right
 have a4:y&&&3689348814741910323<=3689348814741910323:=Nat.and_le_right
 refine Nz O$ qV (RS 2 4 O O (by decide) O)$ qV (Td O O (by omega) (by omega))$ Nz O$ qV (Td O O (by omega) (by omega))$ qV (TF O O)$ NQ O$ qM O ?_
 rw[Nat.mod_eq_of_lt (show(y / 4&&&3689348814741910323)+(y&&&3689348814741910323)<18446744073709551616 by omega)]
 generalize hz:(y / 4&&&3689348814741910323)+(y&&&3689348814741910323)=z at h3
 have mK:z<=7378697629483820646:=by omega
 refine Nz O$ qV (RS 4 16 O O (by decide) O)$ Nz O$ qV (TF O O) ?_
 rw[Nat.mod_eq_of_lt (show z / 16+z<18446744073709551616 by omega)]
 refine qV (Td O O (by omega) (by omega))$ NQ O$ qM O ?_
 rw[h3]
 generalize OO D=x3 at f1 f2
 refine NT O O$ qV (RS 8 256 O O (by decide) O)$ qV (TF O O)$ NQ O$ qM O ?_
 rw[Nat.mod_eq_of_lt (show x3+x3 / 256<18446744073709551616 by omega)]
 generalize aB:x3+x3 / 256=x4 at f2
 have y7:x4<=1157495777000000000:=by omega
 refine NT O O$ qV (RS 16 65536 O O (by decide) O)$ qV (TF O O)$ NF O$ Of.qb (e:=[(0,_),(2,_)]) ?_
 refine qN O ?_
 rw[Nat.mod_eq_of_lt (show x4+x4 / 65536<18446744073709551616 by omega)]
 generalize aT:x4+x4 / 65536=x5 at f2
 have JU:x5<=1160000000000000000:=by omega
 refine NT O O$ qV (RS 32 4294967296 O O (by decide) O)$ qV (TF O O)$ NQ O$ qM O ?_
 rw[Nat.mod_eq_of_lt (show x5+x5 / 4294967296<18446744073709551616 by omega)]
 generalize aK:x5+x5 / 4294967296=x6 at f2
 have JV:x6<=1170000000000000000:=by omega
 refine Nz O$ qV (Ow O Qe U3 (by omega))$ qV (W8 O O (by omega) (by omega)) ?_
 rw[show x6&&&127=D.sum by rw[<-f2];exact Nat.and_two_pow_sub_one_eq_mod x6 7]
 refine NF O$ NA func213 O ?_
 exact⟨_,rfl,rfl,rfl⟩
theorem z7K {x:Nat}(hx:x<18446744073709551616):OJ x<=64:=PQ (by omega)
theorem z9W (x:Nat)(hx:x<18446744073709551616)(w:World):Oa prog 214 [NW x] w λv w'=>v=I ((64-OJ x:Nat):Int)/\w'=w:=by
 have sM:=z7K hx
 refine Nu (e:=[(0,_)]) func214 O ntmps214 O O$ qN O$ NQ O$ qM O$ Nz O$ NZ z0H O (T0 x hx w) ?_
 rintro _ w ⟨rfl,rfl⟩
 refine Qc O O ?_
 rw[show(64:Int)-(OJ x:Int)=((64-OJ x:Nat):Int) by omega]
 refine NF O$ NA func214 O ?_
 exact⟨_,rfl,rfl,rfl⟩
def methT (P:Program)(t:TypeId)(name:String):Option FuncId:=match P.info? t with
 | some i => match i.methods.toList.find? (·.name == name) with
   | some m => match m.path.toList, m.func with
     | [], some (f, pr) => match P.underlying t with
       |some (.pointer _)=>cond pr (some f) none
       |some _=>cond pr none (some f)
       |none=>none
     |_,_=>none
   |none=>none
 |none=>none
section
variable {P:Program}{e:Env}{d:Option Nat}{ty t t':TypeId}{pos:String}{aft:Array Edge}{g:Option (Nat×Bool)}{x y:Operand}{w:World}{m n:Nat}
theorem Sk {i:TypeInfo}(h:P.info? t=some i):(typeInfo t).run P w= .ok i w:=by simp[typeInfo,program,Sem.run,h]
theorem z8b {f:FuncId}{name:String}{u:Value}(h:methT P t name=some f)(n:Nat):(method (n+1) t u name).run P w= .ok (f,u) w:=by
 unfold methT at h
 split at h<;>try cases h
 rename_i i hi
 split at h<;>try cases h
 rename_i m hm
 split at h<;>try cases h
 rename_i f' pr jq jr
 have nW:i.methods.find? (·.name==name)=some m:=by rw[<-hm,Array.find?_toList]
 split at h<;>try cases h
 ·rename_i el hu
  cases pr<;>simp at h;subst h;simp[method,Sk hi,nW,jq,follow,jr,receiverAt,run_underlying hu,Place.get]
 ·rename_i td Ho hu
  cases pr<;>simp at h;subst h;unfold method;simp only[Sem.run_bind,Sk hi,Result.andThen_ok,nW,jq,follow,Sem.run_pure,jr,receiverAt,run_underlying hu,Place.get]
theorem yci {f:FuncId}{nm:String}{args:List Operand}{ts:Array TypeId}{vs:List Value}{u:Value}(hf:CF P f)(hm:methT P t nm=some f)(hx:look e x=some (.iface t u))(ha:looks e args=some vs):
  Yc P e ⟨d,.call ⟨.invoke x nm,args.toArray,ts⟩,ty,pos,aft,g⟩ f (u::vs) w:=fun ρ hρ=>by
 have vQ:=λw=>z8b (P:=P) (w:=w) (u:=u) hm (P.types.size+(Made.depth-1))
 rw[show P.types.size+(Made.depth-1)+1=P.types.size+Made.depth from rfl] at vQ
 have tt:(program).run P w= .ok P w:=rfl
 have nW:=Sc hρ _ _ ha
 have h0:=hρ _ _ hx
 simp[execOp,resolve,nW,h0,Deferred.ofValue,invoke,callMethod,tt,vQ,RT hf]
theorem zdz (hx:look e x=some (I (m:Int)))(hy:look e y=some (I 7))(hm:m<2^62):Y P e ⟨d,.binOp .andNot t x y t',ty,pos,aft,g⟩ (I ((m / 8*8:Nat):Int)) w w:=fun ρ hρ=>by
 have h1:m<2^IntKind.i64.bits:=by simp only[IntKind.bits];omega
 have h3:m&&&18446744073709551608=m / 8*8:=by
  have h4:=Tl (s:=3) (a:=m / 8) (b:=m%8) (c:=2305843009213693951) (d:=0) (Nat.mod_lt _ (by decide)) (by decide);rw[Nat.and_zero,Nat.zero_add,Nat.zero_add] at h4;have h5:=Nat.and_two_pow_sub_one_eq_mod (m / 8) 61;rw[show(2:Nat)^61-1=2305843009213693951 from rfl,Nat.mod_eq_of_lt (by omega)] at h5;rw[h5,show(2:Nat)^3=8 from rfl,show 8*2305843009213693951=18446744073709551608 from rfl,show m%8+8*(m / 8)=m by omega] at h4;rw[h4];omega
 have h6:(BitVec.ofInt IntKind.i64.bits (m:Int)&&&~~~(BitVec.ofInt IntKind.i64.bits 7)).toNat=m / 8*8:=by
  rw[BitVec.toNat_and,Pm h1,show(~~~(BitVec.ofInt IntKind.i64.bits 7)).toNat=18446744073709551608 by decide,h3]
 simp only[execOp,eqGuard_andNot,binOp_andNot,intBits_andNot,hρ _ _ hx,hρ _ _ hy,pure_bind,Sem.run_pure,bits,h6]
 rw[wrap_i64 ⟨by omega,by omega⟩]
theorem zi9 {r v q:Nat}(hr:r<=63)(hv:v<2^r)(hq:2^r=q)(hx:look e x=some (.int .u64 ((q+v:Nat):Int)))(hy:look e y=some (.int .u64 (q:Int))):Y P e ⟨d,.binOp .andNot t x y t',ty,pos,aft,g⟩ (.int .u64 (v:Int)) w w:=fun ρ hρ=>by
 subst hq
 have hp:2^r<=2^63:=Nat.pow_le_pow_right (by decide) hr
 have sM:2^64=2^r*2^(64-r):=by rw[<-Nat.pow_add,show r+(64-r)=64 by omega]
 have h2:2^(64-r)=2*2^(63-r):=by rw[<-Nat.pow_succ',show 64-r=(63-r)+1 by omega]
 have pT:0<2^(63-r):=Nat.two_pow_pos _
 have h1:2^r+v<2^IntKind.u64.bits:=by simp only[IntKind.bits];omega
 have h3:2^r<2^IntKind.u64.bits:=by simp only[IntKind.bits];omega
 have h4:(2^r+v)&&&(2^64-1-2^r)=v:=by
  have h5:=Tl (s:=r) (a:=1) (b:=v) (c:=2^(64-r)-2) (d:=2^r-1) hv (by have:=Nat.two_pow_pos r;omega);rw[Nat.mul_one,Nat.and_two_pow_sub_one_eq_mod,Nat.mod_eq_of_lt hv,Nat.one_and_eq_mod_two,h2,show(2*2^(63-r)-2)%2=0 by omega,Nat.mul_zero,Nat.add_zero] at h5
  have h6:2^r-1+2^r*(2*2^(63-r)-2)=2^64-1-2^r:=by
   rw[Nat.mul_sub,<-h2,<-sM];have:=Nat.two_pow_pos r;omega
  rw[h6,Nat.add_comm v] at h5;exact h5
 have h6:(BitVec.ofInt IntKind.u64.bits ((2^r+v:Nat):Int)&&&~~~(BitVec.ofInt IntKind.u64.bits ((2^r:Nat):Int))).toNat=v:=by
  rw[BitVec.toNat_and,BitVec.toNat_not,Pm h1,Pm h3];exact h4
 simp only[execOp,eqGuard_andNot,binOp_andNot,intBits_andNot,hρ _ _ hx,hρ _ _ hy,pure_bind,Sem.run_pure,bits,h6]
 rw[Yu (k:= .u64) O (by simp only[IntKind.bits];omega)]
end
structure Src (t:TypeId)(u:Value)(T:NH) where
 inv:(Nat->Prop)->World->Prop
 fl:FuncId
 fr:FuncId
 cl:CF prog fl
 cr:CF prog fr
 ml:methT prog t "Length"=some fl
 mr:methT prog t "ReadAt"=some fr
 ext:∀{X Y:Nat->Prop} {w w':World},inv X w->Ext w w'->(∀k,Y k->X k\/w.heap.size<=k)->inv Y w'
 step:∀{X Y S:Nat->Prop} {w w':World},inv X w->Kp S w w'->(∀k,S k->X k)->(∀k,Y k->X k\/w.heap.size<=k)->inv Y w'
 len:∀{X:Nat->Prop} {w:World},inv X w->Oa prog fl [u] w λv w'=>v=I (T.length:Int)/\Ext w w'
 rd:∀{X:Nat->Prop} {w:World} (off n:Nat),inv X w->(∀k,X k->k<w.heap.size)->off+n<=T.length->Oa prog fr [u,I (off:Int),I (n:Int)] w λv w'=>v= .tuple #[S ((T.drop off).take n),I 0]/\inv X w'/\Kp (λk=>¬X k) w w'
theorem Src.own {t:TypeId}{u:Value}{T:NH}(R:Src t u T){X S:Nat->Prop}{w w':World}(h:R.inv X w)(hk:Kp S w w')(hS:∀k,S k->X k):R.inv X w':=R.step h hk hS λ_ e=> .inl e
theorem Sy {s:NH}{i:Nat}{c:UInt8}(h:s[i]? =some c):Ol (O0 (s.take (i+1)))=Ol (O0 (s.take i))*256+c.toNat:=by
 rw[OB h,Xf,Qw,show O0 [c]=O7 8 c.toNat by simp[O0],OT,bitsN_length]
 have:=c.toNat_lt
 omega
theorem VM (s:NH)(hs:s.length<=8)(w:World):Oa prog 169 [S s] w λv w'=>v=NW (Ol (O0 s))/\Ext w w':=by
 refine Nu (e:=[(0,_)]) func169 O ntmps169 O O$ qN O$ NQ O$ qM O$ NF O$ py$ qN O$ Nz O$ NK O O (z8w U9 P8 U5 O) ?_
 rintro _ w1 ⟨b7,c7,rest,rfl,⟨kO,ad,aj⟩,AV⟩
 refine Q0 P8 O$ Nz O$ NB$ Nw$ Qb (α:=Nat) (0) (λi=>[(3,NW (Ol (O0 (s.take i)))),(7,.slice (some ⟨b7,0,none⟩) s.length c7),(8,I (s.length:Int)),(9,I (i:Int))]) (λi w'=>w'=w1/\i<=s.length) (λi=>s.length-i) ?hI ?hround
 case hI=>exact⟨rfl,Nat.zero_le _⟩
 case hround=>
  rintro i w2 ⟨rfl,hi⟩ ih
  try dsimp only
  refine qN O$ Pb O O$ NB$ py$ NN O (λh0=>?_)$ λh0=>?_
  ·obtain⟨c,hc⟩:∃c,s[i]? =some c:=⟨_,List.getElem?_eq_getElem (by omega)⟩;have dx:=c.toNat_lt;have fC:=Sy hc
   have aU:Ol (O0 (s.take i))<72057594037927936:=by
    have h1:=Pw (O0 (s.take i));rw[bitsT_length,List.length_take] at h1;have h2:2^(8*min i s.length)<=2^56:=Nat.pow_le_pow_right (by decide) (by omega);omega
   have aX:w2.cell? ⟨b7,0+i*1,none⟩=some (Rq c):=by
    rw[aj.cell,Nat.zero_add,Nat.mul_one,List.getElem?_append_left (by rw[List.length_map];omega),List.getElem?_map,hc];rfl
   refine An$ py$ Nw$ qN O$ qV (OH P8 VO O O (by omega))$ qV (Oi U5 O O aX) ?_
   generalize Ol (O0 (s.take i))=q at fC aU
   refine NF O$ NC O$ Nz O$ qV (PV 8 256 O O (by decide) O)$ Nz O$ qV ((z0x O U5 Qe (by decide)))$ qV (XZ O O (by omega) (by omega)) ?_
   have mM:(q*256%18446744073709551616 |||c.toNat)=Ol (O0 (s.take (i+1))):=by
    rw[fC,Nat.mod_eq_of_lt (by omega),Nat.mul_comm q];exact(Nat.two_pow_add_eq_or_of_lt (i:=8) dx q).symm
   rw[mM];refine NF O$ Ny$ NC O$ OI O O$ Nz O$ NB ?_;exact(ih (i+1) _ ⟨rfl,by omega⟩ (by omega)).qb
  ·have cu:i=s.length:=by omega
   subst cu;rw[List.take_length];refine NL O$ qN O$ Nz O$ NF O$ NA func169 O ?_;exact⟨_,rfl,rfl,ad⟩
section
variable {P:Program}{e:Env}{d:Option Nat}{ty t t':TypeId}{pos:String}{aft:Array Edge}{g:Option (Nat×Bool)}{x y:Operand}{w:World}
theorem zb3 {ms:Array (String×TypeId)}{tx:TypeId}{v:Value}(ht:P.underlying t=some (.interface ms)):(binOp .eql t (.iface tx v) .nilIface).run P w= .ok (.bool false) w:=by
 have h:P.methodsAt t=ms:=by unfold Program.methodsAt;rw[ht]
 exact run_eql_held_nil w t tx v (by rw[h];exact ht)
theorem zcm {ms:Array (String×TypeId)}{tx:TypeId}{v:Value}(ht:P.underlying t=some (.interface ms))(hx:look e x=some (.iface tx v))(hy:look e y=some .nilIface):Y P e ⟨d,.binOp .eql t x y t',ty,pos,aft,g⟩ (.bool false) w w:=fun ρ hρ=>by
 have hg:∀a b,(eqGuard .eql t a b (.iface tx v) .nilIface).run P w= .ok () w:=λa b=>rfl
 simp only[execOp,hρ _ _ hx,hρ _ _ hy,Sem.run_bind,hg,Result.andThen_ok,zb3 ht,Sem.run_pure]
theorem zhi {tx:TypeId}{v:Value}(hx:look e x=some (.iface tx v)):Y P e ⟨d,.nilCheck x,ty,pos,aft,g⟩ (.iface tx v) w w:=fun ρ hρ=>by simp[execOp,hρ _ _ hx]
end
structure TY (l:List Nat)(f:Fm)(z:Nat):Prop where
 n1:1<=l.length
 n2:l.length<=64
 nof:Nof l
 last:l[l.length-1]? =some z
 zb:z<=999999998
 fe:f=Sw l.length (z+1)
theorem TY.small {l:List Nat}{f:Fm}{z:Nat}(h:TY l f z):f.small:=by
 rw[h.fe]
 exact z2e h.n1 (by have:=h.n2;omega) (by omega) (by have:=h.zb;omega)
theorem TY.len {l:List Nat}{f:Fm}{z:Nat}(h:TY l f z):(WE l f).length=f.size:=by
 rw[h.fe]
 exact z3b h.n1 h.n2 h.nof h.last
theorem TY.n {l:List Nat}{f:Fm}{z:Nat}(h:TY l f z):f.n=l.length:=by rw[h.fe];rfl
theorem TY.u {l:List Nat}{f:Fm}{z:Nat}(h:TY l f z):f.u=z+1:=by rw[h.fe];rfl
theorem TY.size_le {l:List Nat}{f:Fm}{z:Nat}(h:TY l f z):f.size<=40000000/\12<=f.size:=by
 have h1:=h.small
 have h2:=Fm.Vl h1
 obtain⟨h3,h4,h5⟩:=h1
 unfold Fm.size Fm.Tq
 have:12<=f.high:=by unfold Fm.high;omega
 omega
theorem piece {A B C:NH}{off n o:Nat}(h:off=A.length+o)(hn:o+n<=B.length):((A++B++C).drop off).take n=(B.drop o).take n:=by
 rw[h,List.append_assoc,List.drop_length_add_append,List.drop_append_of_le_length (by omega),List.take_append_of_le_length (by rw[List.length_drop];omega)]
def RE (f:Fm):List Bool:=O7 32 f.n++O7 64 f.u
theorem z1g (f:Fm):O0 (Oc (RE f))=RE f:=by
 obtain⟨z,h1,h2,h3⟩:=QV (RE f)
 have hl:(RE f).length=96:=by simp[RE]
 have hz:z=0:=by omega
 rw[h1,hz,List.replicate_zero,List.append_nil]
theorem To (f:Fm):(Oc (RE f)).length=12:=by
 rw[Ot];simp[RE]
theorem zeb (f:Fm)(hn:f.n<4294967296):Ol (O0 ((Oc (RE f)).take 4))=f.n:=by
 rw[Tc,z1g]
 unfold RE
 rw[List.take_left' (by simp),OT]
 exact Nat.mod_eq_of_lt hn
theorem zdE (f:Fm)(hu:f.u<18446744073709551616):Ol (O0 ((Oc (RE f)).drop 4))=f.u:=by
 rw[Si,z1g]
 unfold RE
 rw[List.drop_left' (by simp),OT]
 exact Nat.mod_eq_of_lt hu
theorem zau (l:List Nat)(f:Fm):((WE l f).drop 0).take 12=Oc (RE f):=by
 have h:=piece (A:=[]) (B:=Oc (RE f)) (C:=Oc (R1 f.width l)++(Oc (hiB f.width 0 0 l)++Oc (QJ f.width l))) (off:=0) (n:=12) (o:=0) O (by rw[To];omega)
 rw[List.nil_append] at h
 unfold WE
 rw[List.append_assoc,List.append_assoc]
 refine h.trans ?_
 rw[List.drop_zero,List.take_of_length_le (by rw[To];omega)]
def elC (f:Fm)(t:TypeId)(u:Value):List Value:=[I (f.n:Int),NW f.u,I (f.width:Int),I (f.bits:Int),.iface t u]
theorem z5q {t:TypeId}{u:Value}{l:List Nat}{f:Fm}{z:Nat}(he:TY l f z)(R:Src t u (WE l f)){X:Nat->Prop}{w:World}(hI:R.inv X w)(hX:∀k,X k->k<w.heap.size):
  Oa prog 134 [.iface t u] w λv w'=>∃x,v= .tuple #[ptr x 0,I 0]/\NM w' x (elC f t u) 294/\w.heap.size<=x/\R.inv (λk=>X k\/k=x) w'/\Kp (λk=>¬X k) w w':=by
 obtain⟨eg,dc⟩:=he.size_le
 have aA:=he.len
 have qd:=he.n
 have B0:=he.u
 have jF:=he.n2
 have cY:=he.n1
 have wH:=he.zb
 refine Nu (e:=[(0,_)]) func134 O ntmps134 O O$ qN O$ NQ O$ NF O$ py$ Nw$ qN O$ Nz O$ qV (zcm z5b O O)$ NF O$ It O$ qN O$ Nz O$ Pv O O (yci R.cl R.ml O O) (R.len hI) ?_
 rintro _ w1 ⟨rfl,ad⟩
 rw[aA]
 have mx:=R.ext hI ad (λk hk=> .inl hk)
 have lw:∀k,X k->k<w1.heap.size:=λk hk=>by have:=hX k hk;have:=ad.size;omega
 refine Pb O O$ Ox$ NF O$ It O$ An$ Ny$ qN O$ Nz O$ Pv O O (yci R.cr R.mr O O) (R.rd 0 12 mx lw (by rw[aA];omega)) ?_
 rintro _ w2 ⟨rfl,cR,aq⟩
 rw[zau]
 have dK:Kp (λk=>¬X k) w w2:=ad.kp.trans aq
 have gS:∀k,X k->k<w2.heap.size:=λk hk=>by have:=lw k hk;have:=aq.size;omega
 have pz:=To f
 have tP:((Oc (RE f)).take 4).length<=8:=by rw[List.length_take];omega
 have lM:((Oc (RE f)).drop 4).length<=8:=by rw[List.length_drop];omega
 have B3:=zeb f (by omega)
 have Hp:=zdE f (by omega)
 generalize Oc (RE f)=hb at pz tP lM B3 Hp
 have aa:=Ext.NY w2
 refine Nz O$ ON O O$ ON O O$ NQ O$ NF O$ py$ qN O$ Nz O$ P3 O O$ NB$ It O$ An$ py$ PK (λw'=>Ext w2 w') O ?_
 refine NX 0 O O (aa)$ NG 1 O (YA U9 O O (by omega)) aa$ NX 3 O O (aa)$ NG 4 O (UQ U9 O O (by omega)) aa$ Qv 2 O z5T O (VM (hb.take 4) tP _) ?_
 rintro _ w3 ⟨rfl,ah⟩
 refine⟨aa.trans ah,?_⟩
 refine Qv 5 O z5T O (VM (hb.drop 4) lM _) ?_
 rintro _ w4 ⟨rfl,aB⟩
 refine⟨(aa.trans ah).trans aB,?_⟩
 have cU:=(aa.trans ah).trans aB
 rw[B3,Hp]
 have ky:=R.ext cR cU (λk hk=> .inl hk)
 refine NG 6 O (PO O) ((aa.trans ah).trans aB)$ NG 7 O (PO O) ((aa.trans ah).trans aB)$ qE$ Of.qb (e:=[(0,_),(2,_),(3,_),(6,_),(7,_)]) ?_
 refine py$ qN O$ Nz O$ P9 O O$ Ox$ NT O O$ P9 O O$ Ox$ OC O O$ NT O O$ Px O O$ Ox$ Nz O$ Px O O ?_
 refine Ox$ qV (zc9 O O U4)$ OC O O$ NB$ It O$ An$ qN O$ Nz O$ qV (Ow O Qe U3 (by omega))$ Nz O ?_
 have JW:Sw f.n f.u=f:=by rw[qd,B0];exact he.fe.symm
 have iZ:=Wr f.n f.u (by omega) (by omega) (by omega) (by omega) w4
 rw[JW] at iZ
 refine NZ zat O (iZ) ?_
 rintro _ w5 ⟨rfl,aT⟩
 refine NK O O (Qk (cs:=[_,_,_,_]) S2 O) ?_
 rintro _ w6 ⟨b8,rfl,jE,aK,ck⟩
 refine NP O (OA (news:=fmC f) S2 O O O O ck (by simp)) ?_
 rintro w7 ⟨qA,ax⟩
 replace qA:NM w7 b8 (fmC f) 238:=qA
 have qt:Ext w5 w7:=aK.Nv ax (λi e=>by omega)
 have y8:=aT.trans qt
 have jJ:=R.ext ky y8 (λk hk=> .inl hk)
 refine NB$ py$ qN O$ qV (Oh (news:=fmC f) z3O O S2 O (qA.cells (n:=4) O) O)$ NZ zcd O (z0Y f he.small _) ?_
 rintro _ w8 ⟨rfl,dC⟩
 have Du:=R.ext jJ dC (λk hk=> .inl hk)
 refine Nz O$ Pv O O (yci R.cl R.ml O O) (R.len Du) ?_
 rintro _ w9 ⟨rfl,dE⟩
 rw[aA]
 have jK:=R.ext Du dE (λk hk=> .inl hk)
 have gz:=dC.trans dE
 have y9:=(cU.trans y8).trans gz
 refine P3 O O$ Ox$ NB$ Of.qb (e:=[(0,_),(2,_),(3,_),(8,_),(51,_)]) ?_
 refine It O$ An$ qN O$ qV (Oh (news:=fmC f) z3O O S2 O ((gz.ND qA).cells (n:=4) O) O)$ Nz O$ qV (QP (cs:=[_,_,_,_,_]) zfo O zeI O O)$ NK O O (PW O (cs:=elC f t u) O) ?_
 rintro _ w10 ⟨x,rfl,hx,bE,dD⟩
 refine NQ O$ NF O$ NA func134 O ?_
 exact⟨_,rfl,x,rfl,dD,by have:=dK.size;have:=y9.size;omega,R.ext jK bE (λk hk=>hk.imp id λe=>by omega),dK.trans (y9.trans bE).kp⟩
theorem z71 {t:TypeId}{u:Value}{f:Fm}{x:Nat}{w:World}(hB:NM w x (elC f t u) 294):Oa prog 135 [ptr x 0] w λv w'=>v=I (f.n:Int)/\w'=w:=by
 replace hB:NM w x [I (f.n:Int),NW f.u,I (f.width:Int),I (f.bits:Int),.iface t u] 294:=hB
 refine Nu (e:=[(0,_)]) func135 O ntmps135 O O$ qN O$ NF O$ py$ qN O$ Nz O$ qV (OP z2b O O)$ NB$ It O$ An$ qN O$ Nz O$ O8 O$ NO R0 O ?_
 refine NO Xd O$ qV (NJ U3 O O hB O)$ NF O$ NA func135 O ?_
 exact⟨_,rfl,rfl,rfl⟩
theorem z95 (k:Nat)(a b:List Nat):R1 k (a++b)=R1 k a++R1 k b:=by simp[R1]
theorem zba {k i v:Nat}{l:List Nat}(h:l[i]? =some v)(rest:List Bool):((R1 k l++rest).drop (i*k)).take k=O7 k (v%2^k):=by
 have hi:=(List.getElem?_eq_some_iff.1 h).1
 have e:l=l.take i++(v::l.drop (i+1)):=by
  conv=>lhs;rw[<-List.take_append_drop i l]
  congr 1
  rw[List.drop_eq_getElem_cons hi,(List.getElem?_eq_some_iff.1 h).2]
 have hl:(R1 k (l.take i)).length=i*k:=by rw[Tn,List.length_take,Nat.min_eq_left (by omega)]
 rw[e,z95,List.append_assoc,List.drop_left' hl]
 show((O7 k (v%2^k)++R1 k (l.drop (i+1)))++rest).take k=_
 rw[List.append_assoc,List.take_left' (by simp)]
theorem z0A {B:NH}{o n a m:Nat}(h:a+m<=8*n):((O0 ((B.drop o).take n)).drop a).take m=((O0 B).drop (8*o+a)).take m:=by
 rw[Tc,Si,List.drop_take,List.drop_drop,List.take_take,Nat.min_eq_left (by omega)]
theorem zaQ (l:List Nat)(f:Fm){o n:Nat}(h:o+n<=(Oc (R1 f.width l)).length):((WE l f).drop (12+o)).take n=((Oc (R1 f.width l)).drop o).take n:=by
 unfold WE
 rw[List.append_assoc (Oc (O7 32 f.n++O7 64 f.u)++Oc (R1 f.width l))]
 exact piece (by rw[show Oc (O7 32 f.n++O7 64 f.u)=Oc (RE f) from rfl,To]) h
theorem z6R {t:TypeId}{u:Value}{l:List Nat}{f:Fm}{z:Nat}(he:TY l f z)(R:Src t u (WE l f)){X:Nat->Prop}{w:World}(hI:R.inv X w)(hX:∀k,X k->k<w.heap.size){x:Nat}(hx:X x)(hB:NM w x (elC f t u) 294){i v:Nat}(hv:l[i]? =some v):
  Oa prog 182 [ptr x 0,I (i:Int)] w λr w'=>r= .tuple #[NW (v%2^f.width),I 0]/\R.inv X w'/\Kp (λk=>¬X k) w w':=by
 have cu:=(List.getElem?_eq_some_iff.1 hv).1
 have aA:=he.len
 obtain⟨xc,ya⟩:=he.size_le
 have jF:=he.n2
 have vP:f.width<=30:=by rw[he.fe];exact Yl (by have:=he.zb;omega)
 replace hB:NM w x [I (f.n:Int),NW f.u,I (f.width:Int),I (f.bits:Int),.iface t u] 294:=hB
 refine Nu (e:=[(0,_),(1,_)]) func182 O ntmps182 O O$ qN O$ NQ O$ NF O$ py$ qN O$ Nz O$ O8 O$ NO R0 O$ NO RR O$ qV (NJ U3 O O hB O)$ Px O O$ NB$ NN O (λh0=>?_)$ λh0=>?_
 ·have nA:f.width=0:=by omega
  refine qN O$ NQ O$ NF O$ NA func182 O (⟨_,rfl,?_,hI,Kp.refl _ _⟩);rw[nA,Nat.pow_zero,Nat.mod_one]
  rfl
 ·have H2:1<=f.width:=by omega
  have JX:i*f.width<=64*30:=Nat.mul_le_mul (by omega) vP;have Hq:(i+1)*f.width=i*f.width+f.width:=by rw[Nat.add_mul,Nat.one_mul]
  have eJ:(i+1)*f.width<=l.length*f.width:=Nat.mul_le_mul_right _ cu;have e1:((i*f.width:Nat):Int)=(i:Int)*(f.width:Int):=Int.natCast_mul _ _;have e2:(((i+1)*f.width:Nat):Int)=((i:Int)+1)*(f.width:Int):=Int.natCast_mul _ _;have hg:=Ext.NY w;refine An$ py$ PK (λw'=>Ext w w') O$ NX 0 O O (hg)$ NX 1 O O (hg)$ NG 2 O (OQ O) hg$ NG 3 O (Og R0 O) hg$ NG 4 O (Og RR O) hg$ qT 5 O (λ_ h=>NJ U3 O O (h.ND hB) O) hg$ NX 7 O O (hg)$ NG 8 O (SX O O (by omega)) hg$ NX 9 O O (hg)$ NG 10 O (OQ O) hg$ NG 11 O (Og R0 O) hg ?_;refine NG 12 O (Og RR O) hg$ qT 13 O (λ_ h=>NJ U3 O O (h.ND hB) O) hg$ NG 6 O (TT O O (by rw[<-e1];omega)) hg ?_;rw[<-e1];refine NG 15 O (PO O) hg$ NG 14 O (TT O O (by rw[<-e2];omega)) hg ?_;rw[<-e2,Hq];refine NG 16 O (PO O) hg$ qE$ Of.qb (e:=[(0,_),(4,_),(5,_),(6,_),(7,_)]) ?_;refine qN O$ Nz O$ O8 O$ NO z27 O$ qV (NJ z5b O O hB O)$ Nz O$ qV (Vu O O (by omega))$ OI O O$ Nz O$ OI O O$ qV (Vu O O (by omega))$ Nz O$ qV (Vu O O (by omega))$ Qc O O ?_;have yb:=hg.ND hB;have JY:=R.ext hI hg (λk hk=> .inl hk);have JZ:∀k,X k->k<w.drew.heap.size:=λk hk=>by have:=hX k hk;have:=hg.size;omega
  have Dv:(Oc (R1 f.width l)).length=(l.length*f.width+7) / 8:=by rw[Ot,Tn]
  have Dw:=zba (k:=f.width) hv;have pU:∀rest,((R1 f.width l++rest).drop (i*f.width)).take f.width=O7 f.width (v%2^f.width):=Dw;rw[Hq] at eJ
  generalize i*f.width=fr at JX eJ pU e1
  rw[show(12:Int)+(fr:Int) / 8=((12+fr / 8:Nat):Int) by omega,show((fr+f.width:Nat):Int)+7=((fr+f.width+7:Nat):Int) by omega,show((fr+f.width+7:Nat):Int) / 8-(fr:Int) / 8=(((fr+f.width+7) / 8-fr / 8:Nat):Int) by omega];have u3:fr / 8+((fr+f.width+7) / 8-fr / 8)<=(Oc (R1 f.width l)).length:=by rw[Dv];omega
  have jD:=zaQ l f u3
  have u5:12+fr / 8+((fr+f.width+7) / 8-fr / 8)<=(WE l f).length:=by
   have e:(WE l f).length=12+(Oc (R1 f.width l)).length+(Oc (hiB f.width 0 0 l)).length+(Oc (QJ f.width l)).length:=by
    unfold WE;rw[List.length_append,List.length_append,List.length_append,show Oc (O7 32 f.n++O7 64 f.u)=Oc (RE f) from rfl,To]
   omega
  refine Pv O O (yci R.cr R.mr O O) (R.rd (12+fr / 8) ((fr+f.width+7) / 8-fr / 8) JY JZ u5) ?_;rintro _ w1 ⟨rfl,mx,aM⟩;rw[jD];have iM:Kp (λk=>¬X k) w w1:=hg.kp.trans aM;have aj:=iM.ND hB (λe=>e hx)
  have et:(((Oc (R1 f.width l)).drop (fr / 8)).take ((fr+f.width+7) / 8-fr / 8)).length=(fr+f.width+7) / 8-fr / 8:=by
   rw[List.length_take,List.length_drop];omega
  obtain⟨zz,mK,-,-⟩:=QV (R1 f.width l);have c6:=z0A (B:=Oc (R1 f.width l)) (o:=fr / 8) (n:=(fr+f.width+7) / 8-fr / 8) (a:=fr%8) (m:=f.width) (by omega);rw[show 8*(fr / 8)+fr%8=fr by omega,mK,pU] at c6
  generalize ((Oc (R1 f.width l)).drop (fr / 8)).take ((fr+f.width+7) / 8-fr / 8)=pt at et c6
  refine Nz O$ ON O O$ ON O O$ NQ O$ NF O$ py$ qN O$ Nz O$ P3 O O$ NB$ Of.qb (e:=[(0,_),(4,_),(5,_),(6,_),(8,_),(9,_),(52,_)]) ?_;refine It O$ An$ qN O$ Nz O$ NZ z63 O (VG pt (by omega) w1) ?_;rintro _ w2 ⟨r,rfl,cA,ag,dV⟩;refine NQ O$ qM O$ NT O O$ qV (W8 O O (by omega) (by omega)) ?_;rw[show fr&&&7=fr%8 from Nat.and_two_pow_sub_one_eq_mod fr 3];refine NZ zaG O (Ya cA (fr%8) (by omega)) ?_;rintro _ w3 ⟨rfl,jO,aw⟩;have aO:Ext w1 w3:=ag.Nv aw (λi e=>by omega);have ar:=aO.ND aj;refine qM O$ NT O O$ O8 O$ NO R0 O$ NO RR O$ qV (NJ U3 O O ar O)$ NZ z2q O (TS jO f.width (by omega)) ?_;rintro v4 w4 nx
  have fT:v4= .tuple #[NW (v%2^f.width),I 0]/\Kp (λk=>k=r) w3 w4:=by
   rcases nx with⟨-,e,-,hk⟩|⟨e,-,-⟩
   ·rw[c6,OT,Nat.mod_mod] at e;exact⟨e,hk⟩
   ·omega
  obtain⟨rfl,ao⟩:=fT;have cE:Ext w1 w4:=aO.Nv ao (λi e=>by omega);refine Nz O$ ON O O$ ON O O$ NQ O$ NF O$ Of.qb (e:=[(4,_),(5,_),(11,_)]) ?_;refine qN O$ Nz O$ NQ O$ NF O$ NA func182 O ?_;exact⟨_,rfl,rfl,R.ext mx cE (λk hk=> .inl hk),iM.trans cE.kp⟩
theorem z0e (n:Nat):Ol (List.replicate n false)=0:=by
 rw[<-Ul,OT];simp
theorem z3B (b:List Bool)(k:Nat):Ol (b++List.replicate k false)=Ol b*2^k:=by
 rw[Qw,z0e,List.length_replicate,Nat.add_zero]
theorem z0J (b:List Bool)(k:Nat):Ol (List.replicate k false++b)=Ol b:=by
 rw[Qw,z0e];simp
theorem z05 {D:List Bool}{a b m:Nat}(ha:m<=D.length+a)(hb:m<=D.length+b):(D++List.replicate a false).take m=(D++List.replicate b false).take m:=by
 rw[List.take_append,List.take_append,List.take_replicate,List.take_replicate,Nat.min_eq_left (by omega),Nat.min_eq_left (by omega)]
def wdB (H:List Bool)(a:Nat):List Bool:=List.replicate (a%8) false++(H.drop a++List.replicate 64 false).take (64-a%8)
theorem z5X (H:List Bool)(a:Nat):(wdB H a).length=64:=by
 unfold wdB
 rw[List.length_append,List.length_replicate,List.length_take,List.length_append,List.length_replicate]
 omega
theorem z8r {H:List Bool}{fq n:Nat}(hf:8*fq<H.length)(hn:n=min 8 ((H.length+7) / 8-fq)):
  O0 (((Oc H).drop fq).take n)++List.replicate (64-8*n) false=(H.drop (8*fq)++List.replicate 64 false).take 64:=by
 obtain⟨z,h1,h2,h3⟩:=QV H
 rw[Tc,Si,h1,List.drop_append_of_le_length (by omega)]
 have hD:(H.drop (8*fq)).length=H.length-8*fq:=List.length_drop
 generalize H.drop (8*fq)=D at hD
 rcases Nat.lt_or_ge n 8 with h| h
 ·have e:8*n=D.length+z:=by omega
  rw[List.take_of_length_le (by rw[List.length_append,List.length_replicate];omega),List.append_assoc,List.replicate_append_replicate];rw[z05 (a:=64) (b:=z+(64-8*n)) (by omega) (by omega),List.take_of_length_le (by rw[List.length_append,List.length_replicate];omega)]
 ·have e:n=8:=by omega
  subst e;rw[show 64-8*8=0 from rfl,List.replicate_zero,List.append_nil];exact z05 (by omega) (by omega)
theorem z7x {W:List Bool}(hW:W.length=64){d:Nat}(hd:d<=64):Ol W%2^(64-d)=Ol (List.replicate d false++W.drop d):=by
 have h1:=Qw (W.take d) (W.drop d)
 rw[List.take_append_drop,List.length_drop,hW] at h1
 have h2:=Pw (W.drop d)
 rw[List.length_drop,hW] at h2
 rw[z0J,h1,Nat.add_comm,Nat.add_mul_mod_self_right,Nat.mod_eq_of_lt h2]
theorem z82 {H:List Bool}{a:Nat}(ha:a<H.length):List.replicate (a%8) false++((H.drop (8*(a / 8))++List.replicate 64 false).take 64).drop (a%8)=wdB H a:=by
 unfold wdB
 congr 1
 have hd:a%8<=(H.drop (8*(a / 8))).length:=by rw[List.length_drop];omega
 rw[List.drop_take,List.drop_append_of_le_length hd,List.drop_drop,show 8*(a / 8)+a%8=a by omega]
theorem zal {H:List Bool}{a r:Nat}(ha:a<H.length)(hr:a / 8*8+64=H.length+r):∃q,Ol (wdB H a)=q*2^r:=by
 have hD:(H.drop a).length=H.length-a:=List.length_drop
 refine⟨Ol (List.replicate (a%8) false++H.drop a),?_⟩
 rw[<-z3B]
 congr 1
 unfold wdB
 rw[List.append_assoc,z05 (a:=64) (b:=r) (by omega) (by omega),List.take_of_length_le (by rw[List.length_append,List.length_replicate];omega)]
theorem z7X {d:Nat}(hd:d<=64):18446744073709551615 / 2^d=2^(64-d)-1:=by
 have hp:0<2^d:=Nat.two_pow_pos d
 have h1:2^64=2^d*2^(64-d):=by rw[<-Nat.pow_add,show d+(64-d)=64 by omega]
 have h2:0<2^(64-d):=Nat.two_pow_pos _
 have h3:18446744073709551615=(2^d-1)+2^d*(2^(64-d)-1):=by
  rw[Nat.mul_sub,<-h1,Nat.mul_one];have h4:2^d<=2^64:=Nat.pow_le_pow_right (by decide) hd;omega
 rw[h3,Nat.add_mul_div_left _ _ hp,Nat.div_eq_of_lt (by omega),Nat.zero_add]
theorem z66 {b:List Bool}(h:b.length=64):Ol b<18446744073709551616:=by
 have:=Pw b
 rw[h] at this
 exact this
theorem zdH (l:List Nat)(f:Fm)(hf:f.high=12+(Oc (R1 f.width l)).length){o n:Nat}(h:o+n<=(Oc (hiB f.width 0 0 l)).length):((WE l f).drop (f.high+o)).take n=((Oc (hiB f.width 0 0 l)).drop o).take n:=by
 unfold WE
 exact piece (by rw[List.length_append,show Oc (O7 32 f.n++O7 64 f.u)=Oc (RE f) from rfl,To,hf]) h
theorem TY.high {l:List Nat}{f:Fm}{z:Nat}(he:TY l f z):f.high=12+(Oc (R1 f.width l)).length:=by
 unfold Fm.high
 rw[Ot,Tn,he.n]
theorem TY.bits {l:List Nat}{f:Fm}{z:Nat}(he:TY l f z):f.bits=(hiB f.width 0 0 l).length:=by
 rw[z0a f.width he.nof he.last]
 rw[he.fe]
 show(z+1-1) / _+_=_
 rw[Nat.add_sub_cancel]
 rfl
theorem z4E {t:TypeId}{u:Value}{l:List Nat}{f:Fm}{z:Nat}(he:TY l f z)(R:Src t u (WE l f)){X:Nat->Prop}{w:World}(hI:R.inv X w)(hX:∀k,X k->k<w.heap.size){x b3 b8 v0:Nat}(hx:X x)(h3:X b3)(h8:X b8)(sK:b8≠x/\b8≠b3)(hB:NM w x (elC f t u) 294)(ar:NM w b3 [ptr x 0] 152)(ck:NM w b8 [NW v0] 41){a:Nat}(ha:a<f.bits):
  Oa prog 212 [I (a:Int),ptr b3 0,ptr b8 0] w λr w'=>r=I 0/\R.inv X w'/\Kp (λk=>¬X k\/k=b8) w w'/\NM w' b8 [NW (Ol (wdB (hiB f.width 0 0 l) a))] 41:=by
 have aA:=he.len
 obtain⟨xc,ya⟩:=he.size_le
 have u7:=he.small
 have pz:=Fm.Vl u7
 have fL:=u7.2.2
 have c6:=he.bits
 have yd:=he.high
 have et:(Oc (hiB f.width 0 0 l)).length=(f.bits+7) / 8:=by rw[Ot,c6]
 replace hB:NM w x [I (f.n:Int),NW f.u,I (f.width:Int),I (f.bits:Int),.iface t u] 294:=hB
 refine Nu (e:=[(0,_),(1,_),(2,_)]) func212 O ntmps212 O O$ qN O$ NQ O$ qM O$ Nz O$ qV (zdz O O (by omega))$ NQ O$ qM O$ qV ((NJ z2b O O ar O))$ O8 O$ NO R0 O$ NO X8 O$ qV ((NJ U3 O O hB O))$ OI O O ?_
 refine qV (Vu O O (by omega))$ Nz O$ qV (Vu O O (by omega))$ Qc O O ?_
 rw[show((f.bits:Int)+7) / 8-((a / 8*8:Nat):Int) / 8=(((f.bits+7) / 8-a / 8:Nat):Int) by omega]
 refine qV (ymi O O) ?_
 rw[show min (8:Int) (((f.bits+7) / 8-a / 8:Nat):Int)=((min 8 ((f.bits+7) / 8-a / 8):Nat):Int) by omega]
 obtain⟨n,hn⟩:∃n,n=min 8 ((f.bits+7) / 8-a / 8):=⟨_,rfl⟩
 rw[<-hn]
 have hg:=Ext.NY w
 refine NF O$ py$ PK (λw'=>Kp (λk=>¬X k) w w') O$ qT 0 O (λ_ hS=>(NJ z2b O O (hS.ND ar (λe=>e h3)) O)) (hg.kp)$ NG 1 O (OQ O) (hg.kp)$ NG 2 O (Og z27 O) (hg.kp)$ qT 3 O (λ_ hS=>(NJ z5b O O (hS.ND hB (λe=>e hx)) O)) (hg.kp)$ qT 4 O (λ_ hS=>(NJ z2b O O (hS.ND ar (λe=>e h3)) O)) (hg.kp)$ NG 5 O (OQ O) (hg.kp)$ NG 6 O (Og R0 O) (hg.kp)$ NX 9 O O (hg.kp)$ NG 10 O (Vu O O (by omega)) (hg.kp)$ NX 12 O O (hg.kp)$ qT 7 O (λ_ hS=>Oh (news:=fmC f) z3O O S2 O ((hS.ND hB (λe=>e hx)).cells (n:=4) O) O) (hg.kp) ?_
 refine NG 13 O (zhi O) (hg.kp)$ NX 14 O O (hg.kp)$ Qv 8 O zcR O (z2N f u7 _) ?_
 rintro _ w1 ⟨rfl,ad⟩
 refine⟨(hg.trans ad).kp,?_⟩
 have cd:=hg.trans ad
 refine NG 11 O (SX O O (by omega)) ((hg.trans ad).kp) ?_
 rw[show(f.high:Int)+((a / 8*8:Nat):Int) / 8=((f.high+a / 8:Nat):Int) by omega]
 have mx:=R.ext hI cd (λk hk=> .inl hk)
 have lw:∀k,X k->k<w1.heap.size:=λk hk=>by have:=hX k hk;have:=cd.size;omega
 have u3:a / 8+n<=(Oc (hiB f.width 0 0 l)).length:=by rw[et];omega
 have u5:f.high+a / 8+n<=(WE l f).length:=by
  rw[aA];have e:f.size=f.Tq+4*((f.n+63) / 64):=rfl;have e2:f.Tq=f.high+(f.bits+7) / 8:=rfl;omega
 have jD:=zdH l f yd u3
 have o8:=z8r (H:=hiB f.width 0 0 l) (fq:=a / 8) (n:=n) (by omega) (by rw[<-c6];exact hn)
 refine qO 15$ UO (i:=15) O O O (yci R.cr R.mr O O) (R.rd (f.high+a / 8) n mx lw u5) ?_
 rintro _ w2 ⟨rfl,cR,aq⟩
 refine⟨cd.kp.trans aq,?_⟩
 rw[jD]
 have dK:Kp (λk=>¬X k) w w2:=cd.kp.trans aq
 have am:=dK.ND hB (λe=>e hx)
 have da:=dK.ND ar (λe=>e h3)
 have tN:=dK.ND ck (λe=>e h8)
 have Dx:(((Oc (hiB f.width 0 0 l)).drop (a / 8)).take n).length=n:=by rw[List.length_take,List.length_drop];omega
 generalize ((Oc (hiB f.width 0 0 l)).drop (a / 8)).take n=pt at o8 Dx
 refine NX 16 O O (cd.kp.trans aq)$ NG 17 O (Q8 O O) (cd.kp.trans aq)$ NG 18 O (Q8 O O) (cd.kp.trans aq)$ NG 19 O (PO O) (cd.kp.trans aq)$ NG 20 O (PO O) (cd.kp.trans aq)$ qE$ Of.qb (e:=[(0,_),(1,_),(2,_),(4,_),(5,_),(6,_),(7,_),(8,_)]) ?_
 refine qN O$ Nz O$ NZ z5T O (VM pt (by omega) w2) ?_
 rintro _ w3 ⟨rfl,ah⟩
 refine Nz O$ qV (TT O O (by omega))$ Qc O O ?_
 rw[show(64:Int)-8*(n:Int)=((64-8*n:Nat):Int) by omega]
 refine qV (PV (64-8*n) (2^(64-8*n)) O O (by omega) O) ?_
 have Dy:=z3B (O0 pt) (64-8*n)
 rw[o8] at Dy
 have K0:((hiB f.width 0 0 l).drop (8*(a / 8))++List.replicate 64 false).take 64=((hiB f.width 0 0 l).drop (8*(a / 8))++List.replicate 64 false).take 64:=rfl
 obtain⟨W0,ye⟩:∃W0,W0=((hiB f.width 0 0 l).drop (8*(a / 8))++List.replicate 64 false).take 64:=⟨_,rfl⟩
 have yf:W0.length=64:=by rw[ye,List.length_take,List.length_append,List.length_replicate];omega
 have Hr:=z82 (H:=hiB f.width 0 0 l) (a:=a) (by omega)
 rw[<-ye] at Dy Hr
 have eJ:=z7x yf (d:=a%8) (by omega)
 rw[Hr] at eJ
 have Dz:=z66 yf
 rw[<-Dy,Nat.mod_eq_of_lt Dz]
 refine NP O (PA Tr O O O (ah.ND tN) (by simp)) ?_
 rintro w4 ⟨eU,ao⟩
 replace eU:NM w4 b8 [NW (Ol W0)] 41:=eU
 have aH:=ao.ND (ah.ND am) (λe=>sK.1 e.symm)
 have eA:=ao.ND (ah.ND da) (λe=>sK.2 e.symm)
 have ky:=R.own (R.ext cR ah (λk hk=> .inl hk)) ao (λk e=>by rw[e];exact h8)
 have af:=Ext.NY w4
 refine NB$ py$ O3 [6] (λw'=>Ext w4 w') (by kernel_rfl) O$ qL [5,6] 0 O (λ_ h=>NJ Qe O O (h.ND eU) O) af$ qL [3,4,5,6] 1 O (λ_ h=>Oq O) af$ qL [3,4,5,6] 2 O (λ_ h=>Oq O) af$ qL [4,5,6] 3 O (λ_ h=>W5 O O (by omega)) af ?_
 rw[show(a:Int)-((a / 8*8:Nat):Int)=((a%8:Nat):Int) by omega]
 refine qL [5,6] 4 O (λ_ h=>RS (m:=18446744073709551615) (a%8) (2^(a%8)) O O (by show a%8<=64;omega) O) af ?_
 rw[z7X (d:=a%8) (by omega)]
 have K4:2^(64-a%8)<=2^64:=Nat.pow_le_pow_right (by decide) (by omega)
 refine qL [6] 5 O (λ_ h=>Td O O (by omega) (by omega)) af ?_
 rw[Nat.and_two_pow_sub_one_eq_mod,eJ]
 refine Rs [6]$ qO 6$ Ou (i:=6) O O (PA Tr O O O (af.ND eU) (by simp)) ?_
 rintro w5 ⟨bL,ai⟩
 refine⟨trivial,?_⟩
 replace bL:NM w5 b8 [NW (Ol (wdB (hiB f.width 0 0 l) a))] 41:=bL
 have aC:=ai.ND (af.ND aH) (λe=>sK.1 e.symm)
 have db:=ai.ND (af.ND eA) (λe=>sK.2 e.symm)
 have lU:=R.own (R.ext ky af (λk hk=> .inl hk)) ai (λk e=>by rw[e];exact h8)
 have bX:Kp (λk=>¬X k\/k=b8) w w5:=(((dK.NR λk e=> .inl e).trans ah.kp).trans (ao.NR λk e=> .inr e)).trans (af.kp.trans (ai.NR λk e=> .inr e))
 have DA:=z66 (z5X (hiB f.width 0 0 l) a)
 refine qE$ py$ qN O$ Nz O$ OI O O$ qV ((NJ z2b O O db O))$ O8 O$ NO R0 O$ NO X8 O$ qV ((NJ U3 O O aC O))$ Qc O O$ NF O$ Of.qb (e:=[(2,_),(4,_),(8,_),(9,_)]) ?_
 refine qN O$ Nz O$ P9 O O$ NB$ NN O (λh0=>?_)$ λh0=>?_
 ·obtain⟨r,hr⟩:∃r,a / 8*8+64=f.bits+r:=⟨a / 8*8+64-f.bits,by omega⟩;obtain⟨q,hq⟩:=zal (H:=hiB f.width 0 0 l) (a:=a) (r:=r) (by omega) (by omega);rw[show((a / 8*8:Nat):Int)+64-(f.bits:Int)=(r:Int) by omega];have hp:=Nat.two_pow_pos r
  have yg:Ol (wdB (hiB f.width 0 0 l) a) / 2^r*2^r%18446744073709551616=Ol (wdB (hiB f.width 0 0 l) a):=by
   rw[Nat.mod_eq_of_lt (Nat.lt_of_le_of_lt (Nat.div_mul_le_self _ _) DA),hq,Nat.mul_div_cancel _ hp]
  refine NC O$ qV (NJ Qe O O bL O)$ Nz O$ qV (RS r (2^r) O O (by show r<=64;omega) O) ?_;refine Nz O$ qV (PV r (2^r) O O (by omega) O) ?_;rw[yg];refine NP O (PA Tr O O O bL (by simp)) ?_;rintro w6 ⟨kz,aP⟩;refine qM O$ Nz O$ NF O$ NA func212 O ?_;exact⟨_,rfl,rfl,R.own lU aP (λk e=>by rw[e];exact h8),bX.trans (aP.NR λk e=> .inr e),kz⟩
 ·refine An$ qN O$ Nz O$ NF O$ NA func212 O ?_;exact⟨_,rfl,rfl,lU,bX,bL⟩
theorem z3i:∀{W:List Bool} {k p:Nat},Qj W k=some p->∃z r,W=List.replicate z false++true::r
 |true::W,k,p,h=>⟨0,W,rfl⟩
 | false :: W, k, p, h => by
   simp only[Qj,Option.map_eq_some_iff] at h;obtain⟨q,hq,-⟩:=h;obtain⟨z,r,e⟩:=z3i hq
   exact⟨z+1,r,by rw[e,List.replicate_succ];rfl⟩
 |[],k,p,h=>by simp[Qj] at h
theorem z57 (z:Nat)(r:List Bool)(k:Nat):Qj (List.replicate z false++true::r) (k+1)=Qj (List.replicate (z+1) false++r) k:=by
 rw[T6,T6,Qj,Option.map_map]
 congr 1
 funext j;show j+1+z=j+(z+1);omega
theorem z6O (z:Nat)(r:List Bool):Qj (List.replicate z false++true::r) 0=some z:=by
 rw[T6,Qj];simp
theorem z4V (z:Nat)(r:List Bool):OJ (Ol (List.replicate z false++true::r))=r.length+1:=by
 rw[Wh]
 have:=Pw r
 exact z64 (by omega) (by rw[Nat.pow_succ];omega)
theorem z1e (n:Nat):(List.replicate n false).count true=0:=by
 rw[List.count_replicate];rfl
theorem z1b (H:List Bool)(a:Nat):(wdB H a).count true=((H.drop a).take (64-a%8)).count true:=by
 unfold wdB
 rw[List.count_append,z1e,Nat.zero_add,List.take_append,List.count_append,List.take_replicate,z1e];omega
theorem zbG {W:List Bool}(h:W.length=64):(O7 64 (Ol W)).count true=W.count true:=by
 have:=ZB W
 rw[h] at this
 rw[this]
theorem zaZ {H:List Bool}{a k q:Nat}(h:Qj (H.drop a) k=some q)(hk:k<(wdB H a).count true):Qj (wdB H a) k=some (a%8+q):=by
 rw[z1b] at hk
 have h1:=UU ((H.drop a).take (64-a%8)) ((H.drop a).drop (64-a%8)) k
 rw[List.take_append_drop,if_pos hk,h] at h1
 unfold wdB
 rw[T6,List.take_append,UU,if_pos hk,<-h1]
 show some (q+a%8)=_
 rw[Nat.add_comm]
theorem z7G {H:List Bool}{a k q:Nat}(h:Qj (H.drop a) k=some q)(hk:(wdB H a).count true<=k):64-a%8<=q/\Qj (H.drop (a / 8*8+64)) (k-(wdB H a).count true)=some (q-(64-a%8)):=by
 rw[z1b] at hk⊢
 have h1:=UU ((H.drop a).take (64-a%8)) ((H.drop a).drop (64-a%8)) k
 rw[List.take_append_drop,if_neg (by omega),h] at h1
 obtain⟨p,hp,K5⟩:=Option.map_eq_some_iff.1 h1.symm
 have h2:=(Z5 hp).1
 rw[List.length_drop] at h2
 rw[List.length_take,Nat.min_eq_left (by omega)] at K5
 rw[List.drop_drop,show a+(64-a%8)=a / 8*8+64 by omega] at hp
 exact⟨by omega,by rw[hp];congr 1;omega⟩
theorem z6T {t:TypeId}{u:Value}{l:List Nat}{f:Fm}{z:Nat}(he:TY l f z)(R:Src t u (WE l f)){X:Nat->Prop}{w:World}(hI:R.inv X w)(hX:∀k,X k->k<w.heap.size){x:Nat}(hx:X x)(hB:NM w x (elC f t u) 294){p k q:Nat}(aM:k<=1000000)(hq:Qj ((hiB f.width 0 0 l).drop p) k=some q):
  Oa prog 181 [ptr x 0,I (p:Int),I (k:Int)] w λr w'=>r= .tuple #[I ((p+q:Nat):Int),I 0]/\R.inv X w'/\Kp (λj=>¬X j) w w':=by
 have c6:=he.bits
 have fL:=he.small.2.2
 have fF:=hX x hx
 refine Nu (e:=[(0,_),(1,_),(2,_)]) func181 O ntmps181 O O$ qN O$ NK O O (PW O (cs:=[ptr x 0]) O) ?_
 rintro _ w1 ⟨b3,rfl,dF,ad,ar⟩
 refine NQ O$ NQ O$ qM O$ NK O O (Qk (cs:=[_]) Tr O) ?_
 rintro _ w2 ⟨b8,rfl,jE,ag,ck⟩
 have z1:=ad.size
 have z2:=ag.size
 have l3:=ar.lt
 have l8:=ck.lt
 have aI:=ad.trans ag
 have cR:R.inv (λj=>X j\/j=b3\/j=b8) w2:=R.ext hI aI (λj hj=>by rcases hj with e|e|e;exact .inl e;exact .inr (by omega);exact .inr (by omega))
 replace ck:NM w2 b8 [NW 0] 41:=ck
 refine qM O$ qV (ymf (first:=[]) (caps:=[.tmp 3,.tmp 8]) O O)$ NF O$ py$ qN O$ Nz O$ NF O$ Nw$ Qb (α:=Nat×Nat×Nat×Nat) ((p,k,q,0)) (λy=>[(2,I (y.2.1:Int)),(3,ptr b3 0),(8,ptr b8 0),(9,.func (.func 212) #[] #[ptr b3 0,ptr b8 0]),(10,I (y.1:Int))]) (λy w'=>R.inv (λj=>X j\/j=b3\/j=b8) w'/\Kp (λj=>¬X j) w w'/\w2.heap.size<=w'.heap.size/\NM w' x (elC f t u) 294/\NM w' b3 [ptr x 0] 152/\NM w' b8 [NW y.2.2.2] 41/\Qj ((hiB f.width 0 0 l).drop y.1) y.2.1=some y.2.2.1/\y.1+y.2.2.1=p+q/\y.2.1<=1000000) (λy=>f.bits-y.1) ?hI ?hround
 case hI=>exact⟨cR,aI.kp,Nat.le_refl _,aI.ND hB,ag.ND ar,ck,hq,rfl,aM⟩
 case hround =>
  rintro⟨a,k4,q4,v4⟩ w4 ⟨ky,ao,Hs,aH,eA,eU,cC,CN,yh⟩ ih;dsimp only at ky ao Hs aH eA eU cC CN yh;have yi:=(Z5 cC).1;rw[List.length_drop] at yi;have B4:a<f.bits:=by omega
  have vR:∀j,(X j\/j=b3\/j=b8)->j<w4.heap.size:=λj hj=>by
   rcases hj with e|e| e
   ·have:=hX j e;omega
   ·omega
   ·omega
  have eW:NM w4 x [I (f.n:Int),NW f.u,I (f.width:Int),I (f.bits:Int),.iface t u] 294:=aH
  try dsimp only
  refine py$ qN O$ Nz O$ qV ((NJ z2b O O eA O))$ O8 O$ NO R0 O$ NO X8 O$ qV ((NJ U3 O O eW O))$ Pb O O$ NB$ NN O (λh0=>?_)$ λh0=>?_
  ·refine An$ py$ Nw$ py$ qN O$ NT O O$ Pv O O (QH zff O O) (z4E he R ky vR (.inl hx) (.inr (.inl O)) (.inr (.inr O)) ⟨by omega,by omega⟩ aH eA eU B4) ?_;rintro _ w5 ⟨rfl,lU,ai,bL⟩;have z5:=ai.size;have bX:Kp (λj=>¬X j) w w5:=ao.Nv ai (λj hj=>by rcases hj with e|e;exact .inr (λh=>e (.inl h));exact .inl (by omega));have aC:=ai.ND aH (λe=>by rcases e with e|e;exact e (.inl hx);omega);have db:=ai.ND eA (λe=>by rcases e with e|e;exact e (.inr (.inl O));omega);have yj:=z5X (hiB f.width 0 0 l) a;have yk:=z66 yj;have B5:=zbG yj;have pB:=λh=>zaZ (H:=hiB f.width 0 0 l) cC h;have Ht:=λh=>z7G (H:=hiB f.width 0 0 l) cC h
   generalize wdB (hiB f.width 0 0 l) a=W at yj yk B5 pB Ht bL
   have dx:W.count true<=64:=by rw[<-yj];exact List.count_le_length
   refine NQ O$ qM O$ Nz O$ P3 O O$ NB$ It O$ An$ py$ qN O$ qV (NJ Qe O O bL O)$ NZ zhP O (z8K (Ol W) yk w5) ?_;rintro _ w5 ⟨rfl,rfl⟩;rw[B5];refine NQ O$ qM O$ NT O O$ zle O O$ NB$ NN O (λh1=>?_)$ λh1=>?_
   ·obtain⟨eg,dc⟩:=Ht (by omega);refine qN O$ NT O O$ Qc O O$ NF O$ NL O$ NC O$ Nz O ?_;rw[show(k4:Int)-((W.count true:Nat):Int)=((k4-W.count true:Nat):Int) by omega];refine qV (zdz O O (by omega))$ OI O O$ NF O ?_;rw[show((a / 8*8:Nat):Int)+64=((a / 8*8+64:Nat):Int) by omega];exact(ih (a / 8*8+64,k4-W.count true,q4-(64-a%8),Ol W) _ ⟨lU,bX,by omega,aC,db,bL,dc,by dsimp only;omega,by dsimp only;omega⟩ (by dsimp only;omega)).qb
   ·have AO:=pB (by omega);refine An$ py$ Nw$ Qb (α:=List Bool×Nat) ((W,k4)) (λy=>[(2,I (y.2:Int)),(8,ptr b8 0),(10,I (a:Int))]) (λy w'=>R.inv (λj=>X j\/j=b3\/j=b8) w'/\Kp (λj=>¬X j) w w'/\NM w' b8 [NW (Ol y.1)] 41/\y.1.length=64/\Qj y.1 y.2=some (a%8+q4)/\y.2<=1000000) (λy=>y.2) ?hI ?hround
    case hI=>exact⟨lU,bX,bL,yj,AO,yh⟩
    case hround=>
     rintro⟨W6,k6⟩ w6 ⟨pW,aP,kz,lK,vS,DB⟩ ih2;dsimp only at pW aP kz lK vS DB;obtain⟨zz,r,rfl⟩:=z3i vS;have vT:=z4V zz r;have K6:=Wh zz r;have js:=Pw r;have yl:=z66 lK;rw[List.length_append,List.length_replicate,List.length_cons] at lK
     try dsimp only
     refine py$ qN O$ Nz O$ P9 O O$ NB$ NN O (λh2=>?_)$ λh2=>?_
     ·obtain⟨k7,rfl⟩:∃k7,k6=k7+1:=⟨k6-1,by omega⟩;rw[z57] at vS;have dq:=Ext.NY w6;refine An$ py$ Nw$ O3 [6] (λw'=>Ext w6 w') (by kernel_rfl) O$ qL [5,6] 0 O (λ_ h=>NJ Qe O O (h.ND kz) O) dq$ qL [2,3,4,5,6] 1 O (λ_ h=>NJ Qe O O (h.ND kz) O) dq$ PC (i:=2) (by kernel_rfl)$ Qh (i:=2) O O O (yc zcY O) (z9W _ yl _) ?_;rintro _ w7 ⟨rfl,rfl⟩;refine⟨dq,?_⟩;rw[vT];refine qL [4,5,6] 3 O (λ_ h=>W5 O O (by omega)) dq ?_;rw[show(63:Int)-((64-(r.length+1):Nat):Int)=(r.length:Int) by omega];refine qL [5,6] 4 O (λ_ h=>PV r.length (2^r.length) O O (by omega) O) dq ?_;have et:2^r.length<=2^63:=Nat.pow_le_pow_right (by decide) (by omega);rw[show 1*2^r.length%18446744073709551616=2^r.length by rw[Nat.one_mul];exact Nat.mod_eq_of_lt (by omega)];rw[K6];refine qL [6] 5 O (λ_ h=>zi9 (by omega) js O O O) dq$ Rs [6]$ qO 6$ Ou (i:=6) O O (PA Tr O O O (dq.ND kz) (by simp)) ?_;rintro w8 ⟨u9,aV⟩;refine⟨trivial,?_⟩;replace u9:NM w8 b8 [NW (Ol r)] 41:=u9;refine qE$ Ny$ NC O$ Nz O$ Qc O O$ NF O ?_;rw[show((k7+1:Nat):Int)-1=(k7:Int) by omega];refine(ih2 (List.replicate (zz+1) false++r,k7) _ ⟨R.own (R.ext pW dq (λj hj=> .inl hj)) aV (λj e=> .inr (.inr e)),(aP.trans dq.kp).Nv aV (λj e=> .inl (by omega)),?_,?_,vS,by dsimp only;omega⟩ (by dsimp only;omega)).qb
      ·dsimp only;rw[z0J];exact u9
      ·dsimp only;rw[List.length_append,List.length_replicate];omega
     ·have eB:k6=0:=by omega
      subst eB;rw[z6O] at vS;have MT:zz=a%8+q4:=Pz vS;refine NL O$ qN O$ Nz O$ qV (zdz O O (by omega))$ qV (NJ Qe O O kz O)$ NZ zcY O (z9W _ yl _) ?_;rintro _ w7 ⟨rfl,rfl⟩;rw[vT];refine OI O O ?_;rw[show((a / 8*8:Nat):Int)+((64-(r.length+1):Nat):Int)=((p+q:Nat):Int) by omega];refine NQ O$ NF O$ NA func181 O ?_;exact⟨_,rfl,rfl,R.ext pW (Ext.refl _) (λj hj=> .inl (.inl hj)),aP⟩
  ·omega
theorem zaI (l:List Nat)(f:Fm)(hf:f.Tq=12+(Oc (R1 f.width l)).length+(Oc (hiB f.width 0 0 l)).length)(h4:(Oc (QJ f.width l)).length=4):((WE l f).drop f.Tq).take 4=Oc (QJ f.width l):=by
 have h:=piece (A:=Oc (O7 32 f.n++O7 64 f.u)++Oc (R1 f.width l)++Oc (hiB f.width 0 0 l)) (B:=Oc (QJ f.width l)) (C:=[]) (off:=f.Tq) (n:=4) (o:=0) (by rw[List.length_append,List.length_append,show Oc (O7 32 f.n++O7 64 f.u)=Oc (RE f) from rfl,To,hf];omega) (by omega)
 have h2:((Oc (QJ f.width l)).drop 0).take 4=Oc (QJ f.width l):=by rw[List.drop_zero];exact List.take_of_length_le (by omega)
 rw[List.append_nil] at h
 exact h.trans h2
theorem zai {k:Nat}{l:List Nat}{y:Nat}(h:l[0]? =some y)(hy:y<4294967296):Ol (O0 (Oc (QJ k l)))=y / 2^k/\(Oc (QJ k l)).length=4:=by
 obtain⟨r,rfl⟩:∃r,l=y::r:=by
  cases l with
  |nil=>simp at h
  |cons a r=>simp at h;subst h;exact⟨r,rfl⟩
 have hr:QJ k (y::r)=O7 32 (y / 2^k):=rfl
 obtain⟨z,h1,h2,h3⟩:=QV (O7 32 (y / 2^k))
 rw[bitsN_length] at h2
 have hz:z=0:=by omega
 rw[hr,h1,hz,List.replicate_zero,List.append_nil,OT,Ot,bitsN_length]
 have:=Nat.div_le_self y (2^k)
 exact⟨Nat.mod_eq_of_lt (by omega),rfl⟩
theorem z1f {t:TypeId}{u:Value}{l:List Nat}{f:Fm}{z:Nat}(he:TY l f z)(R:Src t u (WE l f)){X:Nat->Prop}{w:World}(hI:R.inv X w)(hX:∀k,X k->k<w.heap.size){x:Nat}(hx:X x)(hB:NM w x (elC f t u) 294){i v:Nat}(hv:l[i]? =some v):
  Oa prog 143 [ptr x 0,I (i:Int)] w λr w'=>r= .tuple #[NW v,I 0]/\R.inv X w'/\Kp (λj=>¬X j) w w':=by
 have cu:=(List.getElem?_eq_some_iff.1 hv).1
 have aA:=he.len
 have jF:=he.n2
 have qd:=he.n
 have wH:=he.zb
 have vP:f.width<=30:=by rw[he.fe];exact Yl (by omega)
 have u7:=he.small
 have rX:∀j y k y2,l[j]? =some y->l[k]? =some y2->j<=k->y<=y2:=λj y k y2 hj hk DC=>by
  obtain⟨a1,a2⟩:=List.getElem?_eq_some_iff.1 hj;obtain⟨b1,b2⟩:=List.getElem?_eq_some_iff.1 hk;rcases Nat.lt_or_ge j k with h| h
  ·have:=List.pairwise_iff_getElem.1 he.nof j k a1 b1 h
   rwa [a2,b2] at this
  ·have e:j=k:=Nat.le_antisymm DC h;subst e;rw[hj] at hk;cases hk;exact Nat.le_refl _
 have Hg:v<=z:=rX i v _ z hv he.last (by omega)
 obtain⟨y0,DD⟩:∃y,l[0]? =some y:=⟨_,List.getElem?_eq_getElem (by omega)⟩
 have DE:y0<=v:=rX 0 y0 i v DD hv (Nat.zero_le _)
 obtain⟨K7,ic⟩:=zai (k:=f.width) DD (by omega)
 have K8:=zaI l f (by
  have e:f.Tq=f.high+(f.bits+7) / 8:=rfl
  rw[e,he.high,Ot (hiB f.width 0 0 l),he.bits]) ic
 have cY:=ZL f.width l 0 0 0 y0 he.nof DD (λy _=>Nat.zero_le _)
 have vU:=ZL f.width l 0 0 i v he.nof hv (λy _=>Nat.zero_le _)
 simp only[Nat.add_zero,Nat.sub_zero] at cY vU
 have fV:=XU (hiB f.width 0 0 l) 0 (y0 / 2^f.width) i cY
 rw[Nat.zero_add,vU] at fV
 have Hu:y0 / 2^f.width<=v / 2^f.width:=Nat.div_le_div_right DE
 have rY:f.Tq+4<=(WE l f).length:=by
  rw[aA];have e:f.size=f.Tq+4*((f.n+63) / 64):=rfl;rw[e,qd];omega
 have fP:f.Tq<=40000000:=by have:=he.size_le.1;rw[aA] at rY;omega
 replace hB:NM w x [I (f.n:Int),NW f.u,I (f.width:Int),I (f.bits:Int),.iface t u] 294:=hB
 refine Nu (e:=[(0,_),(1,_)]) func143 O ntmps143 O O$ qN O$ NQ O$ NF O$ py$ Nw$ qN O$ Nz O$ qV (OP z2b O O)$ NF O$ It O$ qN O$ Nz O$ Pb O O ?_
 refine Ox$ NT O O$ Nz O$ O8 O$ NO R0 O$ NO Xd O$ qV (NJ U3 O O hB O)$ RN O O$ Ox$ OC O O$ NF O$ It O$ An$ Ny ?_
 refine py ?_
 have hg:=Ext.NY w
 refine PK (λw'=>Kp (λk=>¬X k) w w') O$ NX 0 O O (hg.kp)$ NG 1 O (OQ O) (hg.kp)$ NG 2 O (Og z27 O) (hg.kp)$ qT 3 O (λ_ h=>NJ z5b O O (h.ND hB (λe=>e hx)) O) (hg.kp)$ NX 4 O O (hg.kp)$ NG 5 O (OQ O) (hg.kp)$ NG 6 O (Og R0 O) (hg.kp)$ NX 9 O O (hg.kp)$ NG 10 O (Vu O O (by omega)) (hg.kp)$ NG 11 O (TT O O (by omega)) (hg.kp)$ qT 7 O (λ_ hS=>Oh (news:=fmC f) z3O O S2 O ((hS.ND hB (λe=>e hx)).cells (n:=4) O) O) (hg.kp)$ NG 13 O (zhi O) (hg.kp)$ NX 14 O O (hg.kp) ?_
 refine Qv 8 O zcS O (z2H f u7 _) ?_
 rintro _ w1 ⟨rfl,ad⟩
 refine⟨(hg.trans ad).kp,?_⟩
 have cd:=hg.trans ad
 have mx:=R.ext hI cd (λk hk=> .inl hk)
 have lw:∀k,X k->k<w1.heap.size:=λk hk=>by have:=hX k hk;have:=cd.size;omega
 refine NG 12 O (SX O O (by omega)) ((hg.trans ad).kp) ?_
 rw[show(f.Tq:Int)+4*((i:Int) / 64)=((f.Tq:Nat):Int) by omega]
 refine qO 15$ UO (i:=15) O O O (yci R.cr R.mr O O) (R.rd f.Tq 4 mx lw rY) ?_
 rintro _ w2 ⟨rfl,cR,aq⟩
 refine⟨cd.kp.trans aq,?_⟩
 rw[K8]
 have dK:Kp (λk=>¬X k) w w2:=cd.kp.trans aq
 refine NX 16 O O (cd.kp.trans aq)$ NG 17 O (Q8 O O) (cd.kp.trans aq)$ NG 18 O (Q8 O O) (cd.kp.trans aq)$ NG 19 O (PO O) (cd.kp.trans aq)$ NG 20 O (PO O) (cd.kp.trans aq)$ qE$ Of.qb (e:=[(0,_),(1,_),(4,_),(5,_),(6,_),(7,_)]) ?_
 refine py$ qN O$ Nz O$ P3 O O$ NB$ It O$ An$ qN O$ NT O O$ NZ z5T O (VM (Oc (QJ f.width l)) (by omega) w2) ?_
 rintro _ w3 ⟨rfl,ah⟩
 rw[K7]
 have cF:Kp (λk=>¬X k) w w3:=dK.trans ah.kp
 have DF:=R.ext cR ah (λk hk=> .inl hk)
 have jL:∀k,X k->k<w3.heap.size:=λk hk=>by have:=hX k hk;have:=cF.size;omega
 have ar:=cF.ND hB (λe=>e hx)
 have Ka:y0 / 2^f.width<=y0:=Nat.div_le_self _ _
 have Kb:v / 2^f.width<=v:=Nat.div_le_self _ _
 have mM:v / 2^f.width*2^f.width%18446744073709551616 |||v%2^f.width=v:=by
  have h1:=Nat.div_mul_le_self v (2^f.width);rw[Nat.mod_eq_of_lt (by omega),Nat.mul_comm,<-Nat.two_pow_add_eq_or_of_lt (Nat.mod_lt _ (Nat.two_pow_pos _))];exact Nat.div_add_mod v (2^f.width)
 have gP:v%2^f.width<=v:=Nat.mod_le _ _
 generalize Kc:v / 2^f.width=vq at fV Hu Kb mM
 generalize y0 / 2^f.width=yq at fV Hu Ka
 refine qV (Ow O Qe U3 (by omega))$ Nz O$ qV (yre O O (by omega)) ?_
 rw[show(i:Int)%64=(i:Int) by omega]
 refine NZ zfY O (z6T he R DF jL hx ar (k:=i) (by omega) fV) ?_
 rintro _ w4 ⟨rfl,ky,ao⟩
 rw[show yq+(vq+i-yq)=vq+i by omega]
 have kA:=cF.trans ao
 have vR:∀k,X k->k<w4.heap.size:=λk hk=>by have:=hX k hk;have:=kA.size;omega
 have aH:=kA.ND hB (λe=>e hx)
 refine Nz O$ ON O O$ ON O O$ NQ O$ NF O$ py$ qN O$ Nz O$ P3 O O$ NB$ It O$ An$ qN O$ NT O O ?_
 refine NZ zgJ O (z6R he R ky vR hx aH hv) ?_
 rintro _ w5 ⟨rfl,lU,ai⟩
 have bX:=kA.trans ai
 have aC:=bX.ND hB (λe=>e hx)
 have B0:=he.u
 refine Nz O$ ON O O$ ON O O$ NQ O$ NF O$ Of.qb (e:=[(0,_),(1,_),(4,_),(5,_),(7,_),(8,_),(9,_)]) ?_
 refine py$ qN O$ Nz O$ P3 O O$ NB$ It O$ An$ qN O$ NT O O$ Qc O O ?_
 rw[show((vq+i:Nat):Int)-(i:Int)=(vq:Int) by omega]
 refine qV ((OM O U3 Qe (by omega)))$ Nz O$ O8 O$ NO R0 O$ NO RR O$ qV (NJ U3 O O aC O)$ qV (PV f.width (2^f.width) O O (by omega) O)$ Nz O ?_
 have B6:=Nat.mod_lt (vq*2^f.width) (show 0<18446744073709551616 by decide)
 refine qV (XZ O O (by omega) (by omega)) ?_
 rw[mM]
 refine NF O$ py$ qN O$ NT O O$ Pb O O$ Ox$ NT O O$ Nz O$ O8 O$ NO R0 O$ NO zb9 O$ qV (NJ Qe O O aC O)$ RN O O$ Ox ?_
 refine OC O O$ NB$ Of.qb (e:=[(4,_),(5,_),(10,_),(93,_)]) ?_
 refine It O$ An$ qN O$ Nz O$ NQ O$ NF O$ NA func143 O ?_
 exact⟨_,rfl,rfl,lU,bX⟩
theorem zak (a b:NH)(w:World)(hl:(a++b).length<=100000000000):Oa prog 173 [S (a++b),S a] w λu w'=>u= .bool true/\w'=w:=by
 rw[List.length_append] at hl
 have jC:(a++b).length=a.length+b.length:=List.length_append
 have ht:(a++b).take a.length=a:=List.take_left
 refine Nu (e:=[(0,_),(1,_)]) func173 O ntmps173 O O$ qN O$ NQ O$ qM O$ Nz O$ qV (SG U9 O)$ Nz O$ qV (SG U9 O)$ RN O O$ PE$ NT O O$ Nz O$ qV (SG U9 O)$ qV (YA U9 O O (by omega)) ?_
 refine Nz O ?_
 rw[ht]
 refine qV (zec O O)$ PE$ Pc O O$ NF O$ NA func173 O ?_
 exact⟨_,rfl,rfl,rfl⟩
theorem zaa (a b:NH)(w:World)(hl:(a++b).length<=100000000000):Oa prog 204 [S (a++b),S a] w λu w'=>u= .tuple #[S b,.bool true]/\w'=w:=by
 have jC:(a++b).length=a.length+b.length:=List.length_append
 have hd:(a++b).drop a.length=b:=List.drop_left
 refine Nu (e:=[(0,_),(1,_)]) func204 O ntmps204 O O$ qN O$ NQ O$ NF O$ py$ qN O$ NT O O$ NZ zej O (zak a b w hl) ?_
 rintro _ w ⟨rfl,rfl⟩
 refine qV ((Qr O))$ NB$ It O$ An$ qN O$ NT O O$ qV (SG U9 O)$ qV (UQ U9 O O (by omega)) ?_
 rw[hd]
 refine NQ O$ NF O$ NA func204 O ?_
 exact⟨_,rfl,rfl,rfl⟩
theorem z5F (a b:NH)(w:World)(hl:(a++b).length<=100000000000):Oa prog 165 [S (a++b),S a] w λu w'=>u= .tuple #[S b,.bool true]/\w'=w:=by
 refine Nu (e:=[(0,_),(1,_)]) func165 O ntmps165 O O$ qN O$ NQ O$ NQ O$ qM O$ NT O O$ NZ zeN O (zaa a b w hl) ?_
 rintro _ w ⟨rfl,rfl⟩
 refine ON O O$ ON O O$ NQ O$ NF O$ NA func165 O ?_
 exact⟨_,rfl,rfl,rfl⟩
theorem RD {w:World}{r a b6 b7:Nat}{s:NH}(h:Sn w r s a)(aR:NM w b6 [ptr r 0] 158)(bj:NM w b7 [.bool false] 4)(h6:b6≠r/\b7≠r/\b6≠b7)(n v:Nat)(hn:n<=64)(hv:v<2^n)(iz:v<=134217728)(rest:List Bool)(hb:(O0 s).drop a=O7 n v++rest):
  Oa prog 166 [I (n:Int),ptr b6 0,ptr b7 0] w λu w'=>u=I (v:Int)/\Sn w' r s (a+n)/\NM w' b6 [ptr r 0] 158/\NM w' b7 [.bool false] 4/\Kp (λk=>k=r\/k=b7) w w':=by
 have aA:a+n<=8*s.length:=by
  have e:=congrArg List.length hb;rw[List.length_drop,bitsT_length,List.length_append,bitsN_length] at e;have:=h.2.1;omega
 have DG:Ol (((O0 s).drop a).take n)=v:=by
  rw[hb,List.take_left' (by simp),OT];exact Nat.mod_eq_of_lt hv
 refine Nu (e:=[(0,_),(1,_),(2,_)]) func166 O ntmps166 O O$ qN O$ NQ O$ qM O$ qV (NJ TN O O aR O)$ Nz O$ NZ z2q O (TS h n hn) ?_
 rintro v1 w1 fM
 have fT:v1= .tuple #[NW v,I 0]/\Sn w1 r s (a+n)/\Kp (λk=>k=r) w w1:=by
  rcases fM with⟨-,e,h1,hk⟩|⟨e,-,-⟩
  ·rw[DG] at e;exact⟨e,h1,hk⟩
  ·omega
 obtain⟨rfl,h1,aM⟩:=fT
 have yn:=aM.ND bj h6.2.1
 have DH:=aM.ND aR h6.1
 refine Nz O$ ON O O$ ON O O$ NQ O$ NQ O$ qM O$ qV (NJ U4 O O yn O)$ NT O O$ P3 O O$ OC O O$ NT O O$ P9 O O$ Ox$ OC O O ?_
 refine NP O (PA Tf O O O yn (by simp)) ?_
 rintro w2 ⟨ey,aq⟩
 refine qM O$ Nz O$ qV (Td O O (by omega) (by omega)) ?_
 rw[show v&&&268435455=v from(Nat.and_two_pow_sub_one_eq_mod v 28).trans (Nat.mod_eq_of_lt (by omega))]
 refine qV (Ow O Qe U3 (by omega))$ NF O$ NA func166 O ?_
 exact⟨_,rfl,rfl,⟨aq.ND h1.1 (λe=>h6.2.1 e.symm),h1.2⟩,aq.ND DH h6.2.2,ey,(aM.NR λk e=> .inl e).trans (aq.NR λk e=> .inr e)⟩
theorem RG {s:List Bool}{n v a:Nat}{rest:List Bool}(h:s.drop a=O7 n v++rest):s.drop (a+n)=rest:=by
 rw[<-List.drop_drop,h,List.drop_left' (by simp)]
theorem zbo (h:PHd):O0 (Oc (Q7 (Xt h)))=O7 32 h.n++(O7 32 h.m++(O7 8 h.p.O6++(O7 8 h.p.chain++(O7 8 h.p.interval++(O7 8 h.p.zeta++(O7 32 h.p.most++(O7 64 h.bits++[]))))))):=by
 obtain⟨z,h1,h2,h3⟩:=QV (Q7 (Xt h))
 have hl:=Te h
 have hz:z=0:=by omega
 rw[h1,hz,List.replicate_zero,List.append_nil]
 rfl
theorem z7W (h:PHd)(hh:h.Pk)(w:World):Oa prog 132 [S (hdT h)] w λu w'=>u= .tuple #[hdV h,I 0]/\Ext w w':=by
 obtain⟨g1,g2,g3,g4,g5⟩:=id hh
 obtain⟨q1,q2,q3⟩:=id g5
 obtain⟨r1,r2,r3,r4⟩:=id q1
 have r1':h.p.O6<=16:=r1
 have r2':h.p.interval<=64:=by
  have:h.p.interval=0\/2<=h.p.interval/\h.p.interval<=64:=r2;omega
 have r4':h.p.zeta<=16:=r4
 have Kd:=VH h
 have pC:=zbo h
 rw[show O0 (Oc (Q7 (Xt h)))=(O0 (Oc (Q7 (Xt h)))).drop 0 from List.drop_zero.symm] at pC
 have et:(Oc (Q7 (Xt h))).length=24:=by rw[Ot,Te]
 refine Nu (e:=[(0,_)]) func132 O ntmps132 O O$ qN O$ NK O O (Qk (cs:=[_,_,_,_,_,_,_,_]) Ss O) ?_
 rintro _ w1 ⟨b2,rfl,bQ,ad,am⟩
 refine NQ O$ qM O$ Nz O$ Pv O O (yc (args:=[.tmp 11,.const (Value.string (⟨#[119,116,108,49]⟩))]) zeP O) (z5F z6w (Oc (Q7 (Xt h))) _ (by rw[show z6w++Oc (Q7 (Xt h))=hdT h from rfl];omega)) ?_
 rintro _ w1 ⟨rfl,rfl⟩
 refine Nz O$ ON O O$ ON O O$ NQ O$ NF O$ py$ qN O$ Nz O$ qV ((Qr O))$ NT O O$ qV (SG U9 O)$ Pb O O$ Ox$ OC O O ?_
 refine NB$ It O$ An$ qN O$ Nz O ?_
 generalize Oc (Q7 (Xt h))=pt at pC et
 refine NZ z63 O (VG pt (by omega) w1) ?_
 rintro _ w2 ⟨r,rfl,cA,ag,dV⟩
 refine NK O O (Qk (cs:=[_]) z0E O) ?_
 rintro _ w3 ⟨b6,rfl,mN,ah,aR⟩
 refine NP O (PA z0E O O O aR (by simp)) ?_
 rintro w4 ⟨qB,ao⟩
 replace qB:NM w4 b6 [ptr r 0] 158:=qB
 refine qM O$ NK O O (Qk (cs:=[_]) Tf O) ?_
 rintro _ w5 ⟨b7,rfl,kO,aT,bj⟩
 refine NP O (PA Tf O O O bj (by simp)) ?_
 rintro w6 ⟨qC,aP⟩
 replace qC:NM w6 b7 [.bool false] 4:=qC
 have z1:=ad.size
 have z2:=ag.size
 have z3:=ah.size
 have z4:=ao.size
 have z5:=aT.size
 have lr:=cA.1.lt
 have l6:=qB.lt
 have l2:=am.lt
 have ub:=aP.ND (aT.ND qB) (by omega)
 have jN:Sn w6 r pt 0:=⟨aP.ND (aT.ND (ao.ND (ah.ND cA.1) (by omega))) (by omega),cA.2⟩
 have aD:Ext w1 w6:=(((ag.trans ah).Nv ao (λi e=>by omega)).trans aT).Nv aP (λi e=>by omega)
 refine qM O$ qV (ymf (first:=[]) (caps:=[.tmp 6,.tmp 7]) O O)$ NQ O$ qM O$ Nz O$ Pv O O (QH YK O O) (RD jN ub qC ⟨by omega,by omega,by omega⟩ 32 h.n (by decide) (by omega) (by omega) _ pC) ?_
 rintro _ v0 ⟨rfl,DI,yo,yp,yr⟩
 have yt:=RG pC
 refine Nz O$ Pv O O (QH YK O O) (RD DI yo yp ⟨by omega,by omega,by omega⟩ 32 h.m (by decide) (by omega) (by omega) _ yt) ?_
 rintro _ v1 ⟨rfl,yu,yv,yw,yx⟩
 have yz:=RG yt
 refine qV (QP (cs:=[_,_,_,_,_,_,_,_]) Ss O zcr O O)$ NK O O (Qk (cs:=[_,_,_,_,_,_,_,_]) Ss O) ?_
 rintro _ w7 ⟨b9,rfl,mS,bV,cB⟩
 have zv1:=yr.size
 have zv2:=yx.size
 have z7:=bV.size
 have z6:=aP.size
 have l9:=cB.lt
 refine NP O (OA (news:=[I (h.n:Int),I (h.m:Int),I 0,I 0,I 0,I 0,I 0,I 0]) Ss O O O O cB (by simp)) ?_
 rintro w8 ⟨my,aV⟩
 replace my:NM w8 b9 [I (h.n:Int),I (h.m:Int),I 0,I 0,I 0,I 0,I 0,I 0] 149:=my
 have l7:=qC.lt
 have dC:Ext v1 w8:=bV.Nv aV (λi e=>by omega)
 have jV:Sn w8 r pt (0+32+32):=⟨dC.ND yu.1,yu.2⟩
 have iN:=dC.ND yv
 have DJ:=dC.ND yw
 have pj:Kp (λk=>k=r\/k=b7) w6 w8:=(yr.trans yx).trans dC.kp
 refine NB$ Of.qb (e:=[(2,_),(3,_),(7,_),(8,_),(9,_)]) ?_
 refine qN O$ Nz O$ Pv O O (QH YK O O) (RD jV iN DJ ⟨by omega,by omega,by omega⟩ 8 h.p.O6 (by decide) (by omega) (by omega) _ yz) ?_
 rintro _ v2 ⟨rfl,DK,yA,yB,DL⟩
 have yC:=RG yz
 refine Nz O$ Pv O O (QH YK O O) (RD DK yA yB ⟨by omega,by omega,by omega⟩ 8 h.p.chain (by decide) (by omega) (by omega) _ yC) ?_
 rintro _ v3 ⟨rfl,DM,yD,yE,DN⟩
 have yF:=RG yC
 refine Nz O$ Pv O O (QH YK O O) (RD DM yD yE ⟨by omega,by omega,by omega⟩ 8 h.p.interval (by decide) (by omega) (by omega) _ yF) ?_
 rintro _ v4 ⟨rfl,DO,yG,yH,DP⟩
 have yI:=RG yF
 refine Nz O$ Pv O O (QH YK O O) (RD DO yG yH ⟨by omega,by omega,by omega⟩ 8 h.p.zeta (by decide) (by omega) (by omega) _ yI) ?_
 rintro _ v5 ⟨rfl,DQ,yJ,yK,DR⟩
 have yL:=RG yI
 refine Nz O$ Pv O O (QH YK O O) (RD DQ yJ yK ⟨by omega,by omega,by omega⟩ 32 h.p.most (by decide) (by omega) (by omega) _ yL) ?_
 rintro _ v6 ⟨rfl,yM,yN,yO,DS⟩
 have yP:=RG yL
 have jg:Kp (λk=>k=r\/k=b7) w8 v6:=(((DL.trans DN).trans DP).trans DR).trans DS
 have DT:=jg.ND my (by omega)
 refine qV (QP (cs:=[_,_,_,_,_]) Qm O zbt O O)$ NO Xq O$ NP O (OA (news:=TR h.p) Qm O O O O DT (by simp)) ?_
 rintro w9 ⟨ud,aS⟩
 replace ud:NM w9 b9 [I (h.n:Int),I (h.m:Int),I (h.p.O6:Int),I (h.p.chain:Int),I (h.p.interval:Int),I (h.p.zeta:Int),I (h.p.most:Int),I 0] 149:=ud
 have vA:Sn w9 r pt (0+32+32+8+8+8+8+32):=⟨aS.ND yM.1 (by omega),yM.2⟩
 have kB:=aS.ND yN (by omega)
 have DU:=aS.ND yO (by omega)
 refine qM O$ Nz O$ Pv O O (QH YK O O) (RD vA kB DU ⟨by omega,by omega,by omega⟩ 64 h.bits (by decide) (by omega) (by omega) _ yP) ?_
 rintro _ v7 ⟨rfl,Ke,Hv,yQ,yR⟩
 have Kf:=RG yP
 have DV:=yR.ND ud (by omega)
 refine NO TJ O$ NP O (PA OL O O O DV (by simp)) ?_
 rintro w10 ⟨ly,au⟩
 replace ly:NM w10 b9 (hdC h) 149:=ly
 have yS:=au.ND yQ (by omega)
 have yT:Kp (λk=>k=r\/k=b7\/k=b9) w6 w10:=((((pj.trans jg).NR λk e=>by omega).trans (aS.NR λk e=>by omega)).trans (yR.NR λk e=>by omega)).trans (au.NR λk e=>by omega)
 have eV:Ext w1 w10:=aD.Nv yT (λk e=>by omega)
 refine NB$ py$ qN O$ qV (NJ U4 O O yS O)$ Nz O$ qV (Oh (news:=hdC h) z5h O Ss O (ly.cells (n:=8) O) O)$ NZ za7 O (We h hh _) ?_
 rintro _ w11 ⟨rfl,aQ⟩
 refine P3 O O$ OC O O$ NB$ Of.qb (e:=[(2,_),(3,_),(9,_),(51,_)]) ?_
 refine It O$ An$ qN O$ qV (Oh (news:=hdC h) z5h O Ss O ((aQ.ND ly).cells (n:=8) O) O) ?_
 have yU:=(eV.trans aQ).ND am
 refine NP O (OA (news:=hdC h) Ss O O O O yU (by simp)) ?_
 rintro w12 ⟨jt,aL⟩
 replace jt:NM w12 b2 (hdC h) 149:=jt
 replace jt:NM w12 b2 [I (h.n:Int),I (h.m:Int),I (h.p.O6:Int),I (h.p.chain:Int),I (h.p.interval:Int),I (h.p.zeta:Int),I (h.p.most:Int),I (h.bits:Int)] 149:=jt
 refine NF O$ O9 func132 (.cell z5h O Ss O (NM.cells (n:=8) jt (news:=[_,_,_,_,_,_,_,_]) O) O (.tmp O .nil)) ?_
 exact⟨_,rfl,rfl,((ad.trans eV).trans aQ).Nv aL (λk e=>by omega)⟩
theorem z83 (h:PHd)(hh:h.Pk)(bQ:h.n<=500)(w:World):Oa prog 133 [hdV h] w λu w'=>u= .tuple #[I ((28+(h.bits+7) / 8+(Sw (h.n+1) (h.bits+1)).size:Nat):Int),I 0]/\Ext w w':=by
 obtain⟨g1,g2,g3,g4,g5⟩:=id hh
 have hs:=z2e (n:=h.n+1) (u:=h.bits+1) (by omega) (by omega) (by omega) (by omega)
 have cH:(Sw (h.n+1) (h.bits+1)).size<=40000000:=by
  have h2:=Fm.Vl hs;obtain⟨h3,h4,h5⟩:=hs;unfold Fm.size Fm.Tq;omega
 refine Nu (e:=[(0,_)]) func133 O ntmps133 O O$ qN O$ NK O O (PW O (cs:=hdC h) O) ?_
 rintro _ w1 ⟨b1,rfl,bN,ad,aj⟩
 replace aj:NM w1 b1 [I (h.n:Int),I (h.m:Int),I (h.p.O6:Int),I (h.p.chain:Int),I (h.p.interval:Int),I (h.p.zeta:Int),I (h.p.most:Int),I (h.bits:Int)] 149:=aj
 refine NQ O$ NF O$ py$ qN O$ qV (Oh (news:=hdC h) z5h O Ss O (aj.cells (n:=8) O) O)$ NZ za7 O (We h hh _) ?_
 rintro _ w2 ⟨rfl,ag⟩
 have bq:=ag.ND aj
 refine NQ O$ qM O$ Nz O$ P3 O O$ NB$ It O$ An$ qN O$ NO SV O$ qV (NJ U3 O O bq O)$ OI O O$ NO TJ O$ qV (NJ U3 O O bq O)$ qV ((OM O U3 Qe (by omega))) ?_
 rw[show(h.n:Int)+1=((h.n+1:Nat):Int) by omega]
 refine NZ zhy O (z42 (h.n+1) h.bits (by omega) (by omega) (by omega) _) ?_
 rintro _ w3 ⟨rfl,ah⟩
 have du:=ah.ND bq
 refine Nz O$ qV (Q8 (v:=I ((Sw (h.n+1) (h.bits+1)).size:Int)) O O)$ qV (Q8 (v:=I 0) O O) ?_
 generalize (Sw (h.n+1) (h.bits+1)).size=q at cH
 refine NQ O$ NQ O$ qM O$ NO TJ O$ qV (NJ U3 O O du O)$ OI O O$ qV (Vu O O (by omega))$ OI O O$ Nz O$ OI O O$ Nz O$ NQ O$ NF O$ Of.qb (e:=[(2,_),(3,_)]) ?_
 refine NA func133 O (⟨_,rfl,?_,(ad.trans ag).trans ah⟩)
 show Value.tuple #[I (28+((h.bits:Int)+7) / 8+(q:Int)),I 0]= .tuple #[I ((28+(h.bits+7) / 8+q:Nat):Int),I 0]
 rw[show(28:Int)+((h.bits:Int)+7) / 8+(q:Int)=((28+(h.bits+7) / 8+q:Nat):Int) by omega]
section
variable {P:Program}{e:Env}{d:Option Nat}{ty t t':TypeId}{pos:String}{aft:Array Edge}{g:Option (Nat×Bool)}{x y:Operand}{w:World}
theorem z5w {f:FuncId}{name:String}{u:Value}(h:methT P t name=some f):(nilAhead (P.types.size+Made.depth) t u name).run P w= .ok (some false) w:=by
 rw[show P.types.size+Made.depth=P.types.size+(Made.depth-1)+1 from rfl]
 unfold methT at h
 split at h<;>try cases h
 rename_i i hi
 split at h<;>try cases h
 rename_i m hm
 split at h<;>try cases h
 rename_i f' pr jq jr
 have nW:i.methods.find? (·.name==name)=some m:=by rw[<-hm,Array.find?_toList]
 unfold nilAhead
 split at h<;>try cases h
 ·rename_i el hu
  cases pr<;>simp at h;subst h;simp[Sk hi,nW,jq,followBlind,jr]
 ·rename_i td Ho hu
  cases pr<;>simp at h;subst h;simp only[Sem.run_bind,Sk hi,Result.andThen_ok,nW,jq,followBlind,Sem.run_pure,jr,run_underlying hu];cases td<;>first|exact absurd rfl (Ho _)|rfl
theorem zgF {td:TypeDesc}{v:Value}(ht:P.underlying t=some td)(hn:∀ms,td≠ .interface ms)(hx:look e x=some v):Y P e ⟨d,.makeInterface t x,ty,pos,aft,g⟩ (.iface t v) w w:=fun ρ hρ=>by
 simp only[execOp,hρ _ _ hx,Instr.makeInterface,Sem.run_bind,run_underlying ht,Result.andThen_ok]
 cases td<;>first|rfl|exact(hn _ rfl).elim
theorem ymm {nm:String}{v:Value}(hx:look e x=some v):Y P e ⟨d,.makeFunc (.method nm) #[x] #[],ty,pos,aft,g⟩ (.func (.method nm) #[v] #[]) w w:=fun ρ hρ=>by
 simp[execOp,hρ _ _ hx,Instr.makeFunc]
theorem zim {f:FuncId}{nm:String}{tx:TypeId}{v:Value}(hm:methT P tx nm=some f)(hx:look e x=some (.func (.method nm) #[.iface tx v] #[])):Y P e ⟨d,.nilCheck x,ty,pos,aft,g⟩ (.func (.method nm) #[.iface tx v] #[]) w w:=fun ρ hρ=>by
 have hn:=z5w (w:=w) (u:=v) hm
 have tt:(program).run P w= .ok P w:=rfl
 simp[execOp,hρ _ _ hx,tt,hn]
end
def YB (t:TypeId)(u:Value)(a n:Nat):Value:= .agg #[.iface t u,I (a:Int),I (n:Int)]
theorem z3s (t:TypeId)(u:Value)(a n:Nat)(w:World):Oa prog 281 [YB t u a n] w λv w'=>v=I (n:Int)/\Ext w w':=by
 unfold YB
 refine Nu (e:=[(0,_)]) func281 O ntmps281 O O$ qN O$ NK O O (PW O (cs:=[.iface t u,I (a:Int),I (n:Int)]) O) ?_
 rintro _ w1 ⟨b1,rfl,bN,ad,aj⟩
 refine NQ O$ qM O$ NO z1L O$ qV (NJ U3 O O aj O)$ NF O$ NA func281 O ?_
 exact⟨_,rfl,rfl,ad⟩
theorem z5f {t:TypeId}{u:Value}{T:NH}(R:Src t u T){X:Nat->Prop}{w:World}(a n:Nat)(pD:a+n<=T.length)(hT:T.length<=100000000000)(off m:Nat)(hI:R.inv X w)(hX:∀k,X k->k<w.heap.size)(h:off+m<=n):
  Oa prog 282 [YB t u a n,I (off:Int),I (m:Int)] w λv w'=>v= .tuple #[S ((((T.drop a).take n).drop off).take m),I 0]/\R.inv X w'/\Kp (λk=>¬X k) w w':=by
 have e:(((T.drop a).take n).drop off).take m=(T.drop (a+off)).take m:=by
  rw[List.drop_take,List.take_take,List.drop_drop,show min m (n-off)=m by omega]
 rw[e]
 unfold YB
 refine Nu (e:=[(0,_),(1,_),(2,_)]) func282 O ntmps282 O O$ qN O$ NK O O (PW O (cs:=[.iface t u,I (a:Int),I (n:Int)]) O) ?_
 rintro _ w1 ⟨b1,rfl,bN,ad,aj⟩
 refine NQ O$ NF O$ py$ qN O$ Nz O$ Pb O O$ NT O O$ Pb O O$ Ox$ OC O O$ NT O O$ NO z1L O$ qV (NJ U3 O O aj O)$ P9 O O ?_
 refine Ox$ OC O O$ NT O O$ NO z1L O$ qV (NJ U3 O O aj O)$ Nz O$ Qc O O$ P9 O O$ Ox$ OC O O$ NB$ Of.qb (e:=[(1,_),(2,_),(3,_),(6,_),(7,_),(27,_)]) ?_
 refine It O$ An$ qN O$ NO zbH O$ qV (NJ z5b O O aj O)$ NO zbs O$ qV (NJ U3 O O aj O)$ Nz O$ OI O O$ Nz O ?_
 rw[show(a:Int)+(off:Int)=((a+off:Nat):Int) by omega]
 refine Pv O O (yci R.cr R.mr O O) (R.rd (a+off) m (R.ext hI ad (λk hk=> .inl hk)) (λk hk=>by have:=hX k hk;have:=ad.size;omega) (by omega)) ?_
 rintro _ w2 ⟨rfl,cR,aq⟩
 refine ON O O$ ON O O$ NQ O$ NF O$ NA func282 O ?_
 exact⟨_,rfl,rfl,cR,ad.kp.trans aq⟩
def zd2 {t:TypeId}{u:Value}{T:NH}(R:Src t u T)(a n:Nat)(B:NH)(pD:a+n<=T.length)(hT:T.length<=100000000000)(hB:(T.drop a).take n=B):Src 251 (YB t u a n) B where
 inv:=R.inv
 fl:=281
 fr:=282
 cl:=zev
 cr:=zfO
 ml:=by kernel_rfl
 mr:=by kernel_rfl
 ext:=R.ext
 step:=R.step
 len:=fun {X w} h=>by
  have e:B.length=n:=by rw[<-hB,List.length_take,List.length_drop];omega
  rw[e];exact z3s t u a n w
 rd:=fun {X w} off m h hX ho=>by
  have e:B.length=n:=by rw[<-hB,List.length_take,List.length_drop];omega
  rw[<-hB];exact z5f R a n pD hT off m h hX (by omega)
def UD (p:Pa)(g:List (List Nat))(E:List (Nat×Nat)):PHd:=⟨g.length,Ph g,p,(Po p g E g.length).length⟩
def pfm (p:Pa)(g:List (List Nat))(E:List (Nat×Nat)):Fm:=Sw (g.length+1) ((Po p g E g.length).length+1)
structure RA (p:Pa)(g:List (List Nat))(E:List (Nat×Nat)):Prop where
 Pk:p.Pk
 gr:QQ g
 n1:1<=g.length
 pk:z9N p g E
section
variable {p:Pa}{g:List (List Nat)}{E:List (Nat×Nat)}
theorem RA.head (h:RA p g E):(UD p g E).Pk:=by
 have hn:=h.gr.n
 have hb:=h.pk.bits
 have tY:=St h.gr g.length
 rw[List.take_length] at tY
 exact⟨h.n1,(by show g.length<=_;omega),(by show Ph g<=_;omega),(by show(Po p g E g.length).length<=_;omega),h.Pk⟩
theorem RA.ef (h:RA p g E):TY (UN p g E g.length) (pfm p g E) (Po p g E g.length).length:=by
 have hn:=h.gr.n
 have hb:=h.pk.bits
 have aA:=z1q p g E g.length
 refine⟨by omega,by omega,z6i p g E g.length,?_,by omega,?_⟩
 ·rw[aA,Nat.add_sub_cancel];exact Z6 p g E (Nat.le_refl g.length)
 ·rw[aA];rfl
def UI (p:Pa)(g:List (List Nat))(E:List (Nat×Nat)):Nat:=28+((Po p g E g.length).length+7) / 8
theorem RA.len (h:RA p g E):(Wu p g E).length=UI p g E+(pfm p g E).size:=by
 unfold Wu UI
 rw[List.length_append,List.length_append,VH,Ot]
 have:=h.ef.len
 show _+(WE (UN p g E g.length) (pfm p g E)).length=_
 rw[this]
theorem RA.small (h:RA p g E):(Wu p g E).length<=50000000/\40<=(Wu p g E).length:=by
 have h1:=h.ef.size_le
 have h2:=h.len
 have h3:=h.pk.bits
 unfold UI at h2
 omega
theorem zbm:((Wu p g E).drop 0).take 28=hdT (UD p g E):=by
 unfold Wu
 rw[List.drop_zero,List.append_assoc,<-VH (UD p g E)]
 exact List.take_left
theorem RA.index (h:RA p g E):((Wu p g E).drop (UI p g E)).take (pfm p g E).size=WE (UN p g E g.length) (pfm p g E):=by
 have h1:(hdT (UD p g E)++Oc (Po p g E g.length)).length=UI p g E:=by
  rw[List.length_append,VH,Ot];rfl
 have h2:=h.ef.len
 unfold Wu
 show((hdT (UD p g E)++Oc (Po p g E g.length)++WE (UN p g E g.length) (pfm p g E)).drop _).take _=_
 rw[<-h1,List.drop_left,<-h2,List.take_length]
theorem zbF (h:RA p g E)(a n:Nat)(hn:8*(a+n)<=(Po p g E g.length).length+7):((Wu p g E).drop (28+a)).take n=((Oc (Po p g E g.length)).drop a).take n:=by
 unfold Wu
 exact piece (by rw[VH]) (by rw[Ot];omega)
end
def gwC (h:PHd)(t:TypeId)(u:Value)(x:Nat):List Value:=[I (h.n:Int),I (h.m:Int),I (h.p.O6:Int),I (h.p.chain:Int),I (h.p.interval:Int),I (h.p.zeta:Int),I (h.p.most:Int),I (h.bits:Int),.iface t u,ptr x 0]
theorem z4M {t:TypeId}{u:Value}{p:Pa}{g:List (List Nat)}{E:List (Nat×Nat)}(hp:RA p g E)(R:Src t u (Wu p g E)){X:Nat->Prop}{w:World}(hI:R.inv X w)(hX:∀k,X k->k<w.heap.size):
  Oa prog 100 [.iface t u] w λv w'=>∃k x,v= .tuple #[ptr k 0,I 0]/\NM w' k (gwC (UD p g E) t u x) 154/\NM w' x (elC (pfm p g E) 251 (YB t u (UI p g E) (pfm p g E).size)) 294/\w.heap.size<=x/\w.heap.size<=k/\x≠k/\R.inv (λj=>X j\/j=x\/j=k) w'/\Kp (λj=>¬X j) w w':=by
 have aA:=hp.len
 obtain⟨eg,dc⟩:=hp.small
 have hn:=hp.gr.n
 have cY:=hp.n1
 have rF:=hp.pk.bits
 have hg:=Ext.NY w
 have rZ:=hp.head
 have yV:(UD p g E).bits=(Po p g E g.length).length:=rfl
 have MU:UI p g E=28+((UD p g E).bits+7) / 8:=rfl
 have MV:(UD p g E).n=g.length:=rfl
 refine Nu (e:=[(0,_)]) func100 O ntmps100 O O$ qN O$ NQ O$ NF O$ py$ qN O$ Nz O$ qV (zcm z5b O O)$ NB$ It O$ An$ py$ PK (λw'=>R.inv X w'/\Kp (λk=>¬X k) w w') O$ NX 0 O O (⟨R.ext hI hg (λk hk=> .inl hk),hg.kp⟩) ?_
 refine NX 1 O O (⟨R.ext hI hg (λk hk=> .inl hk),hg.kp⟩)$ NG 4 O (ymm O) (⟨R.ext hI hg (λk hk=> .inl hk),hg.kp⟩)$ NG 5 O (zim R.mr O) (⟨R.ext hI hg (λk hk=> .inl hk),hg.kp⟩)$ NX 6 O O (⟨R.ext hI hg (λk hk=> .inl hk),hg.kp⟩)$ qO 2$ UO (i:=2) O O O (yci R.cl R.ml O O) (R.len (R.ext hI hg (λk hk=> .inl hk))) ?_
 rintro _ w1 ⟨rfl,ad⟩
 refine⟨⟨R.ext hI (hg.trans ad) (λk hk=> .inl hk),(hg.trans ad).kp⟩,?_⟩
 have cd:=hg.trans ad
 rw[aA]
 refine NG 3 O (ymi O O) (⟨R.ext hI (hg.trans ad) (λk hk=> .inl hk),(hg.trans ad).kp⟩) ?_
 rw[show min (28:Int) ((UI p g E+(pfm p g E).size:Nat):Int)=((28:Nat):Int) by omega]
 have mx:=R.ext hI cd (λk hk=> .inl hk)
 have lw:∀k,X k->k<w1.heap.size:=λk hk=>by have:=hX k hk;have:=cd.size;omega
 refine qO 7$ UO (i:=7) O O O (yci R.cr R.mr O O) (R.rd 0 28 mx lw (by omega)) ?_
 rintro _ w2 ⟨rfl,cR,aq⟩
 refine⟨⟨cR,cd.kp.trans aq⟩,?_⟩
 rw[zbm]
 have dK:Kp (λk=>¬X k) w w2:=cd.kp.trans aq
 have gS:∀k,X k->k<w2.heap.size:=λk hk=>by have:=lw k hk;have:=aq.size;omega
 refine NX 8 O O (⟨cR,cd.kp.trans aq⟩)$ NG 9 O (Q8 O O) (⟨cR,cd.kp.trans aq⟩)$ NG 10 O (Q8 O O) (⟨cR,cd.kp.trans aq⟩)$ NG 11 O (PO O) (⟨cR,cd.kp.trans aq⟩)$ NG 12 O (PO O) (⟨cR,cd.kp.trans aq⟩)$ qE$ py$ qN O$ Nz O$ P3 O O$ NB$ It O$ An$ qN O ?_
 refine Nz O$ NZ zep O (z7W (UD p g E) rZ w2) ?_
 rintro _ w3 ⟨rfl,ah⟩
 refine Nz O$ qV (Q8 (v:=hdV (UD p g E)) O O)$ qV (Q8 (v:=I 0) O O)$ NK O O (Qk (cs:=[_,_,_,_,_,_,_,_]) Ss O) ?_
 rintro _ w4 ⟨b6,rfl,mN,aB,aR⟩
 refine NP O (OA (news:=hdC (UD p g E)) Ss O O O O aR (by simp)) ?_
 rintro w5 ⟨fQ,ai⟩
 replace fQ:NM w5 b6 (hdC (UD p g E)) 149:=fQ
 have cn:Ext w3 w5:=aB.Nv ai (λi e=>by omega)
 have iF:=ah.trans cn
 refine NF O$ Of.qb (e:=[(0,_),(2,_),(3,_),(5,_),(6,_)]) ?_
 refine py$ qN O$ Nz O$ P3 O O$ NB$ It O$ An$ py$ qN O$ qV (Oh (news:=hdC (UD p g E)) z5h O Ss O (fQ.cells (n:=8) O) O)$ NZ zfI O (z83 (UD p g E) rZ (by show g.length<=_;omega) _) ?_
 rintro _ w6 ⟨rfl,aK⟩
 have iG:=iF.trans aK
 have pW:=R.ext cR iG (λk hk=> .inl hk)
 have ub:=aK.ND fQ
 refine Nz O$ qV (Q8 (v:=I ((UI p g E+(pfm p g E).size:Nat):Int)) O O)$ qV (Q8 (v:=I 0) O O)$ NQ O$ NQ O$ qM O$ Nz O$ P3 O O$ Ox$ NT O O$ Nz O$ Pv O O (yci R.cl R.ml O O) (R.len pW) ?_
 rintro _ w7 ⟨rfl,bV⟩
 rw[aA]
 have DW:=iG.trans bV
 have qD:=bV.ND ub
 refine P3 O O$ Ox$ OC O O ?_
 replace qD:NM w7 b6 [I ((UD p g E).n:Int),I ((UD p g E).m:Int),I ((UD p g E).p.O6:Int),I ((UD p g E).p.chain:Int),I ((UD p g E).p.interval:Int),I ((UD p g E).p.zeta:Int),I ((UD p g E).p.most:Int),I ((UD p g E).bits:Int)] 149:=qD
 refine NB$ It O$ An$ qN O$ NO TJ O$ qV (NJ U3 O O qD O)$ OI O O$ qV (Vu O O (by omega))$ OI O O ?_
 rw[show 28+((((UD p g E).bits:Nat):Int)+7) / 8=(UI p g E:Int) by omega]
 refine NF O$ Of.qb (e:=[(0,_),(2,_),(3,_),(5,_),(6,_),(9,_)]) ?_
 refine qN O$ NT O O$ Nz O ?_
 have jJ:=R.ext pW bV (λk hk=> .inl hk)
 refine Pv O O (yci R.cl R.ml O O) (R.len jJ) ?_
 rintro _ w8 ⟨rfl,dC⟩
 rw[aA]
 have jp:=DW.trans dC
 have Du:=R.ext jJ dC (λk hk=> .inl hk)
 have iN:=dC.ND qD
 have z28:=jp.size
 refine Nz O$ Qc O O ?_
 rw[show((UI p g E+(pfm p g E).size:Nat):Int)-(UI p g E:Int)=((pfm p g E).size:Int) by omega]
 refine qV (QP (cs:=[_,_,_]) zfu O zhN O O)$ qV (zgF zj2 (λ_ h=>by cases h) rfl) ?_
 have lb6:=iN.lt
 have Kg:=R.ext (Y:=λk=>X k\/k=b6) cR jp (λk hk=>hk.imp id λe=>by have:=ah.size;omega)
 have mz:∀k,(X k\/k=b6)->k<w8.heap.size:=λk hk=>by
  rcases hk with hk| e
  ·have:=gS k hk;have:=jp.size;omega
  ·omega
 refine NZ zeu O (z5q hp.ef (zd2 R (UI p g E) (pfm p g E).size (WE (UN p g E g.length) (pfm p g E)) (by omega) (by omega) hp.index) (X:=λk=>X k\/k=b6) Kg mz) ?_
 rintro _ w9 ⟨x,rfl,j6,hx,jK,aS⟩
 have kB:=aS.ND iN (λhh=>hh (.inr O))
 have DX:Kp (λk=>¬X k) w2 w9:=jp.kp.trans (aS.NR λk hk e=>hk (.inl e))
 have z9:=aS.size
 refine Nz O$ qV (Q8 (v:=ptr x 0) O O)$ qV (Q8 (v:=I 0) O O)$ NQ O$ NF O$ py$ Nw$ qN O$ Nz O$ P3 O O$ NF O$ It O$ py ?_
 have gB:=Ext.NY w9
 refine PK (λw'=>Ext w9 w') O$ NX 0 O O (gB)$ NG 2 O (Og SV O) gB$ qT 3 O (λ_ h=>NJ U3 O O (h.ND kB) O) gB$ NG 4 O (SX O O (by omega)) gB$ Qv 1 O zg9 O (z71 (gB.ND j6)) ?_
 rintro _ w10 ⟨rfl,rfl⟩
 refine⟨gB,?_⟩
 rw[show(pfm p g E).n=(UD p g E).n+1 from rfl]
 refine NG 5 O (yne O O) gB$ NG 6 O (PO O) gB$ qE$ Of.qb (e:=[(0,_),(2,_),(3,_),(6,_),(10,_),(69,_)]) ?_
 have ij:=gB.ND kB
 have yW:=gB.ND j6
 refine NN O (λh9=>?_)$ λh9=>?_
 ·exact absurd (by omega) h9
 ·refine An$ Ny$ qN O$ qV (Oh (news:=hdC (UD p g E)) z5h O Ss O (NM.cells (n:=8) ij O) O)$ NT O O$ qV (QP (cs:=[_,_,_,_,_,_,_,_,_,_]) zeL O zhk O O)$ NK O O (PW O (cs:=gwC (UD p g E) t u x) O) ?_;rintro _ w11 ⟨k,rfl,hk,aQ,bA⟩;refine NQ O$ NF O$ NA func100 O ?_;have DY:=gB.trans aQ;have z02:=dK.size;have z28:=jp.size;have zdd:=gB.size;have lbx:=yW.lt;refine⟨_,rfl,k,x,rfl,bA,DY.ND j6,by omega,by omega,by omega,R.ext jK DY (λj hj=>?_),(dK.trans DX).trans DY.kp⟩;rcases hj with hj|hj|hj
  ·exact .inl (.inl (.inl hj))
  ·exact .inl (.inr hj)
  ·exact .inr (by omega)
structure Tp {t:TypeId}{u:Value}{p:Pa}{g:List (List Nat)}{E:List (Nat×Nat)}(R:Src t u (Wu p g E))(k x:Nat)(X:Nat->Prop)(w:World):Prop where
 ok:RA p g E
 ND:NM w k (gwC (UD p g E) t u x) 154
 ix:NM w x (elC (pfm p g E) 251 (YB t u (UI p g E) (pfm p g E).size)) 294
 xk:X k
 xx:X x
 inv:R.inv X w
 lt:∀j,X j->j<w.heap.size
 x1:X 0
 x2:X 1
 gam:NM w 0 (QX .gamma) 260
 una:NM w 1 (QX .unary) 260
section
variable {t:TypeId}{u:Value}{p:Pa}{g:List (List Nat)}{E:List (Nat×Nat)}{R:Src t u (Wu p g E)}{k x:Nat}{X Y S:Nat->Prop}{w w':World}
theorem Tp.grow (h:Tp R k x X w)(hx:Ext w w')(hY:∀j,Y j->X j\/(w.heap.size<=j/\j<w'.heap.size))(bS:∀j,X j->Y j):Tp R k x Y w':=
 ⟨h.ok,hx.ND h.ND,hx.ND h.ix,bS _ h.xk,bS _ h.xx,R.ext h.inv hx (λj hj=>(hY j hj).imp id And.left),λj hj=>by
  rcases hY j hj with e| e
  ·have:=h.lt j e;have:=hx.size;omega
  ·exact e.2,bS _ h.x1,bS _ h.x2,hx.ND h.gam,hx.ND h.una⟩
theorem Tp.ext (h:Tp R k x X w)(hx:Ext w w'):Tp R k x X w':=h.grow hx (λj hj=> .inl hj) λj hj=>hj
theorem Tp.less (h:Tp R k x Y w)(bS:∀j,X j->Y j)(hk:X k)(hx:X x)(h1:X 0)(h2:X 1):Tp R k x X w:=
 ⟨h.ok,h.ND,h.ix,hk,hx,R.ext h.inv (Ext.refl w) (λj hj=> .inl (bS j hj)),λj hj=>h.lt j (bS j hj),h1,h2,h.gam,h.una⟩
theorem Tp.step (h:Tp R k x X w)(hk:Kp S w w')(hS:∀j,S j->X j/\j≠k/\j≠x/\j≠0/\j≠1)(hY:∀j,Y j->X j\/(w.heap.size<=j/\j<w'.heap.size))(bS:∀j,X j->Y j):Tp R k x Y w':=
 ⟨h.ok,hk.ND h.ND (λe=>(hS _ e).2.1 O),hk.ND h.ix (λe=>(hS _ e).2.2.1 O),bS _ h.xk,bS _ h.xx,R.step h.inv hk (λj hj=>(hS j hj).1) (λj hj=>(hY j hj).imp id And.left),λj hj=>by
  rcases hY j hj with e| e
  ·have:=h.lt j e;have:=hk.size;omega
  ·exact e.2,bS _ h.x1,bS _ h.x2,hk.ND h.gam (λe=>(hS _ e).2.2.2.1 O),hk.ND h.una (λe=>(hS _ e).2.2.2.2 O)⟩
theorem Tp.own (h:Tp R k x X w)(hk:Kp S w w')(hS:∀j,S j->X j/\j≠k/\j≠x/\j≠0/\j≠1):Tp R k x X w':=
 ⟨h.ok,hk.ND h.ND (λe=>(hS _ e).2.1 O),hk.ND h.ix (λe=>(hS _ e).2.2.1 O),h.xk,h.xx,R.own h.inv hk (λj hj=>(hS j hj).1),λj hj=>by have:=h.lt j hj;have:=hk.size;omega,h.x1,h.x2,hk.ND h.gam (λe=>(hS _ e).2.2.2.1 O),hk.ND h.una (λe=>(hS _ e).2.2.2.2 O)⟩
theorem Tp.src (h:Tp R k x X w)(hk:Kp (λj=>¬X j) w w')(hI:R.inv X w'):Tp R k x X w':=
 ⟨h.ok,hk.ND h.ND (λe=>e h.xk),hk.ND h.ix (λe=>e h.xx),h.xk,h.xx,hI,λj hj=>by have:=h.lt j hj;have:=hk.size;omega,h.x1,h.x2,hk.ND h.gam (λe=>e h.x1),hk.ND h.una (λe=>e h.x2)⟩
def Tp.R2 (R:Src t u (Wu p g E))(h:RA p g E):Src 251 (YB t u (UI p g E) (pfm p g E).size) (WE (UN p g E g.length) (pfm p g E)):=
 zd2 R (UI p g E) (pfm p g E).size _ (by have:=h.len;omega) (by have:=h.small;omega) h.index
theorem Tp.cells (h:Tp R k x X w):NM w k [I ((UD p g E).n:Int),I ((UD p g E).m:Int),I ((UD p g E).p.O6:Int),I ((UD p g E).p.chain:Int),I ((UD p g E).p.interval:Int),I ((UD p g E).p.zeta:Int),I ((UD p g E).p.most:Int),I ((UD p g E).bits:Int),.iface t u,ptr x 0] 154:=h.ND
theorem zbX (h:Tp R k x X w):Oa prog 34 [ptr k 0] w λv w'=>v=I (g.length:Int)/\w'=w:=by
 have hB:=h.cells
 refine Nu (e:=[(0,_)]) func34 O ntmps34 O O$ qN O$ NF O$ py$ qN O$ Nz O$ qV (OP U29 O O)$ NB$ It O$ An$ qN O$ Nz O$ O8 O$ NO VC O ?_
 refine NO SV O$ qV (NJ U3 O O hB O)$ NF O$ NA func34 O ?_
 exact⟨_,rfl,rfl,rfl⟩
theorem ZP (h:Tp R k x X w){b v c:Nat}(hv:v<g.length)(hr:Rd w (.slice (some ⟨b,0,none⟩) 1 c) 1 1 [I (v:Int)]):Oa prog 66 [ptr k 0,.slice (some ⟨b,0,none⟩) 1 c] w λv w'=>v=I 0/\w'=w:=by
 have hB:=h.cells
 have hn:(UD p g E).n=g.length:=rfl
 refine Nu (e:=[(0,_),(1,_)]) func66 O ntmps66 O O$ qN O$ NF O$ py$ qN O$ Nz O$ qV (OP U29 O O)$ NB$ It O$ An$ py$ qN O$ Nz O$ Q0 Qd O ?_
 refine Nz O$ NB$ Nw$ Qb (α:=Nat) (0) (λi=>[(0,ptr k 0),(9,.slice (some ⟨b,0,none⟩) 1 c),(10,I 1),(11,I (i:Int))]) (λi w'=>w'=w/\i<=1) (λi=>1-i) ?hI ?hround
 case hI=>exact⟨rfl,Nat.zero_le _⟩
 case hround=>
  rintro i w2 ⟨rfl,hi⟩ ih
  try dsimp only
  refine qN O$ Pb O O$ NB$ py$ NN O (λh0=>?_)$ λh0=>?_
  ·have kl:i=0:=by omega
   subst kl;refine An$ py$ Nw$ qN O$ qV (OH Qd OL O O (by omega))$ qV (Oi U3 O O (P6 hr O))$ NQ O$ qM O$ Nz O$ Pb O O$ Ox$ NT O O$ Nz O$ O8 O ?_;refine NO VC O$ NO SV O$ qV (NJ U3 O O hB O)$ RN O O$ Ox$ OC O O$ NB$ It O$ An$ Ny$ NC O$ OI O O$ Nz O$ NB ?_;exact(ih 1 _ ⟨rfl,by omega⟩ (by omega)).qb
  ·refine NL O$ qN O$ NF O$ NA func66 O ?_;exact⟨_,rfl,rfl,rfl⟩
theorem z8y {p:Pa}{g:List (List Nat)}{E:List (Nat×Nat)}{v a n:Nat}{s:NH}(hs:((Oc (Po p g E g.length)).drop (a / 8)).take n=s)(ha:(Po p g E v).length=a)(hv:v<g.length)(hn:a+(Wg p g E v).length<=8*(a / 8+n)):∃rest,(O0 s).drop (a%8)=Wg p g E v++rest:=by
 have i5:∃r,Po p g E g.length=Po p g E (v+1)++r:=by
  have key:∀d i,∃r,Po p g E (i+d)=Po p g E i++r:=λd i=>by
   induction d with
   |zero=>exact⟨[],by simp⟩
   | succ d ih =>
     obtain⟨r,hr⟩:=ih;exact⟨r++Wg p g E (i+d),by rw[<-Nat.add_assoc,RB,hr,List.append_assoc]⟩
  obtain⟨r,hr⟩:=key (g.length-(v+1)) (v+1);rw[show v+1+(g.length-(v+1))=g.length by omega] at hr;exact⟨r,hr⟩
 obtain⟨r,hr⟩:=i5
 obtain⟨z,hz,-,-⟩:=QV (Po p g E g.length)
 rw[<-hs,Tc,Si,hz,hr,RB,List.drop_take,List.drop_drop,show 8*(a / 8)+a%8=a by omega,List.append_assoc,List.append_assoc,List.drop_left' ha,List.take_append,List.take_of_length_le (by omega)]
 exact⟨_,rfl⟩
theorem z4R (h:Tp R k x X w){v:Nat}(hv:v<g.length):Oa prog 105 [ptr k 0,I (v:Int)] w λr w'=>∃(b a e:Nat) (s:NH) (rest:List Bool),r= .tuple #[ptr b 0,I (e:Int),I 0]/\Sn w' b s a/\(O0 s).drop a=Wg p g E v++rest/\a+(Wg p g E v).length=e/\w.heap.size<=b/\Tp R k x (λj=>X j\/j=b) w'/\Kp (λj=>¬X j) w w':=by
 have hn:=h.ok.gr.n
 have rF:=h.ok.pk.bits
 have hB:=h.cells
 have DZ:=Z6 p g E (n:=g.length) (i:=v) (by omega)
 have yX:=Z6 p g E (n:=g.length) (i:=v+1) (by omega)
 have pA:=Vz p g E (g.length-(v+1)) (v+1)
 rw[show v+1+(g.length-(v+1))=g.length by omega] at pA
 have dJ:=RB p g E v
 have lq:=congrArg List.length dJ
 rw[List.length_append] at lq
 refine Nu (e:=[(0,_),(1,_)]) func105 O ntmps105 O O$ qN O$ NQ O$ NQ O$ NQ O$ qM O$ Nz O$ O8 O$ NO z6z O$ qV (NJ z2b O O hB O)$ Nz O$ NZ zcI O (z1f h.ok.ef (Tp.R2 R h.ok) h.inv h.lt h.xx h.ix DZ) ?_
 rintro _ w1 ⟨rfl,mx,aM⟩
 have h1:=h.src aM mx
 have aj:=h1.cells
 refine Nz O$ ON O O$ ON O O$ NQ O$ NF O$ py$ qN O$ Nz O$ P3 O O$ NB$ It O$ An$ qN O$ Nz O ?_
 refine O8 O$ NO z6z O$ qV (NJ z2b O O aj O)$ Nz O$ OI O O ?_
 rw[show(v:Int)+1=((v+1:Nat):Int) by omega]
 refine NZ zcI O (z1f h1.ok.ef (Tp.R2 R h1.ok) h1.inv h1.lt h1.xx h1.ix yX) ?_
 rintro _ w2 ⟨rfl,cR,aq⟩
 have h2:=h1.src aq cR
 have am:=h2.cells
 have dK:=aM.trans aq
 obtain⟨al,B4⟩:∃n,(Po p g E v).length=n:=⟨_,rfl⟩
 obtain⟨bl,fL⟩:∃n,(Po p g E (v+1)).length=n:=⟨_,rfl⟩
 rw[B4,fL]
 have yV:(UD p g E).bits=(Po p g E g.length).length:=rfl
 refine Nz O$ ON O O$ ON O O$ NQ O$ NF O$ Of.qb (e:=[(0,_),(4,_),(5,_),(6,_),(7,_),(8,_),(9,_)]) ?_
 refine py$ Nw$ qN O$ Nz O$ P3 O O$ NF O$ It O$ qN O$ NT O O$ P9 O O$ Ox$ NT O O$ Nz O$ O8 O ?_
 refine NO VC O$ NO TJ O$ qV (NJ U3 O O am O)$ qV ((OM O U3 Qe (by omega)))$ P9 O O$ Ox$ OC O O$ NF O$ It O$ An$ Ny$ qN O$ Nz O$ qV (zfv O O O (by simp only[IntKind.bits];omega) (by omega)) ?_
 refine qV (Ow O Qe U3 (by omega))$ NF O$ Of.qb (e:=[(0,_),(4,_),(5,_),(6,_),(7,_),(8,_),(9,_),(10,_)]) ?_
 refine qN O$ Nz O$ O8 O$ NO zbj O$ qV (NJ z5b O O am O)$ Nz O$ OI O O$ Nz O$ qV (TF O O)$ qV (Ow O Qe U3 (by omega))$ qV (Vu O O (by omega))$ Nz O$ Qc O O ?_
 have B3:28+al / 8+((bl+7) / 8-al / 8)<=(Wu p g E).length:=by have:=h.ok.len;unfold UI at this;omega
 rw[show 28+((al / 8:Nat):Int)=((28+al / 8:Nat):Int) by omega]
 rw[show((((bl+7)%18446744073709551616:Nat):Int)) / 8-((al / 8:Nat):Int)=(((bl+7) / 8-al / 8:Nat):Int) by omega]
 refine Pv O O (yci R.cr R.mr O O) (R.rd (28+al / 8) ((bl+7) / 8-al / 8) h2.inv h2.lt B3) ?_
 rintro _ w3 ⟨rfl,DF,aw⟩
 have h3:=h2.src aw DF
 rw[zbF h.ok (al / 8) ((bl+7) / 8-al / 8) (by omega)]
 obtain⟨s,hs⟩:∃s,((Oc (Po p g E g.length)).drop (al / 8)).take ((bl+7) / 8-al / 8)=s:=⟨_,rfl⟩
 rw[hs]
 refine Nz O$ ON O O$ ON O O$ NQ O$ NF O$ Of.qb (e:=[(4,_),(5,_),(6,_),(7,_),(8,_),(9,_),(10,_),(11,_)]) ?_
 refine py$ qN O$ Nz O$ P3 O O ?_
 have fP:s.length=(bl+7) / 8-al / 8:=by
  rw[<-hs,List.length_take,List.length_drop,Ot];omega
 obtain⟨rest,oa⟩:∃rest,(O0 s).drop (al%8)=Wg p g E v++rest:=z8y hs B4 hv (by omega)
 refine NB$ It O$ An$ qN O$ Nz O$ NZ z63 O (VG s (by omega) w3) ?_
 rintro _ w4 ⟨b,rfl,dz,aB,hb⟩
 have lb:=dz.1.lt
 have h4:Tp R k x (λj=>X j\/j=b) w4:=h3.grow aB (λj hj=>hj.imp id λe=>by omega) (λj hj=> .inl hj)
 have eX:¬X b:=λe=>by have:=h3.lt b e;omega
 refine NQ O$ qM O$ NT O O$ qV (Ow O Qe U3 (by omega))$ Nz O$ qV (TT O O (by omega))$ Qc O O ?_
 rw[show(al:Int)-8*((al / 8:Nat):Int)=((al%8:Nat):Int) by omega]
 refine NZ zaG O (Ya dz (al%8) (by omega)) ?_
 rintro _ w5 ⟨rfl,sN,ai⟩
 have h5:=h4.own ai (λj e=>by
  subst e
  exact⟨.inr O,λe=>eX (e▸h.xk),λe=>eX (e▸h.xx),λe=>eX (e▸h.x1),λe=>eX (e▸h.x2)⟩)
 refine qM O$ NT O O$ qV (Ow O Qe U3 (by omega))$ Nz O$ qV (TT O O (by omega))$ Qc O O ?_
 rw[show(bl:Int)-8*((al / 8:Nat):Int)=((bl-8*(al / 8):Nat):Int) by omega]
 refine NQ O$ NQ O$ NF O$ Of.qb (e:=[(4,_),(5,_),(6,_)]) ?_
 refine NA func105 O ?_
 have z03:=(dK.trans aw).size
 exact⟨_,rfl,b,al%8,bl-8*(al / 8),s,rest,rfl,sN,oa,by omega,by omega,h5,((dK.trans aw).trans aB.kp).Nv ai (λj e=> .inl (by omega))⟩
end
def NS (g:List (List Nat))(v:Nat):List Nat:=(g[v]?).getD []
def Oj (g:List (List Nat))(E:List (Nat×Nat))(v:Nat):Nat:=if NS g v=[] then 0 else((E[v]?).getD (0,0)).1
def RX (p:Pa)(g:List (List Nat))(E:List (Nat×Nat))(v:Nat):List (Cd×Nat):=if NS g v=[] then [] else T7 p.list v (NS g v) (Pr g v (Oj g E v)) (Oj g E v)
theorem z77 (p:Pa)(g:List (List Nat))(E:List (Nat×Nat))(v:Nat):Wg p g E v=O5 (Pn p.list (NS g v).length (Oj g E v))++O5 (RX p g E v):=by
 unfold Wg RX Oj
 rw[<-R3]
 by_cases h:NS g v=[]
 ·have h':(g[v]?).getD []=[]:=h;rw[if_pos h,if_pos h,h',h]
  rfl
 ·rw[if_neg h,if_neg h];have:=Zn p.list v (ref:=Pr g v ((E[v]?).getD (0,0)).1) ((E[v]?).getD (0,0)).1 h;rw[<-this];rfl
section
variable {t:TypeId}{u:Value}{p:Pa}{g:List (List Nat)}{E:List (Nat×Nat)}{R:Src t u (Wu p g E)}{k x:Nat}{X Y S:Nat->Prop}{w w':World}
theorem RA.ent (h:RA p g E){v:Nat}(hv:v<g.length):YM p g E v (NS g v).length ((E[v]?).getD (0,0)):=by
 have hl:=h.pk.el
 obtain⟨e,he⟩:∃e,E[v]? =some e:=⟨_,List.getElem?_eq_getElem (by omega)⟩
 have:=h.pk.ok.ent v e he
 rw[he];exact this
theorem RA.z1U (h:RA p g E){v:Nat}(hv:v<g.length):Oj g E v<=p.O6/\Oj g E v<=v:=by
 unfold Oj
 split
 ·omega
 ·rcases h.ent hv with e| e
  ·rw[e];exact⟨Nat.zero_le _,Nat.zero_le _⟩
  ·exact⟨e.2.1,e.2.2.1⟩
theorem RA.suc (h:RA p g E){v:Nat}(hv:v<g.length):Ov (NS g v)/\(NS g v).length<=g.length/\∀y∈NS g v,y<g.length:=by
 have hm:NS g v∈g:=by
  unfold NS;rw[List.getElem?_eq_getElem hv];exact List.getElem_mem hv
 exact⟨h.gr.ok _ hm,h.gr.len hm,h.gr.lt _ hm⟩
theorem z0o (h:Tp R k x X w){v:Nat}(hv:v<g.length):Oa prog 67 [ptr k 0,I (v:Int)] w λr w'=>∃(b a:Nat) (s:NH) (rest:List Bool),r= .tuple #[.agg #[I ((NS g v).length:Int),I (Oj g E v:Int)],ptr b 0,I ((a+(O5 (RX p g E v)).length:Nat):Int),I 0]/\Sn w' b s a/\(O0 s).drop a=O5 (RX p g E v)++rest/\w.heap.size<=b/\Tp R k x (λj=>X j\/j=b) w'/\Kp (λj=>¬X j) w w':=by
 have hn:=h.ok.gr.n
 obtain⟨eg,dc,pp⟩:=h.ok.suc hv
 have gW:=h.ok.z1U hv
 have qx:=z77 p g E v
 have s6:(NS g v).length=0->Oj g E v=0:=λe=>by unfold Oj;rw[if_pos (List.eq_nil_of_length_eq_zero e)]
 refine Nu (e:=[(0,_),(1,_)]) func67 O ntmps67 O O$ qN O$ NK O O (Qk (cs:=[_,_]) QD O) ?_
 rintro _ w1 ⟨b4,rfl,ev,ad,aH⟩
 have l4:=aH.lt
 have h1:Tp R k x (λj=>X j\/j=b4) w1:=h.grow ad (λj hj=>hj.imp id λe=>by omega) (λj hj=> .inl hj)
 have aB:∀j,X j->j≠b4:=λj hj e=>by have:=h.lt j hj;omega
 refine NQ O$ NQ O$ NQ O$ qM O$ NT O O$ NZ zfA O (z4R h1 hv) ?_
 rintro _ w2 ⟨b,a,e,s,rest,rfl,cA,hd,he,hb,h2,aq⟩
 have bF:=aq.ND aH (λe=>e (.inr O))
 have Kh:=h2.cells
 have lb:=cA.1.lt
 have eX:∀j,X j->j≠b:=λj hj e=>by have:=h.lt j hj;have:=ad.size;omega
 have lz:∀j,j=b->(X j\/j=b4)\/j=b:=λj e=> .inr e
 refine Nz O$ qV (Q8 (v:=ptr b 0) O O)$ qV (Q8 (v:=I (e:Int)) O O)$ qV (Q8 (v:=I 0) O O)$ NQ O$ NQ O$ NF O$ py$ qN O$ Nz O$ P3 O O$ NB$ It O$ An ?_
 refine qN O$ NT O O$ O8 O$ NO VC O$ NO Xq O$ qV (Oh (news:=TR p) U88 O Qm O (NM.cells (i:=2) (n:=5) Kh O) O)$ NZ Zg O (Rv p w2) ?_
 rintro _ w3 ⟨rfl,ah⟩
 have h3:=h2.ext ah
 have jO:Sn w3 b s a:=⟨ah.ND cA.1,cA.2⟩
 rw[qx,List.append_assoc] at hd
 refine NZ zcC O (z0L jO p.list h.ok.Pk.1 h3.gam h3.una (λe=>eX 0 h.x1 e) (λe=>eX 1 h.x2 e) (NS g v).length (Oj g E v) (by omega) gW.1 s6 _ hd) ?_
 rintro _ w4 ⟨rfl,dz,ao⟩
 have CI:=QU hd
 have h4:=h3.own ao (λj e=>⟨.inr e,λe'=>eX k h.xk (e'▸e),λe'=>eX x h.xx (e'▸e),λe'=>eX 0 h.x1 (e'▸e),λe'=>eX 1 h.x2 (e'▸e)⟩)
 have cx:=ao.ND (ah.ND bF) (λe=>by omega)
 have fP:=congrArg List.length qx
 rw[List.length_append] at fP
 refine Nz O$ qV (Q8 (v:= .agg #[I ((NS g v).length:Int),I (Oj g E v:Int)]) O O)$ qV (Q8 (v:=I 0) O O)$ NK O O (Qk (cs:=[_,_]) QD O) ?_
 rintro _ w5 ⟨b11,rfl,jf,aT,bA⟩
 refine NP O (OA (news:=[I ((NS g v).length:Int),I (Oj g E v:Int)]) QD O O O O bA (by simp)) ?_
 rintro w6 ⟨ob,aP⟩
 replace ob:NM w6 b11 [I ((NS g v).length:Int),I (Oj g E v:Int)] 157:=ob
 have cQ:Ext w4 w6:=aT.Nv aP (λj e=>by omega)
 have h6:=h4.ext cQ
 have jN:Sn w6 b s (a+(O5 (Pn p.list (NS g v).length (Oj g E v))).length):=⟨cQ.ND dz.1,dz.2⟩
 refine NF O$ Of.qb (e:=[(4,_),(5,_),(6,_),(7,_),(8,_),(9,_),(10,_),(11,_)]) ?_
 refine py$ qN O$ Nz O$ P3 O O$ Ox$ NT O O$ NZ WO O (SL jN) ?_
 rintro _ w6 ⟨rfl,rfl⟩
 refine Nz O$ P9 O O$ Ox$ OC O O$ NB$ It O$ An$ qN O$ qV (Oh (news:=[I ((NS g v).length:Int),I (Oj g E v:Int)]) z2o O QD O (NM.cells (n:=2) ob O) O)$ NT O O ?_
 have bZ:=cQ.ND cx
 refine NP O (OA (news:=[I ((NS g v).length:Int),I (Oj g E v:Int)]) QD O O O O bZ (by simp)) ?_
 rintro w7 ⟨bC,ax⟩
 replace bC:NM w7 b4 [I ((NS g v).length:Int),I (Oj g E v:Int)] 157:=bC
 have h7:=(h6.own ax (λj e=>⟨.inl (.inr e),λe'=>aB k h.xk (e'▸e),λe'=>aB x h.xx (e'▸e),λe'=>aB 0 h.x1 (e'▸e),λe'=>aB 1 h.x2 (e'▸e)⟩)).less (X:=λj=>X j\/j=b) (λj hj=>hj.imp .inl id) (.inl h.xk) (.inl h.xx) (.inl h.x1) (.inl h.x2)
 have lA:Sn w7 b s (a+(O5 (Pn p.list (NS g v).length (Oj g E v))).length):=⟨ax.ND jN.1 (by omega),jN.2⟩
 refine NQ O$ NQ O$ NF O$ O9 func67 (.cell z2o O QD O (NM.cells (n:=2) bC (news:=[_,_]) O) O (.tmp O (.tmp O (.tmp O .nil)))) (⟨_,rfl,b,a+(O5 (Pn p.list (NS g v).length (Oj g E v))).length,s,rest,?_,lA,CI,by have:=ad.size;omega,h7,?_⟩)
 ·rw[show a+(O5 (Pn p.list (NS g v).length (Oj g E v))).length+(O5 (RX p g E v)).length=e by omega]
  rfl
 ·have pj:Kp (λj=>¬X j) w w4:=((ad.kp.trans (aq.NR λj e e'=>e (.inl e'))).trans ah.kp).Nv ao (λj e=> .inl (by have:=ad.size;omega));exact(pj.trans cQ.kp).Nv ax (λj e=> .inl (by omega))
end
section
variable {t:TypeId}{u:Value}{p:Pa}{g:List (List Nat)}{E:List (Nat×Nat)}{R:Src t u (Wu p g E)}{k x gb pb fb:Nat}{X Y S:Nat->Prop}{w w':World}
abbrev z3q (w:World)(vv:Value)(l:List Nat):Prop:=Sl w vv 46 1 l.length (l.map Oe)
def So (E:List (Nat×Nat))(v:Nat):Nat:=((E[v]?).getD (0,0)).2
structure TdM (R:Src t u (Wu p g E))(k x gb pb fb:Nat)(X:Nat->Prop)(w:World):Prop where
 gw:Tp R k x X w
 bg:NM w gb [ptr k 0] 29
 bp:NM w pb [I (p.O6:Int),I (p.chain:Int),I (p.interval:Int),I (p.zeta:Int),I (p.most:Int)] 88
 bf:NM w fb [.func (.func 153) #[] #[ptr gb 0,ptr pb 0,ptr fb 0]] 269
 xg:X gb
 xp:X pb
 xf:X fb
theorem TdM.step (h:TdM R k x gb pb fb X w)(hk:Kp S w w')(hS:∀j,S j->X j->False)(h2:Tp R k x Y w')(bS:∀j,X j->Y j):TdM R k x gb pb fb Y w':=
 ⟨h2,hk.ND h.bg (λe=>hS _ e h.xg),hk.ND h.bp (λe=>hS _ e h.xp),hk.ND h.bf (λe=>hS _ e h.xf),bS _ h.xg,bS _ h.xp,bS _ h.xf⟩
def Vn (R:Src t u (Wu p g E))(k x gb pb fb v behind:Nat)(X:Nat->Prop)(w:World):Prop:=
 Oa prog 153 [I (v:Int),I (behind:Int),ptr gb 0,ptr pb 0,ptr fb 0] w λr w'=>∃vv,r= .tuple #[vv,I 0]/\z3q w' vv (NS g v)/\(∀b,vv.ownBlock=some b->w.heap.size<=b)/\Tp R k x (λj=>X j\/vv.ownBlock=some j) w'/\Kp (λj=>¬X j) w w'
theorem RA.back (h:RA p g E){v:Nat}(hv:v<g.length)(hq:0<Oj g E v):Oj g E v<=v/\So E v=So E (v-Oj g E v)+1/\Pr g v (Oj g E v)=NS g (v-Oj g E v)/\0<(NS g (v-Oj g E v)).length/\(NS g (v-Oj g E v)).length<=p.most/\(NS g v).length<=p.most/\NS g v≠[]/\So E v<=p.chain:=by
 have bD:NS g v≠[]:=λe=>by unfold Oj at hq;rw[if_pos e] at hq;omega
 have hb:Oj g E v=((E[v]?).getD (0,0)).1:=by unfold Oj;rw[if_neg bD]
 rcases h.ent hv with e|⟨h1,h2,h3,l,e',h4,h5,h6,h7⟩
 ·rw[hb,e] at hq;cases hq
 ·rw[<-hb] at h1 h2 h3 h4 h5;have Ki:=of_decide_eq_true h7;have hs:NS g (v-Oj g E v)=l:=by unfold NS;rw[h4];rfl
  refine⟨h3,?_,?_,by rw[hs];omega,by rw[hs];omega,by omega,bD,?_⟩
  ·unfold So;rw[h5];exact h6
  ·unfold Pr;rw[if_neg (by omega)];rfl
  ·show((E[v]?).getD (0,0)).2<=_;omega
theorem z7c (ay:RA p g E)(jn:g.length<50){v:Nat}(hv:v<g.length){b a:Nat}{s:NH}{rest:List Bool}(hR:Sn w b s a)(hd:(O0 s).drop a=O5 (RX p g E v)++rest)(hG:NM w 0 (QX .gamma) 260)(hU:NM w 1 (QX .unary) 260)(h1:¬0=b)(h2:¬1=b)
  {vb:Value} (dl:Oj g E v=0->vb= .slice none 0 0) (hS:0<Oj g E v->z3q w vb (NS g (v-Oj g E v))) (AP:∀j,vb.ownBlock=some j->j≠b):
  Oa prog 154 [ptr b 0,I (v:Int),I (g.length:Int),.agg #[I ((NS g v).length:Int),I (Oj g E v:Int)],vb,lpV p.list] w λr w'=>∃vv,r= .tuple #[vv,I 0]/\z3q w' vv (NS g v)/\(∀j,vv.ownBlock=some j->w.heap.size<=j)/\Sn w' b s (a+(O5 (RX p g E v)).length)/\Kp (λj=>j=b) w w':=by
 obtain⟨eg,dc,pp⟩:=ay.suc hv
 have gW:=ay.z1U hv
 by_cases bD:NS g v=[]
 ·have s6:Oj g E v=0:=by unfold Oj;rw[if_pos bD]
  have E0:RX p g E v=[]:=by unfold RX;rw[if_pos bD]
  rw[s6,dl s6,E0,bD];refine(z1Q p.list ay.Pk.1 v (by omega) g.length (by omega)).mono λr w' hr=>?_;obtain⟨rfl,hx⟩:=hr;exact⟨_,rfl,Sl.nil _ _ _,λj e=>(by cases e),⟨hx.ND hR.1,hR.2⟩,hx.kp⟩
 ·have E0:RX p g E v=T7 p.list v (NS g v) (Pr g v (Oj g E v)) (Oj g E v):=by unfold RX;rw[if_neg bD]
  have jM:Ov (Pr g v (Oj g E v))/\(Pr g v (Oj g E v)).length<=60:=by
   have hn:=ay.gr.n;rcases Vm g v (Oj g E v) with e| e
   ·rw[e];exact⟨⟨List.Pairwise.nil,λy hy=>(by cases hy)⟩,by simp⟩
   ·exact⟨ay.gr.ok _ e,by have:=ay.gr.len e;omega⟩
  have In:=Yb ay.Pk.1 (x:=v) (by omega) eg jM.1 gW.1 (by omega) jM.2;rw[E0] at hd⊢;rcases Nat.eq_zero_or_pos (Oj g E v) with h0|h0
  ·have lO:Pr g v (Oj g E v)=[]:=by unfold Pr;rw[if_pos h0]
   rw[dl h0];have:=Yw hR p.list ay.Pk.1 v (by omega) g.length (by omega) (ra:=none) (rc:=0) (NS g v) (Pr g v (Oj g E v)) eg bD (by omega) pp jM.1 (Oj g E v) gW.1 (λ_=>lO) hG hU h1 h2 (λw2 aq=>by rw[lO];exact(Sl.nil _ 46 1).rd) (by rw[lO];exact Nat.le_refl _) (by omega) rest hd;rw[lO] at this⊢;exact this
  ·obtain⟨q1,q2,q3,q4,q5,q6,q7,q8⟩:=ay.back hv h0;have E1:=hS h0;rw[<-q3] at E1
   obtain⟨ga,gc,rfl,ja⟩:∃a c,vb= .slice a (Pr g v (Oj g E v)).length c/\(Pr g v (Oj g E v)).length<=c:=by
    rcases E1.shape with⟨-,e⟩|⟨b,c,e,hc⟩
    ·rw[q3] at e;omega
    ·exact⟨_,c,e,hc⟩
   exact Yw hR p.list ay.Pk.1 v (by omega) g.length (by omega) (ra:=ga) (rc:=gc) (NS g v) (Pr g v (Oj g E v)) eg bD (by omega) pp jM.1 (Oj g E v) gW.1 (λe=>by omega) hG hU h1 h2 (λw2 aq=>(E1.kp aq λj e=>AP j e).rd) ja (by omega) rest hd
end
section
variable {t:TypeId}{u:Value}{p:Pa}{g:List (List Nat)}{E:List (Nat×Nat)}{R:Src t u (Wu p g E)}{k x gb pb fb:Nat}{X Y S:Nat->Prop}{w w':World}
theorem YF (jn:g.length<50){v behind:Nat}(hv:v<g.length)(B7:behind+So E v<=p.chain)(ht:TdM R k x gb pb fb X w)
  (ih:0<Oj g E v->∀(X':Nat->Prop) (w':World),TdM R k x gb pb fb X' w'->Vn R k x gb pb fb (v-Oj g E v) (behind+1) X' w'):Vn R k x gb pb fb v behind X w:=by
 have ay:=ht.gw.ok
 have hn:=ay.gr.n
 have MW:p.chain<=1000000:=by have:=ay.Pk.2.1;omega
 obtain⟨eg,dc,pp⟩:=ay.suc hv
 have gW:=ay.z1U hv
 have yb:=ht.bg
 unfold Vn
 refine Nu (e:=[(0,_),(1,_),(2,_),(3,_),(4,_)]) func153 O ntmps153 O O$ qN O$ NQ O$ NQ O$ qM O$ qV (NJ U29 O O yb O)$ Nz O$ NZ zhu O (z0o ht.gw hv) ?_
 rintro _ w1 ⟨b,a,s,rest,rfl,kQ,tP,bN,h1,aM⟩
 have lb1:=kQ.1.lt
 have mz:∀j,X j->j≠b:=λj hj e=>by have:=ht.gw.lt j hj;omega
 refine Nz O$ qV (Q8 (v:= .agg #[I ((NS g v).length:Int),I (Oj g E v:Int)]) O O)$ qV (Q8 (v:=ptr b 0) O O)$ qV (Q8 (v:=I ((a+(O5 (RX p g E v)).length:Nat):Int)) O O)$ qV (Q8 (v:=I 0) O O)$ NK O O (Qk (cs:=[_,_]) QD O) ?_
 rintro _ w2 ⟨b9,rfl,mS,ag,cB⟩
 refine NP O (OA (news:=[I ((NS g v).length:Int),I (Oj g E v:Int)]) QD O O O O cB (by simp)) ?_
 rintro w3 ⟨cT,aw⟩
 replace cT:NM w3 b9 [I ((NS g v).length:Int),I (Oj g E v:Int)] 157:=cT
 have aO:Ext w1 w3:=ag.Nv aw (λj e=>by omega)
 have l93:=cT.lt
 have z13:=aO.size
 have h3:Tp R k x (λj=>(X j\/j=b)\/j=b9) w3:=h1.grow aO (λj hj=>hj.imp id λe=>by omega) (λj hj=> .inl hj)
 have cF:Kp (λj=>¬X j) w w3:=aM.trans aO.kp
 have qo:TdM R k x gb pb fb (λj=>(X j\/j=b)\/j=b9) w3:=ht.step cF (λj e e'=>e e') h3 (λj hj=> .inl (.inl hj))
 have jO:Sn w3 b s a:=⟨aO.ND kQ.1,kQ.2⟩
 refine NQ O$ NQ O$ NF O$ py$ qN O$ Nz O$ P3 O O$ NB$ It O$ An$ qN O$ NF O$ py$ qN O ?_
 refine NO R9 O$ qV (NJ U3 O O cT O)$ P9 O O$ NB$ Of.qb (e:=[(0,_),(1,_),(2,_),(3,_),(4,_),(7,_),(8,_),(9,_),(10,_),(11,_),(12,_),(13,_),(28,_)]) ?_
 refine Oy (λe' w'=>∃vb,e'=[(0,I (v:Int)),(2,ptr gb 0),(3,ptr pb 0),(9,ptr b9 0),(10,ptr b 0),(11,I ((a+(O5 (RX p g E v)).length:Nat):Int)),(13,vb)]/\Tp R k x (λj=>(X j\/j=b)\/j=b9) w'/\Kp (λj=>¬((X j\/j=b)\/j=b9)) w3 w'/\(Oj g E v=0->vb= .slice none 0 0)/\(0<Oj g E v->z3q w' vb (NS g (v-Oj g E v)))/\(∀j,vb.ownBlock=some j->j≠b)) ?cJ$ λcJ=>?di
 case cJ=>
  rintro e' w4 ⟨vb,rfl,h4,ao,nq,fM,E2⟩;have xD:TdM R k x gb pb fb (λj=>(X j\/j=b)\/j=b9) w4:=qo.step ao (λj e e'=>e e') h4 (λj hj=>hj);have ju:=ao.ND cT (λe=>e (.inr O));have dz:Sn w4 b s a:=⟨ao.ND jO.1 (λe=>e (.inl (.inr O))),jO.2⟩;have E3:=xD.bg;have jv:=xD.bp;have E4:=xD.gw.cells;have af:=Ext.NY w4;refine py ?_;have ngb:gb≠b:=mz gb ht.xg;have nk:k≠b:=mz k ht.gw.xk;have npb:pb≠b:=mz pb ht.xp;have n9:b9≠b:=by omega
  refine PK (λw'=>Kp (λj=>j=b) w4 w') O$ NX 0 O O (af.kp)$ NX 1 O O (af.kp)$ qT 2 O (λ_ h=>(NJ U29 O O (h.ND E3 ngb) O)) (af.kp)$ NG 3 O (OQ O) (af.kp)$ NG 4 O (Og VC O) (af.kp)$ NG 5 O (Og SV O) (af.kp)$ qT 6 O (λ_ h=>(NJ U3 O O (h.ND E4 nk) O)) (af.kp)$ NX 8 O O (af.kp)$ qT 7 O (λ_ hS=>Oh (news:=[I ((NS g v).length:Int),I (Oj g E v:Int)]) z2o O QD O (NM.cells (n:=2) (hS.ND ju n9) O) O) (af.kp)$ qT 9 O (λ_ h=>Oh (news:=TR p) U88 O Qm O (NM.cells (n:=5) (h.ND jv npb) O) O) (af.kp)$ Qv 10 O Zg O (Rv p w4.drew) ?_;rintro _ w5 ⟨rfl,aT⟩;refine⟨(af.trans aT).kp,?_⟩;have dw:=af.trans aT;have h5:=h4.ext dw;have sN:Sn w5 b s a:=⟨dw.ND dz.1,dz.2⟩;have E5:¬0=b:=λe=>mz 0 ht.gw.x1 e;have E6:¬1=b:=λe=>mz 1 ht.gw.x2 e;refine Qv 11 O zfz O (z7c ay jn hv sN tP h5.gam h5.una E5 E6 nq (λe=>(fM e).ext dw) E2) ?_;rintro _ w6 ⟨vv,rfl,fh,nn,jN,aP⟩;refine⟨dw.kp.trans aP,?_⟩;refine NX 12 O O (dw.kp.trans aP)$ NG 13 O (Q8 (v:=vv) O O) (dw.kp.trans aP)$ NG 15 O (PO O) (dw.kp.trans aP)$ NG 14 O (Q8 (v:=I 0) O O) (dw.kp.trans aP)$ NG 16 O (PO O) (dw.kp.trans aP)$ qE$ py$ qN O$ Nz O$ P3 O O$ NT O O$ NZ WO O (SL jN) ?_;rintro _ w6 ⟨rfl,rfl⟩;refine Nz O$ P3 O O$ Ox$ OC O O$ NB$ Of.qb (e:=[(14,_),(92,_)]) ?_;refine It O$ An$ qN O$ Nz O$ NQ O$ NF O$ NA func153 O ?_;have z34:=ao.size;have z45:=dw.size;have z03:=cF.size;have h6:=(h5.step (Y:=λj=>((X j\/j=b)\/j=b9)\/vv.ownBlock=some j) aP (λj e=>⟨.inl (.inr e),λe'=>mz k ht.gw.xk (e'▸e),λe'=>mz x ht.gw.xx (e'▸e),λe'=>mz 0 ht.gw.x1 (e'▸e),λe'=>mz 1 ht.gw.x2 (e'▸e)⟩) (λj hj=>hj.imp id λe=>⟨nn j e,fh.lt e⟩) (λj hj=> .inl hj)).less (X:=λj=>X j\/vv.ownBlock=some j) (λj hj=>hj.imp (λe=> .inl (.inl e)) id) (.inl ht.gw.xk) (.inl ht.gw.xx) (.inl ht.gw.x1) (.inl ht.gw.x2);exact⟨_,rfl,vv,rfl,fh,λj e=>by have:=nn j e;omega,h6,((cF.trans (ao.NR λj e e'=>e (.inl (.inl e')))).trans dw.kp).trans (aP.NR λj e e'=>mz j e' e)⟩
 case di=>
  refine NN O (λh0=>?_)$ λh0=>?_
  ·have s7:0<Oj g E v:=by omega
   obtain⟨q1,q2,q3,q4,q5,q6,q7,q8⟩:=ay.back hv s7;have yY:=qo.bp;have E7:=qo.bf;refine py$ qN O$ NO R9 O$ qV ((NJ U3 O O cT O))$ Nz O$ P9 O O$ Ox$ NT O O$ NO XF O$ qV ((NJ U3 O O yY O))$ RN O O$ Ox$ OC O O$ Nz O ?_;refine NO Ru O$ qV ((NJ U3 O O cT O))$ NO Sd O$ qV ((NJ U3 O O yY O))$ P9 O O$ Ox$ OC O O$ NB$ Of.qb (e:=[(0,_),(1,_),(2,_),(3,_),(4,_),(7,_),(8,_),(9,_),(10,_),(11,_),(12,_),(13,_),(45,_)]) ?_;refine It O$ An$ py$ qN O$ qV ((NJ zgS O O E7 O))$ Nz O$ NO R9 O$ qV ((NJ U3 O O cT O))$ Qc O O ?_;rw[show(v:Int)-(Oj g E v:Int)=((v-Oj g E v:Nat):Int) by omega];refine Nz O$ OI O O ?_;rw[show(behind:Int)+1=((behind+1:Nat):Int) by omega];have Hw:=ih s7 _ w3 qo;unfold Vn at Hw;refine Pv O O (QH zco O O) (Hw) ?_;rintro _ w4 ⟨vb,rfl,ee,qe,h4,ao⟩
   obtain⟨vo,vc,rfl,AR⟩:∃o c,vb= .slice (some ⟨o,0,none⟩) (NS g (v-Oj g E v)).length c/\w3.heap.size<=o:=by
    rcases ee.shape with⟨-,e⟩|⟨o,c,e,hc⟩
    ·omega
    ·exact⟨o,c,e,qe o (by rw[e];rfl)⟩
   refine Nz O$ qV (Q8 (v:= .slice (some ⟨vo,0,none⟩) (NS g (v-Oj g E v)).length vc) O O)$ qV (Q8 (v:=I 0) O O)$ NQ O$ NQ O$ qM O$ Nz O$ P3 O O ?_;have jv:=(qo.step ao (λj e e'=>e e') h4 (λj hj=> .inl hj)).bp;refine NB$ Of.qb (e:=[(0,_),(2,_),(3,_),(7,_),(8,_),(9,_),(10,_),(11,_),(12,_),(13,_),(58,_)]) ?_;refine It O$ An$ qN O$ Nz O$ Q0 Ob O$ Px O O$ Ox$ NT O O$ Q0 Ob O$ NO Sd O$ qV (NJ U3 O O jv O)$ P9 O O$ Ox$ OC O O ?_;refine NB$ It O$ An ?_;exact(cJ _ _ ⟨_,rfl,h4.less (λj hj=> .inl hj) h3.xk h3.xx h3.x1 h3.x2,ao,λe=>by omega,λ_=>ee,λj e=>by have e':vo=j:=Pz e;omega⟩).qb
  ·refine An ?_;exact(cJ _ _ ⟨_,rfl,h3,Kp.refl _ _,λ_=>rfl,λe=>by omega,λj e=>by cases e⟩).qb
theorem z09 (jn:g.length<50):∀(d:Nat) {v behind:Nat} {X:Nat->Prop} {w:World},So E v<=d->v<g.length->behind+So E v<=p.chain->TdM R k x gb pb fb X w->Vn R k x gb pb fb v behind X w
 | 0, v, behind, X, w, hd, hv, B7, ht => YF jn hv B7 ht λh0 => by
   obtain⟨q1,q2,-⟩:=ht.gw.ok.back hv h0
   omega
 | d + 1, v, behind, X, w, hd, hv, B7, ht => YF jn hv B7 ht λh0 X' w' Kj => by
   obtain⟨q1,q2,-⟩:=ht.gw.ok.back hv h0;exact z09 jn d (by omega) (by omega) (by omega) Kj
theorem RA.zaq (h:RA p g E){v:Nat}(hv:v<g.length):So E v<=p.chain:=by
 rcases h.ent hv with e|⟨h1,h2,h3,l,e',h4,h5,h6,h7⟩
 ·unfold So;rw[e];exact Nat.zero_le _
 ·have Ki:=of_decide_eq_true h7;unfold So;omega
theorem z52 (jn:g.length<50){v:Nat}(hv:v<g.length)(h:Tp R k x X w):Oa prog 114 [ptr k 0,I (v:Int)] w λr w'=>∃vv,r= .tuple #[vv,I 0]/\z3q w' vv (NS g v)/\(∀b,vv.ownBlock=some b->w.heap.size<=b)/\Tp R k x (λj=>X j\/vv.ownBlock=some j) w'/\Kp (λj=>¬X j) w w':=by
 refine Nu (e:=[(0,_),(1,_)]) func114 O ntmps114 O O$ qN O$ NK O O (PW O (cs:=[ptr k 0]) O) ?_
 rintro _ w1 ⟨gb,rfl,Kk,ad,yb⟩
 refine NQ O$ NF O$ py$ qN O$ qV (NJ U29 O O yb O)$ Nz O$ NK O O (Ur (cs:=[_]) (zs:=[Value.int .i64 0]) Qd OL O (by kernel_rfl) O O O (by decide)) ?_
 rintro _ w2 ⟨vb,rfl,⟨dl,ag,MX⟩,Kl⟩
 have h2:=(h.ext ad).ext ag
 have ue:=ag.ND yb
 have E8:=h2.cells
 have z1:=ad.size
 have z2:=ag.size
 refine NZ zft O (ZP h2 hv Kl.rd) ?_
 rintro _ w2 ⟨rfl,rfl⟩
 refine NQ O$ qM O$ Nz O$ P3 O O$ NB$ It O$ An$ qN O$ qV (NJ U29 O O ue O)$ O8 O$ NO VC O$ NO Xq O$ qV (Oh (news:=TR p) U88 O Qm O (NM.cells (i:=2) (n:=5) E8 O) O)$ NK O O (Qk (cs:=[_,_,_,_,_]) Qm O) ?_
 rintro _ w3 ⟨pb,rfl,rF,ah,rK⟩
 refine NP O (OA (news:=TR p) Qm O O O O rK (by simp)) ?_
 rintro w4 ⟨jv,ao⟩
 replace jv:NM w4 pb [I (p.O6:Int),I (p.chain:Int),I (p.interval:Int),I (p.zeta:Int),I (p.most:Int)] 88:=jv
 have cU:Ext w2 w4:=ah.Nv ao (λj e=>by omega)
 refine qM O$ NK O O (Qk (cs:=[_]) zcw O) ?_
 rintro _ w5 ⟨fb,rfl,MY,aT,dh⟩
 refine qM O$ qV (ymf (first:=[]) (caps:=[.tmp 2,.tmp 7,.tmp 8]) O O)$ NP O (PA zcw O O O dh (by simp)) ?_
 rintro w6 ⟨yZ,aP⟩
 have cQ:Ext w4 w6:=aT.Nv aP (λj e=>by omega)
 have iG:=cU.trans cQ
 have z6:=iG.size
 have lg:=ue.lt
 have lp:=jv.lt
 have lf:=yZ.lt
 have z24:=cU.size
 have z3:=ah.size
 have z46:=cQ.size
 have iI:=(ad.trans ag).trans iG
 have h6:Tp R k x (λj=>X j\/j=gb\/j=pb\/j=fb) w6:=h.grow iI (λj hj=>hj.imp id λe=>by omega) (λj hj=> .inl hj)
 have xd:TdM R k x gb pb fb (λj=>X j\/j=gb\/j=pb\/j=fb) w6:=⟨h6,iG.ND ue,cQ.ND jv,yZ,.inr (.inl O),.inr (.inr (.inl O)),.inr (.inr (.inr O))⟩
 have zd:=xd.bf
 have fi:=z09 jn _ (behind:=0) (Nat.le_refl _) hv (by have:=h.ok.zaq hv;omega) xd
 unfold Vn at fi
 refine qM O$ qV (NJ zgS O O zd O)$ Nz O$ Pv O O (QH zco O O) (fi) ?_
 rintro _ w7 ⟨vv,rfl,iu,pf,h7,ax⟩
 refine qV (Q8 (v:=vv) O O)$ qV (Q8 (v:=I 0) O O)$ NQ O$ NF O$ Of.qb (e:=[(4,_),(5,_)]) ?_
 refine NA func114 O ?_
 exact⟨_,rfl,vv,rfl,iu,λj e=>by have:=pf j e;omega,h7.less (λj hj=>hj.imp .inl id) (.inl h.xk) (.inl h.xx) (.inl h.x1) (.inl h.x2),iI.kp.trans (ax.NR λj e e'=>e (.inl e'))⟩
end
def stV (b:Bool):Value:= .int .u8 (if b then 1 else 0)
structure Wb (w:World)(m gi:Nat)(L:List Bool):Prop where
 ND:NM w m [I 2,.slice (some ⟨gi,0,none⟩) L.length L.length,.slice none 0 0,.bool false] 126
 sl:Sl w (.slice (some ⟨gi,0,none⟩) L.length L.length) 174 1 L.length (L.map stV)
 ne:gi≠m
 n:L.length<=4096
 n2:2<=L.length
section
variable {w w':World}{m gi:Nat}{L:List Bool}{S:Nat->Prop}
theorem Wb.kp (h:Wb w m gi L)(hk:Kp S w w')(h1:¬S m)(h2:¬S gi):Wb w' m gi L:=
 ⟨hk.ND h.ND h1,h.sl.kp hk λg e=>by cases e;exact h2,h.ne,h.n,h.n2⟩
theorem Wb.ext (h:Wb w m gi L)(hx:Ext w w'):Wb w' m gi L:=h.kp (S:=λ_=>False) hx id id
theorem Wb.ltm (h:Wb w m gi L):m<w.heap.size:=h.ND.lt
theorem Wb.ltg (h:Wb w m gi L):gi<w.heap.size:=h.sl.lt O
theorem Wb.get (h:Wb w m gi L){i:Nat}{b:Bool}(hi:L[i]? =some b):w.cell? ⟨gi,0+i*1,none⟩=some (stV b):=
 P6 h.sl.rd (by rw[List.getElem?_map,hi];rfl)
theorem z7O (B:Nat)(hB:2<=B/\B<=4096)(w:World):Oa prog 28 [I 2,I (B:Int)] w λv w'=>∃m gi,v= .tuple #[ptr m 0,I 0]/\Wb w' m gi (List.replicate B false)/\w.heap.size<=m/\w.heap.size<=gi/\Ext w w':=by
 refine Nu (e:=[(0,_),(1,_)]) func28 O ntmps28 O O$ qN O$ NQ O$ NF O$ py$ qN O$ Nz O$ Pb O O$ Ox$ NT O O$ Nz O$ P9 O O$ Ox$ OC O O ?_
 refine NT O O$ P9 O O$ Ox$ OC O O$ NB$ It O$ An$ qN O$ NT O O$ NK O O (pmk (c:=B) (n:=B) Up z1l O O O (Nat.le_refl _) (by omega) (by simp only[maxLen];omega)) ?_
 rintro _ w1 ⟨gi,rfl,⟨tV,ad,aj⟩,j7⟩
 refine qV (QP (cs:=[_,_,_,_]) zgk O zeS O O)$ NK O O (PW O (cs:=[I 2,.slice (some ⟨gi,0,none⟩) B B,.slice none 0 0,.bool false]) O) ?_
 rintro _ w2 ⟨m,rfl,hm,ag,am⟩
 refine NQ O$ NF O$ NA func28 O ?_
 have:=ad.size
 have lg:=j7.lt (g:=gi) O
 refine⟨_,rfl,m,gi,rfl,⟨by rw[List.length_replicate];exact am,?_,by omega,by rw[List.length_replicate];omega,by rw[List.length_replicate];omega⟩,by omega,by omega,ad.trans ag⟩
 rw[List.length_replicate,List.map_replicate]
 exact j7.ext ag
def Pf (L:List Bool)(s n:Nat)(b:Bool):List Bool:=L.take s++(List.replicate n b++L.drop (s+n))
theorem PU {L:List Bool}{s n:Nat}{b:Bool}(h:s+n<=L.length):(Pf L s n b).length=L.length:=by
 unfold Pf
 rw[List.length_append,List.length_append,List.length_take,List.length_replicate,List.length_drop];omega
theorem z7j (L:List Bool)(s:Nat)(b:Bool):Pf L s 0 b=L:=by simp[Pf]
theorem z7Q {L:List Bool}{s n:Nat}{b:Bool}(h:s+n<L.length):(Pf L s n b).set (s+n) b=Pf L s (n+1) b:=by
 have h1:(L.take s++List.replicate n b).length=s+n:=by rw[List.length_append,List.length_take,List.length_replicate];omega
 unfold Pf
 rw[<-List.append_assoc,List.set_append_right _ _ (by omega),h1,Nat.sub_self,List.drop_eq_getElem_cons h,List.set_cons_zero,List.replicate_succ',List.append_assoc,List.append_assoc]
 rfl
theorem z1d (h:Wb w m gi L)(s n:Nat)(b:Bool)(hs:s+n<=L.length):Oa prog 128 [ptr m 0,.agg #[I (s:Int),I (n:Int)],stV b] w λv w'=>v= .tuple #[]/\Wb w' m gi (Pf L s n b)/\Kp (λk=>k=gi) w w':=by
 have hn:=h.n
 refine Nu (e:=[(0,_),(1,_),(2,_)]) func128 O ntmps128 O O$ qN O$ NK O O (PW O (cs:=[I (s:Int),I (n:Int)]) O) ?_
 rintro _ w1 ⟨b4,rfl,ev,ad,aH⟩
 have lg:=h.ltg
 have l4:=aH.lt
 have h1:=h.ext ad
 refine qM O$ NO PR O$ qV (NJ U3 O O aH O)$ Nz O$ NB$ Nw$ Qb (α:=Nat) (0) (λi=>[(0,ptr m 0),(2,stV b),(4,ptr b4 0),(8,I (n:Int)),(9,I (i:Int))]) (λi w'=>Wb w' m gi (Pf L s i b)/\Kp (λk=>k=gi) w1 w'/\i<=n) (λi=>n-i) ?hI ?hround
 case hI=>exact⟨by rw[z7j];exact h1,Kp.refl _ _,Nat.zero_le _⟩
 case hround=>
  rintro i w2 ⟨h2,aq,hi⟩ ih
  try dsimp only
  refine qN O$ Pb O O$ NB$ py$ NN O (λh0=>?_)$ λh0=>?_
  ·have aY:i<n:=by omega
   have hl:=PU (L:=L) (s:=s) (n:=i) (b:=b) (by omega);have am:=h2.ND;have bF:=aq.ND aH (by omega);have hg:=Ext.NY w2;refine An$ py$ Nw$ qN O$ Nz O$ NF O$ O3 [10] (λw'=>Ext w2 w') (by kernel_rfl) O$ qL [1,2,3,9,10] 0 O (λ_ h=>Oq O) hg$ qL [2,3,9,10] 1 O (λ_ h=>OQ O) hg$ qL [3,9,10] 2 O (λ_ h=>Og TL O) hg$ qL [9,10] 3 O (λ_ h=>(NJ Up O O (h.ND am) O)) hg$ qL [5,7,9,10] 4 O (λ_ h=>Og PF O) hg$ qL [7,9,10] 5 O (λ_ h=>(NJ U3 O O (h.ND bF) O)) hg$ qL [7,9,10] 6 O (λ_ h=>Oq O) hg ?_;refine qL [9,10] 7 O (λ_ h=>SX O O (by omega)) hg$ qL [9,10] 8 O (λ_ h=>Oq O) hg$ qL [10] 9 O (λ_ h=>OH Up z1l O O (by omega)) hg$ Rs [10]$ qO 10$ Ou (i:=10) O O (Qt z1l O O O (h2.ext hg).sl (by rw[List.length_map,hl];omega)) ?_;rintro w3 ⟨cz,aw⟩;refine⟨trivial,?_⟩
   have h3:Wb w3 m gi (Pf L s (i+1) b):=by
    refine⟨?_,?_,h2.ne,by rw[PU (by omega)];exact h.n,by rw[PU (by omega)];exact h.n2⟩
    ·rw[PU (by omega),<-hl];exact aw.ND (hg.ND am) (λe=>h2.ne e.symm)
    ·rw[show 0+(s+i)*1=s+i by omega,<-List.map_set,z7Q (by omega)] at cz;rw[PU (by omega),<-hl];exact cz
   refine qE$ Ny$ NC O$ OI O O$ Nz O$ NB ?_;exact(ih (i+1) _ ⟨h3,aq.trans (hg.kp.trans aw),by omega⟩ (by omega)).qb
  ·have aY:i=n:=by omega
   subst aY;refine NL O$ Pq func128 O ?_;exact⟨_,rfl,rfl,h2,ad.kp.trans aq⟩
end
structure Pre (L:List Bool)(a:Nat):Prop where
 a2:2<=a
 le:a<=L.length
 tk:∀i,2<=i->i<a->L[i]? =some true
 fr:∀i,a<=i->i<L.length->L[i]? =some false
section
variable {w w':World}{m gi a:Nat}{L:List Bool}{S:Nat->Prop}
theorem Xi {l bm : Nat}(hm : Wb w m gi L)(hp : Pre L a)(ha : a < L.length)(lI : NM w bm [ptr m 0] 48)(J : World -> Prop)(hJ : ∀ w w', J w -> Ext w w' -> J w')
  (hround:∀w',Ext w w'->z1p prog l [.agg #[I (a:Int),I ((L.length-a:Nat):Int)]] w' λv w''=>(v= .bool true/\J w''/\NM w'' bm [ptr m 0] 48/\Wb w'' m gi L)\/(v= .bool false/\J w'')):
  Oa prog 77 [.func (.yield l) #[] #[],ptr bm 0] w λv w'=>v= .tuple #[]/\J w':=by
 have hn:=hm.n
 have lT:=hp.a2
 have hB:=hm.ND
 refine Nu (e:=[(0,_),(1,_)]) func77 O ntmps77 O O$ qN O$ qV ((NJ U48 O O lI O))$ O8 O$ NO z6B O$ qV ((NJ U3 O O hB O))$ NF O$ Nw$ Qb (α:=Nat) (2) (λi=>[(0,.func (.yield l) #[] #[]),(1,ptr bm 0),(3,I (i:Int))]) (λi w'=>NM w' bm [ptr m 0] 48/\Wb w' m gi L/\((2<=i/\i<=a/\Ext w w')\/(i=L.length+1/\J w'))) (λi=>L.length+1-i) ?hI ?hround
 case hI=>exact⟨lI,hm,.inl ⟨Nat.le_refl _,lT,Ext.refl _⟩⟩
 case hround=>
  rintro i w1 ⟨uf,pA,gC⟩ ih;have aj:=pA.ND
  try dsimp only
  refine py$ qN O$ Nz O$ qV ((NJ U48 O O uf O))$ O8 O$ NO TL O$ qV ((NJ Up O O aj O))$ Q0 Up O$ Pb O O$ NB$ NN O (λh0=>?_)$ λh0=>?_
  ·have ug : 2 <= i /\ i <= a /\ Ext w w1 := by
    rcases gC with h| h
    ·exact h
    ·omega
   obtain⟨dG,MZ,ad⟩:=ug;refine An$ py$ Nw$ qN O$ Nz O$ qV (QP (cs:=[_,_]) PN O zg4 O O)$ NK O O (Qk (cs:=[_,_]) PN O) ?_;rintro _ w2 ⟨b4,rfl,ev,ag,aH⟩;refine NP O (OA (news:=[I (i:Int),I 0]) PN O O O O aH (by simp)) ?_;rintro w3 ⟨dW,aw⟩;replace dW:NM w3 b4 [I (i:Int),I 0] 108:=dW;have aO:Ext w1 w3:=ag.Nv aw (λj e=>by omega);have uh:=aO.ND uf;have lq:=pA.ext aO;have ar:=lq.ND;refine NB$ py$ Nw$ Qb (α:=Nat) (i) (λj=>[(0,.func (.yield l) #[] #[]),(1,ptr bm 0),(3,I (j:Int)),(4,ptr b4 0)]) (λj w'=>w'=w3/\i<=j/\j<=L.length/\(i<j->i=a)) (λj=>L.length-j) ?hI ?hround
   case hI=>exact⟨rfl,Nat.le_refl _,by omega,λh=>absurd h (by omega)⟩
   case hround =>
    rintro j w4 ⟨rfl,iq,N0,E9⟩ ih2
    try dsimp only
    rcases Nat.lt_or_ge j L.length with hj|hj
    ·obtain⟨b,hb⟩:∃b,L[j]? =some b:=⟨_,List.getElem?_eq_getElem hj⟩;have aX:=lq.get hb;refine py$ qN O$ Nz O$ qV ((NJ U48 O O uh O))$ O8 O$ NO TL O$ qV ((NJ Up O O ar O))$ Q0 Up O$ Pb O O$ PE$ Nz O$ qV ((NJ U48 O O uh O))$ O8 O$ NO TL O ?_;refine qV ((NJ Up O O ar O))$ Nz O$ qV (OH Up z1l O O (by omega)) ?_
     cases b with
     | true =>
       refine qV (Oi (v:= .int .u8 1) z96 O O aX) ?_
       have Km:i<a:=by
        rcases Nat.lt_or_ge i a with h| h
        ·exact h
        ·have:=hp.fr j (by omega) hj;rw[this] at hb;cases hb
       have rU:j=i:=by
        rcases Nat.lt_or_ge i j with h| h
        ·have:=E9 h;omega
        ·omega
       subst rU;refine Px O O$ Ox$ Pc O O$ NB$ It O$ NL O$ qN O$ Nz O$ NO PF O$ qV (NJ U3 O O dW O)$ Qc O O$ NO PR O$ NP O (PA OL O O O dW (by simp)) ?_;rintro w5 ⟨aN,ai⟩;rw[show(j:Int)-(j:Int)=0 by omega] at aN;replace aN:NM w5 b4 [I (j:Int),I 0] 108:=aN;have cn:Ext w1 w5:=aO.Nv ai (λq e=>by have:=ag.size;omega);refine qM O$ NO PR O$ qV (NJ U3 O O aN O)$ P9 O O$ Nz O$ qS$ qS$ qS$ qS$ OC O O$ NB$ It O$ An$ Ny ?_;refine NC O$ Nz O$ OI O O$ NF O ?_
       exact(ih (j+1) w5 ⟨cn.ND uf,pA.ext cn,.inl ⟨by omega,by omega,ad.trans cn⟩⟩ (by omega)).qb
     | false =>
       refine qV (Oi (v:= .int .u8 0) z96 O O aX)$ Px O O$ PE$ Pc O O ?_
       have ui:i=a:=by
        rcases Nat.lt_or_ge i a with h| h
        ·rcases Nat.lt_or_ge i j with h2|h2
         ·exact E9 h2
         ·have e:j=i:=by omega
          subst e;have:=hp.tk j dG h;rw[this] at hb;cases hb
        ·omega
       refine NB$ NI O$ An$ Nw$ NC O$ Nz O$ OI O O$ NF O$ Ny ?_;exact(ih2 (j+1) _ ⟨rfl,by omega,by omega,λ_=>ui⟩ (by omega)).qb
    ·have Kn:j=L.length:=by omega
     subst Kn;have ui:=E9 (by omega);subst ui;refine py$ qN O$ Nz O$ qV ((NJ U48 O O uh O))$ O8 O$ NO TL O$ qV ((NJ Up O O ar O))$ Q0 Up O$ Pb O O$ Ox$ Nz O$ qS$ qS$ qS ?_;refine qS$ qS$ qS$ qS$ qS$ OC O O$ NB$ It O$ NL O$ qN O$ Nz O$ NO PF O$ qV (NJ U3 O O dW O)$ Qc O O ?_;refine NO PR O$ NP O (PA OL O O O dW (by simp)) ?_;rintro w5 ⟨aN,ai⟩;rw[show(L.length:Int)-(i:Int)=((L.length-i:Nat):Int) by omega] at aN;replace aN:NM w5 b4 [I (i:Int),I ((L.length-i:Nat):Int)] 108:=aN;have cn:Ext w1 w5:=aO.Nv ai (λq e=>by have:=ag.size;omega);refine qM O$ NO PR O$ qV (NJ U3 O O aN O)$ P9 O O$ PE$ NT O O$ qV (Oh (news:=[I (i:Int),I ((L.length-i:Nat):Int)]) VQ O PN O (NM.cells (n:=2) aN O) O)$ z4v O O (yy O O) (hround w5 (ad.trans cn)) ?_;rintro v w6 hv;rcases hv with⟨rfl,zf,Ea,Ko⟩|⟨rfl,zf⟩
     ·refine qV ((Qr O))$ Pc O O$ NB$ It O$ An$ Ny$ NC O$ Nz O$ OI O O$ NF O ?_;exact(ih (L.length+1) w6 ⟨Ea,Ko,.inr ⟨rfl,zf⟩⟩ (by omega)).qb
     ·refine qV ((Qr O))$ Pc O O$ NB$ NI O$ NA func77 O ?_;exact⟨_,rfl,rfl,zf⟩
  ·rcases gC with⟨-,h,-⟩|⟨-,zf⟩
   ·omega
   ·refine NL O$ Pq func77 O ?_;exact⟨_,rfl,rfl,zf⟩
theorem X5 (w:World)(m:Nat):Oa prog 41 [ptr m 0] w λv w'=>∃bm,v= .func (.func 77) #[] #[ptr bm 0]/\NM w' bm [ptr m 0] 48/\w.heap.size<=bm/\Ext w w':=by
 refine Nu (e:=[(0,_)]) func41 O ntmps41 O O$ qN O$ NK O O (PW O (cs:=[ptr m 0]) O) ?_
 rintro _ w1 ⟨bm,rfl,lI,ad,aj⟩
 refine NQ O$ qM O$ qV (ymf (first:=[]) (caps:=[.tmp 1]) O O)$ NF O$ NA func41 O ?_
 exact⟨_,rfl,bm,rfl,aj,by omega,ad⟩
theorem z5l (h:Wb w m gi L)(hp:Pre L a)(ha:a<L.length):Oa prog 14 [ptr m 0] w λv w'=>v=I ((L.length-a:Nat):Int)/\Ext w w':=by
 have hn:=h.n
 refine Nu (e:=[(0,_)]) func14 O ntmps14 O O$ qN O$ NQ O$ qM O$ NK O O (Qk (cs:=[_]) OL O) ?_
 rintro _ w1 ⟨b3,rfl,dF,ad,ar⟩
 refine NP O (PA OL O O O ar (by simp)) ?_
 rintro w2 ⟨da,aq⟩
 replace da:NM w2 b3 [I 0] 3:=da
 have ag:Ext w w2:=ad.Nv aq (λj e=>by omega)
 refine NB$ py$ qN O$ Nz O$ qV (z2M U48 O O)$ NB$ NI O$ qN O$ Nz O$ NZ zh4 O (X5 w2 m) ?_
 rintro _ w3 ⟨bm,rfl,lI,lz,ah⟩
 have cI:=ag.trans ah
 have eP:=ah.ND da
 have lq:=h.ext cI
 have l3:=eP.lt
 have l32:=da.lt
 have lm:=lI.lt
 have lmm:=h.ltm
 have lmg:=h.ltg
 have z1:=ad.size
 refine NB$ Nw$ Sq (ps:=[9]) (p:=[]) (q:=[_]) O zhs ?_
 rintro l wl fF fG cH hD Rc dS fA
 have Eb:=z8X dS fA
 have zl:=fF.size
 refine Oa.mono (Xi (lq.ext fF) hp ha (fF.ND lI)
  (λw'=>Rc .ready none w'/\NM w' b3 [I ((L.length-a:Nat):Int)] 3/\Kp (λk=>k=l\/k=b3) wl w')
  (λw w' h hx=>⟨hx.kp.rc (S:=λ_=>False) dS h.1 id,hx.ND h.2.1,h.2.2.trans hx.kp⟩) ?_) ?_
 ·intro w4 aB;have j0:=Kp.rc (S:=λ_=>False) aB dS fA id;have eA:=aB.ND (fF.ND eP);have z4:=aB.size;refine Tx dS j0 O O$ NC O$ NK O O (Qk (cs:=[_,_]) PN O) ?_;rintro _ w5 ⟨b4,rfl,ev,aT,aH⟩;refine NP O (OA (news:=[I (a:Int),I ((L.length-a:Nat):Int)]) PN O O O O aH (by simp)) ?_;rintro w6 ⟨bZ,aP⟩;replace bZ:NM w6 b4 [I (a:Int),I ((L.length-a:Nat):Int)] 108:=bZ;have cQ:Ext w4 w6:=aT.Nv aP (λj e=>by omega);have Kq:=Kp.rc (S:=λ_=>False) cQ dS j0 id;have z46:=cQ.size;have l4:=bZ.lt;refine NB$ run_beginRound O dS Kq ?_;rintro w7 h7 ax;have ns:=ax.ND (cQ.ND eA) (by omega);have bC:=ax.ND bZ (by omega);refine Nw$ NC O$ qV ((NJ U3 O O ns O))$ NO PR O$ qV ((NJ U3 O O bC O))$ OI O O ?_;rw[show(0:Int)+((L.length-a:Nat):Int)=((L.length-a:Nat):Int) by omega];refine NP O (PA OL O O O ns (by simp)) ?_;rintro w8 ⟨nt,aV⟩;have h8:=Kp.rc aV dS h7 (by omega);refine NB$ Ny$ Uv dS h8 ?_;intro w9 h9 aS;have i6:Kp (λk=>k=l\/k=b3) w4 w9:=((cQ.kp.trans (ax.NR λk e=> .inl e)).trans (aV.NR λk e=> .inr e)).trans (aS.NR λk e=> .inl e);exact .inl ⟨rfl,⟨h9,aS.ND nt (by omega),aB.kp.trans i6⟩,i6.ND (aB.ND (fF.ND lI)) (by omega),((lq.ext fF).ext aB).kp i6 (by omega) (by omega)⟩
 ·rintro v wz ⟨rfl,j0,Kr,eC⟩;refine⟨_,_,j0,by simp,λwy iO=>?_⟩;have zz:=eC.size;have zy:=iO.size;have Ks:=iO.ND Kr (by omega);have zh:=iO.heap (eC.heap hD (by omega)) (by omega);refine Ny$ qN O$ qV (NJ U3 O O Ks O)$ NF O$ z8N (by simp) (WY zh) func14 O ?_;have z3:=ah.size;have dg:Kp (λk=>k=w3.heap.size) wy (S5 [.mk w3.heap.size] wy):=Pu wy w3.heap.size (.deferred none);have Ec:Kp (λk=>k=l\/k=b3\/k=w3.heap.size) w3 (S5 [.mk w3.heap.size] wy):=((fF.kp.trans (eC.NR λk e=>by omega)).trans (iO.NR λk e=>by omega)).trans (dg.NR λk e=>by omega);exact⟨_,rfl,rfl,cI.Nv Ec (λk e=>by omega)⟩
end
section
variable {w w':World}{m gi a:Nat}{L:List Bool}{S:Nat->Prop}
theorem z2U (h:Wb w m gi L)(hp:Pre L a){n:Nat}(cY:1<=n)(pD:a+n<=L.length):Oa prog 90 [ptr m 0,I (n:Int)] w λv w'=>v= .tuple #[.agg #[I (a:Int),I (n:Int)],I 0]/\Wb w' m gi (Pf L a n true)/\Kp (λk=>k=gi) w w':=by
 have hn:=h.n
 refine Nu (e:=[(0,_),(1,_)]) func90 O ntmps90 O O$ qN O$ NK O O (PW O (cs:=[ptr m 0]) O) ?_
 rintro _ w1 ⟨b2,rfl,bQ,ad,am⟩
 refine NK O O (PW O (cs:=[I (n:Int)]) O) ?_
 rintro _ w2 ⟨b3,rfl,dF,ag,ar⟩
 refine NK O O (Qk (cs:=[_,_]) PN O) ?_
 rintro _ w3 ⟨b4,rfl,ev,ah,aH⟩
 refine NK O O (Qk (cs:=[_]) z8A O) ?_
 rintro _ w4 ⟨b5,rfl,ff,aB,aC⟩
 have l2:=am.lt
 have l3:=ar.lt
 have l4:=aH.lt
 have l5:=aC.lt
 have z1:=ad.size
 have z2:=ag.size
 have z3:=ah.size
 have z4:=aB.size
 have ir:=aB.ND (ah.ND (ag.ND am))
 have eA:=aB.ND (ah.ND ar)
 have cx:=aB.ND aH
 refine NB$ py$ Nw$ qN O$ qV ((NJ U48 O O ir O))$ qV (OP U48 O O)$ NF O$ It O$ qN O$ qV ((NJ U3 O O eA O))$ Pb O O$ Ox$ NF O$ It O ?_
 refine An$ Ny$ py$ qN O$ qV ((NJ U48 O O ir O))$ NZ zh4 O (X5 w4 m) ?_
 rintro _ w5 ⟨bm,rfl,lI,lz,aT⟩
 have bM:=(((ad.trans ag).trans ah).trans aB).trans aT
 have s8:=h.ext bM
 have lm:=lI.lt
 have lmm:=h.ltm
 have lmg:=h.ltg
 have z5:=aT.size
 refine NB$ Nw$ Sq (ps:=[17]) (p:=[]) (q:=[_]) O zhs ?_
 rintro l wl fF fG cH hD Rc dS fA
 have Eb:=z8X dS fA
 have zl:=fF.size
 have y7:=aT.trans fF
 refine Oa.mono (Xi (s8.ext fF) hp (by omega) (fF.ND lI)
  (λw'=>Rc .done (some .ret) w'/\NM w' b4 [I (a:Int),I (n:Int)] 108/\NM w' b5 [I 0] 35/\Wb w' m gi (Pf L a n true)/\Kp (λk=>k=l\/k=b4\/k=b5\/k=gi) wl w')
  (λw w' h hx=>⟨hx.kp.rc (S:=λ_=>False) dS h.1 id,hx.ND h.2.1,hx.ND h.2.2.1,h.2.2.2.1.ext hx,h.2.2.2.2.trans hx.kp⟩) ?_) ?_
 ·intro w6 aK;have j0:=Kp.rc (S:=λ_=>False) aK dS fA id;have z6:=aK.size;refine Tx dS j0 O O$ NC O$ NK O O (Qk (cs:=[_,_]) PN O) ?_;rintro _ w7 ⟨b6,rfl,mN,bV,aR⟩;refine NP O (OA (news:=[I (a:Int),I ((L.length-a:Nat):Int)]) PN O O O O aR (by simp)) ?_;rintro w8 ⟨iN,aV⟩;replace iN:NM w8 b6 [I (a:Int),I ((L.length-a:Nat):Int)] 108:=iN;have iH:Ext w6 w8:=bV.Nv aV (λj e=>by omega);have Ed:=Kp.rc (S:=λ_=>False) iH dS j0 id;have z8:=iH.size;have l6:=iN.lt;refine NB$ run_beginRound O dS Ed ?_;rintro w9 h9 aS;have qF:=(y7.trans aK).trans iH;have qG:=aS.ND (qF.ND eA) (by omega);have Ee:=aS.ND (qF.ND ir) (by omega);have kB:=aS.ND iN (by omega);have Kt:=((((s8.ext fF).ext aK).ext iH).kp aS (by omega) (by omega));refine Nw$ qN O$ NO PR O$ qV ((NJ U3 O O kB O))$ qV ((NJ U3 O O qG O))$ RN O O$ PE$ NB$ NI O$ qN O$ qV ((NJ U3 O O qG O))$ NO PR O$ NP O (PA OL O O O kB (by simp)) ?_;rintro w10 ⟨ij,au⟩;replace ij:NM w10 b6 [I (a:Int),I (n:Int)] 108:=ij;have zi:=au.ND Ee (by omega);have Ef:=Kt.kp au (by omega) (by omega);have fX:=Kp.rc au dS h9 (by omega);refine qM O$ qV (NJ U48 O O zi O)$ qV (Oh (news:=[I (a:Int),I (n:Int)]) VQ O PN O (NM.cells (n:=2) ij O) O)$ NZ zd5 O (z1d Ef a n true pD) ?_;rintro _ w11 ⟨rfl,Eg,bu⟩;have zj:=bu.ND ij (by omega);have zk:=bu.ND (au.ND (aS.ND (qF.ND cx) (by omega)) (by omega)) (by omega);have lB:=bu.ND (au.ND (aS.ND (qF.ND aC) (by omega)) (by omega)) (by omega);have pJ:=Kp.rc bu dS fX (by omega);refine NB$ Of.qb (e:=[(4,_),(5,_),(6,_)]) ?_;refine qN O$ qV (Oh (news:=[I (a:Int),I (n:Int)]) VQ O PN O (NM.cells (n:=2) zj O) O)$ NP O (OA (news:=[I (a:Int),I (n:Int)]) PN O O O O zk (by simp)) ?_;rintro w12 ⟨zm,aL⟩;refine NP O (PA z8A O O O (aL.ND lB (by omega)) (by simp)) ?_;rintro w13 ⟨zn,cV⟩;have Eh:=Kp.rc cV dS (Kp.rc aL dS pJ (by omega)) (by omega);refine NB ?_
  -- AT: Code.ret
  refine Xs dS Eh ?_;intro w14 Ku eD
  exact .inr ⟨rfl,Ku,eD.ND (cV.ND zm (by omega)) (by omega),eD.ND zn (by omega),((Eg.kp aL (by omega) (by omega)).kp cV (by omega) (by omega)).kp eD (by omega) (by omega),
   (((((((aK.kp.trans iH.kp).trans (aS.NR λk e=>by omega)).Nv au (λk e=>by omega)).trans (bu.NR λk e=>by omega)).trans (aL.NR λk e=>by omega)).trans (cV.NR λk e=>by omega)).trans (eD.NR λk e=>by omega))⟩
 ·rintro v wz ⟨rfl,j0,Ei,Ej,Kv,eC⟩;refine⟨_,_,j0,by simp,λwy iO=>?_⟩;have zz:=eC.size;have zy:=iO.size;have Ek:=iO.ND Ei (by omega);have El:=iO.ND Ej (by omega);have zh:=iO.heap (eC.heap hD (by omega)) (by omega);have dg:=Pu wy w5.heap.size (.deferred none);have Kw:=dg.ND Ek (by omega);have Kx:=dg.ND El (by omega);refine Vv (by simp) (WY zh) func90 (.cell VQ O PN O (NM.cells (n:=2) Kw (news:=[_,_]) O) O (.cell1 U35 O O ((Kx).cell _) .nil)) ?_;have Em:Kp (λk=>k=gi) w (S5 [.mk w5.heap.size] wy):=((((bM.kp.trans fF.kp).Nv eC (λk e=>by omega)).Nv iO (λk e=>by omega)).Nv dg (λk e=>by omega));exact⟨_,rfl,rfl,(Kv.kp iO (by omega) (by omega)).kp dg (by omega) (by omega),Em⟩
end
section
variable {w w':World}{m gi a:Nat}{L:List Bool}{S:Nat->Prop}
theorem z8c (h:Wb w m gi L)(s n:Nat)(cY:1<=n)(dc:2<=s)(j3:s+n<=L.length):Oa prog 141 [ptr m 0,.agg #[I (s:Int),I (n:Int)]] w λv w'=>v= .bool true/\Ext w w':=by
 have hn:=h.n
 refine Nu (e:=[(0,_),(1,_)]) func141 O ntmps141 O O$ qN O$ NK O O (PW O (cs:=[I (s:Int),I (n:Int)]) O) ?_
 rintro _ w1 ⟨b3,rfl,dF,ad,ar⟩
 have hg:=Ext.NY w1
 have uj:=(h.ext ad).ND
 refine NF O$ py$ PK (λw'=>Ext w1 w') O$ NG 0 O (Og PR O) hg$ qT 1 O (λ_ h=>(NJ U3 O O (h.ND ar) O)) hg$ NG 2 O (yge O O) hg$ SC$ NX 3 O O (hg)$ NG 4 O (Og PF O) hg$ qT 5 O (λ_ h=>(NJ U3 O O (h.ND ar) O)) hg$ NX 6 O O (hg)$ NG 7 O (OQ O) hg$ NG 8 O (Og z6B O) hg$ qT 9 O (λ_ h=>(NJ U3 O O (h.ND uj) O)) hg ?_
 refine NG 10 O (yge O O) hg$ SC$ NG 11 O (Tu O O) hg$ NX 12 O O (hg)$ NG 13 O (Og PF O) hg$ qT 14 O (λ_ h=>(NJ U3 O O (h.ND ar) O)) hg$ NX 15 O O (hg)$ NG 16 O (OQ O) hg$ NG 17 O (Og TL O) hg$ qT 18 O (λ_ h=>(NJ Up O O (h.ND uj) O)) hg$ NG 19 O (R7 Up O) hg$ NG 20 O (ZQ O O) hg$ SC$ NG 21 O (Tu O O) hg ?_
 refine NX 22 O O (hg)$ NG 23 O (Og PR O) hg$ qT 24 O (λ_ h=>(NJ U3 O O (h.ND ar) O)) hg$ NX 25 O O (hg)$ NG 26 O (OQ O) hg$ NG 27 O (Og TL O) hg$ qT 28 O (λ_ h=>(NJ Up O O (h.ND uj) O)) hg$ NG 29 O (R7 Up O) hg$ NG 30 O (Og PF O) hg$ qT 31 O (λ_ h=>(NJ U3 O O (h.ND ar) O)) hg$ NG 32 O (W5 O O (by omega)) hg$ NG 33 O (Xu O O) hg$ SC$ NG 34 O (Tu O O) hg ?_
 refine NG 35 O (PO O) hg$ qE$ Of.qb (e:=[(4,_)]) ?_
 refine NA func141 O ?_
 exact⟨_,rfl,rfl,ad.trans hg⟩
theorem z5m {b5:Nat}(c d:Bool)(hB:NM w b5 [stV d] 174)(sF:c=d):Oa prog 179 [stV c,ptr b5 0] w λv w'=>v= .bool false/\w'=w:=by
 subst sF
 cases c with
 | true =>
   replace hB:NM w b5 [.int .u8 1] 174:=hB;show Oa prog 179 [.int .u8 1,ptr b5 0] w _;refine Nu (e:=[(0,_),(1,_)]) func179 O ntmps179 O O$ qN O$ NQ O$ qM O$ Nz O$ qV (NJ z96 O O hB O)$ P3 O O$ Ox$ NF O$ NA func179 O ?_
   exact⟨_,rfl,rfl,rfl⟩
 | false =>
   replace hB:NM w b5 [.int .u8 0] 174:=hB;show Oa prog 179 [.int .u8 0,ptr b5 0] w _;refine Nu (e:=[(0,_),(1,_)]) func179 O ntmps179 O O$ qN O$ NQ O$ qM O$ Nz O$ qV (NJ z96 O O hB O)$ P3 O O$ Ox$ NF O$ NA func179 O ?_;exact⟨_,rfl,rfl,rfl⟩
theorem z8d {b5 b o n cap:Nat}(hn:n<=4096)(c:Bool)(hB:NM w b5 [stV c] 174)(hR:Rd w (.slice (some ⟨b,o,none⟩) n cap) 1 n (List.replicate n (stV c))):
  Oa prog 210 [.slice (some ⟨b,o,none⟩) n cap,.func (.func 179) #[] #[ptr b5 0]] w λv w'=>v=I (-1)/\w'=w:=by
 refine Nu (e:=[(0,_),(1,_)]) func210 O ntmps210 O O$ qN O$ NF O$ py$ qN O$ Nz O$ Q0 Up O$ Nz O$ NB$ Nw$ Qb (α:=Nat) (0) (λi=>[(0,.slice (some ⟨b,o,none⟩) n cap),(1,.func (.func 179) #[] #[ptr b5 0]),(7,I (n:Int)),(8,I (i:Int))]) (λi w'=>w'=w/\i<=n) (λi=>n-i) ?hI ?hround
 case hI=>exact⟨rfl,Nat.zero_le _⟩
 case hround=>
  rintro i w1 ⟨rfl,hi⟩ ih
  try dsimp only
  refine qN O$ Pb O O$ NB$ py$ NN O (λh0=>?_)$ λh0=>?_
  ·refine An$ py$ Nw$ qN O$ Nz O$ NQ O$ qM O$ NT O O$ Nz O$ qV (OH Up z1l O O (by omega))$ qV (Oi (v:=stV c) z96 O O (P6 hR (by rw[List.getElem?_replicate,if_pos (by omega)]))) ?_;refine Pv O O (QH zh1 O O) (z5m c c hB O) ?_;rintro _ w1 ⟨rfl,rfl⟩;refine NB$ It O$ An$ Ny$ NC O$ OI O O$ Nz O$ NB ?_;exact(ih (i+1) _ ⟨rfl,by omega⟩ (by omega)).qb
  ·refine NL O$ qN O$ NF O$ NA func210 O ?_;exact⟨_,rfl,rfl,rfl⟩
theorem z6U {b5 b o n cap:Nat}(hn:n<=4096)(c:Bool)(hB:NM w b5 [stV c] 174)(hR:Rd w (.slice (some ⟨b,o,none⟩) n cap) 1 n (List.replicate n (stV c))):
  Oa prog 178 [.slice (some ⟨b,o,none⟩) n cap,.func (.func 179) #[] #[ptr b5 0]] w λv w'=>v= .bool false/\w'=w:=by
 refine Nu (e:=[(0,_),(1,_)]) func178 O ntmps178 O O$ qN O$ NQ O$ qM O$ NT O O$ NZ zgo O (z8d hn c hB hR) ?_
 rintro _ w ⟨rfl,rfl⟩
 refine RN O O$ Ox$ NF O$ NA func178 O ?_
 exact⟨_,rfl,rfl,rfl⟩
theorem z7h (h:Wb w m gi L)(s n:Nat)(c:Bool)(cY:1<=n)(j3:s+n<=L.length)(hc:∀i,s<=i->i<s+n->L[i]? =some c):Oa prog 142 [ptr m 0,.agg #[I (s:Int),I (n:Int)],stV c] w λv w'=>v= .bool true/\Ext w w':=by
 have hn:=h.n
 refine Nu (e:=[(0,_),(1,_),(2,_)]) func142 O ntmps142 O O$ qN O$ NK O O (PW O (cs:=[I (s:Int),I (n:Int)]) O) ?_
 rintro _ w1 ⟨b4,rfl,ev,ad,aH⟩
 refine NK O O (PW O (cs:=[stV c]) (by cases c<;>rfl)) ?_
 rintro _ w2 ⟨b5,rfl,ff,ag,aC⟩
 have hg:=Ext.NY w2
 have aJ:=ad.trans ag
 have uj:=(h.ext aJ).ND
 have bF:=ag.ND aH
 have dJ:=(h.ext aJ).ext hg
 refine NF O$ py$ PK (λw'=>Ext w2 w') O$ NX 0 O O (hg)$ NG 1 O (OQ O) hg$ NG 2 O (Og TL O) hg$ qT 3 O (λ_ h=>(NJ Up O O (h.ND uj) O)) hg$ NG 4 O (Og PF O) hg$ qT 5 O (λ_ h=>(NJ U3 O O (h.ND bF) O)) hg$ NG 6 O (Og PF O) hg$ qT 7 O (λ_ h=>(NJ U3 O O (h.ND bF) O)) hg$ NG 8 O (Og PR O) hg$ qT 9 O (λ_ h=>(NJ U3 O O (h.ND bF) O)) hg$ NG 10 O (SX O O (by omega)) hg ?_
 refine NG 12 O (ymf (first:=[]) (caps:=[.tmp 5]) O O) hg ?_
 rw[show(s:Int)+(n:Int)=((s+n:Nat):Int) by omega]
 refine NG 11 O (zdT (i:=s) (j:=s+n) Up z1l O O O (by omega) (by omega)) hg ?_
 rw[show s+n-s=n by omega]
 have hR:Rd w2.drew (.slice (some ⟨gi,0+s*1,none⟩) n (L.length-s)) 1 n (List.replicate n (stV c)):=by
  have h1:=S1 (R4 dJ.sl.rd (i:=s) (by omega) (Nat.le_refl _)) (i:=n) (by omega);rw[if_neg (by omega)] at h1
  have e:((L.map stV).drop s).take n=List.replicate n (stV c):=by
   apply List.ext_getElem?;intro i;rw[List.getElem?_take,List.getElem?_drop,List.getElem?_map,List.getElem?_replicate];by_cases hi:i<n
   ·rw[if_pos hi,if_pos hi,hc (s+i) (by omega) (by omega)];rfl
   ·rw[if_neg hi,if_neg hi]
  rw[e] at h1
  have e2:(some (⟨gi,0,none⟩:Addr)).map (λx=>x.add (s*1))=some ⟨gi,0+s*1,none⟩:=by
   show some (Addr.add _ _)=_;unfold Addr.add;split
   ·rename_i h0;rw[h0]
   ·rfl
  rw[e2] at h1;exact h1
 refine Qv 13 O zgy O (z6U (by omega) c ((hg.ND aC)) hR) ?_
 rintro _ w3 ⟨rfl,rfl⟩
 refine⟨hg,?_⟩
 refine NG 14 O ((Qr O)) hg$ NG 15 O (PO O) hg$ qE$ NA func142 O ?_
 exact⟨_,rfl,rfl,aJ.trans hg⟩
theorem z4x (h:Wb w m gi L)(s n:Nat)(cY:1<=n)(dc:2<=s)(j3:s+n<=L.length)(hc:∀i,s<=i->i<s+n->L[i]? =some true):Oa prog 104 [ptr m 0,.agg #[I (s:Int),I (n:Int)]] w λv w'=>v=I 0/\Wb w' m gi (Pf L s n false)/\Kp (λk=>k=gi) w w':=by
 refine Nu (e:=[(0,_),(1,_)]) func104 O ntmps104 O O$ qN O$ NK O O (PW O (cs:=[I (s:Int),I (n:Int)]) O) ?_
 rintro _ w1 ⟨b3,rfl,dF,ad,ar⟩
 have h1:=h.ext ad
 have l3:=ar.lt
 have lg:=h.ltg
 refine NF O$ py$ Nw$ qN O$ Nz O$ qV (OP U48 O O)$ NF O$ It O$ qN O$ Nz O$ qV (Oh (news:=[I (s:Int),I (n:Int)]) VQ O PN O (NM.cells (n:=2) ar O) O)$ NZ zf7 O (z8c h1 s n cY dc j3) ?_
 rintro _ w2 ⟨rfl,ag⟩
 have h2:=h1.ext ag
 have da:=ag.ND ar
 refine qV ((Qr O))$ NT O O$ qV (Oh (news:=[I (s:Int),I (n:Int)]) VQ O PN O (NM.cells (n:=2) da O) O)$ NZ zf8 O (z7h h2 s n true cY j3 hc) ?_
 rintro _ w3 ⟨rfl,ah⟩
 have h3:=h2.ext ah
 have eP:=ah.ND da
 have uj:=h3.ND
 refine qV ((Qr O))$ OC O O$ NF O$ It O$ qN O$ Nz O$ O8 O$ NO zbA O$ qV (NJ U4 O O uj O)$ NF O$ It O ?_
 have eP:=ah.ND da
 refine NC O$ Nz O$ qV (Oh (news:=[I (s:Int),I (n:Int)]) VQ O PN O (NM.cells (n:=2) eP O) O)$ NZ zd5 O (z1d h3 s n false j3) ?_
 rintro _ w4 ⟨rfl,h4,ao⟩
 refine NB$ Of.qb (e:=[(4,_)]) ?_
 refine Ny$ qN O$ NF O$ NA func104 O ?_
 exact⟨_,rfl,rfl,h4,((ad.trans ag).trans ah).kp.trans ao⟩
end
end Go.Proofs.YtfgjaafcgghnoaaGreatDoor
namespace Go.Proofs.YtfgjaafcgghnoaaGreatDoor
open Go Go.RowKit
structure Dev where
 due:Int
 Rb:List Int
 zb0:Int
 mask:UInt8
 B:Nat
 N:Nat
 sf:Int->Option NH
 cache:List (Int×NH)
 down:Bool
 calls:Int
 reads:Int
def zeros (n:Nat):NH:=List.replicate n 0
def Dev.kept (D:Dev)(n:Int):NH:=(D.sf n).getD (zeros (512*D.N))
def Ve (l:List (Int×NH))(n:Int):Option NH:=(l.reverse.find? λx=>x.1==n).map (·.2)
def Dev.now (D:Dev)(n:Int):NH:=(Ve D.cache n).getD (D.kept n)
def Dev.has (D:Dev)(n:Int):Bool:=decide (0<=n/\n<(D.B:Int))
def Dev.count (D:Dev):Dev:={D with calls:=D.calls+1,due:=if D.due=0 then 0 else D.due-1}
structure Dev.Ok (D:Dev):Prop where
 hB:16<=D.B/\D.B<=4096
 hN:1<=D.N/\D.N<=8
 due:0<=D.due/\D.due<=9223372036854775807
 sf:∀n s,D.sf n=some s->0<=n/\n<(D.B:Int)/\s.length=512*D.N
 cache:∀x∈D.cache,0<=x.1/\x.1<(D.B:Int)/\x.2.length=512*D.N
 len:0<=D.calls
 reads:True
def Dev.Bd (D:Dev):Prop:=D.calls<1000000000000/\D.cache.length<1000000000000/\True
def wr (x:Int×NH):List Value:=[I x.1,S x.2]
def wrs (l:List (Int×NH)):List Value:=l.flatMap wr
@[simp] theorem wrs_length (l:List (Int×NH)):(wrs l).length=l.length*2:=by
 induction l with
 |nil=>rfl
 |cons x r ih=>simp[wrs,wr,List.flatMap_cons] at ih⊢;omega
def WH (kp ca:Value)(m:Nat)(D:Dev):List Value:=[I D.due,kp,I D.zb0,Rq D.mask,I (D.B:Int),I (D.N:Int),.map (some m),ca,.bool D.down,I D.calls,I D.reads]
@[simp] theorem devCs_length (kp ca:Value) (m:Nat) (D:Dev):(WH kp ca m D).length=11:=rfl
abbrev KI:Int->Value:=λz=> .int .i64 z
structure Qz (w:World)(p m:Nat)(kp ca:Value)(D:Dev):Prop where
 ND:NM w p (WH kp ca m D) 123
 map:∃kv,Vf KI w m kv/\∀n,PX kv n=(D.sf n).map S
 cache:Sl w ca 334 2 D.cache.length (wrs D.cache)
 Rb:Sl w kp 3 1 D.Rb.length (D.Rb.map I)
 ok:D.Ok
def fpD (p m:Nat)(kp ca:Value):Nat->Prop:=λk=>k=p\/k=m\/ca.ownBlock=some k\/kp.ownBlock=some k
def UJ (w:World)(p:Nat)(D:Dev)(F:Nat->Prop):Prop:=∃m kp ca,Qz w p m kp ca D/\∀k,F k↔fpD p m kp ca k
def Upd (F F':Nat->Prop)(w w':World):Prop:=Kp F w w'/\∀k,F' k->F k\/w.heap.size<=k
theorem Upd.trans {F F' F'':Nat->Prop}{a b c:World}(h:Upd F F' a b)(k:Upd F' F'' b c):Upd F F'' a c:=
 ⟨h.1.Nv k.1 λi hi=>(h.2 i hi).symm,λi hi=>by
  rcases k.2 i hi with h'|h'
  ·exact h.2 i h'
  ·exact .inr (Nat.le_trans h.1.size h')⟩
theorem Ext.UX {F:Nat->Prop}{w w':World}(h:Ext w w'):Upd F F w w':=⟨h.kp,λ_ h=> .inl h⟩
theorem Qz.pm {w:World}{p m:Nat}{kp ca:Value}{D:Dev}(h:Qz w p m kp ca D):¬p=m:=λe=>by
 obtain⟨kv,⟨⟨es,c,hh,-⟩,-⟩,-⟩:=h.map
 obtain⟨fz,hb,-⟩:=h.ND
 rw[e] at hb;rw[hb] at hh;cases hh
theorem RW {w:World}{v:Value}{e size n:Nat}{cs:List Value}{b:Nat}(h:Sl w v e size n cs)(hb:v.ownBlock=some b):∃xs fz,w.heap[b]? =some (.cells xs e fz):=by
 rcases h.2 with⟨hz,-⟩|⟨g,cap,cur,hv,-,hg,-⟩
 ·rw[hz] at hb;cases hb
 ·rw[hv] at hb;cases hb;exact⟨_,_,hg⟩
theorem Qz.kp {S:Nat->Prop}{w w':World}{p m:Nat}{kp ca:Value}{D:Dev}(h:Qz w p m kp ca D)(k:Kp S w w')(hn:∀i,fpD p m kp ca i->¬S i):Qz w' p m kp ca D:=
 ⟨k.ND h.ND (hn p (.inl O)),let ⟨kv,h1,h2⟩:=h.map;⟨kv,k.map h1 (hn m (.inr (.inl O))),h2⟩,h.cache.kp k λg hg=>hn g (.inr (.inr (.inl hg))),h.Rb.kp k λg hg=>hn g (.inr (.inr (.inr hg))),h.ok⟩
theorem Qz.ext {w w':World}{p m:Nat}{kp ca:Value}{D:Dev}(h:Qz w p m kp ca D)(k:Ext w w'):Qz w' p m kp ca D:=h.kp k λ_ _=>id
theorem Dev.Ok.count {D:Dev}(h:D.Ok):D.count.Ok:=by
 have:=h.due
 have:=h.len
 refine⟨h.hB,h.hN,?_,h.sf,h.cache,?_,h.reads⟩
 ·simp only[Dev.count];split<;>omega
 ·simp only[Dev.count];omega
theorem Qz.turn {w w':World}{p m:Nat}{kp ca:Value}{D D':Dev}(h:Qz w p m kp ca D)(hb:NM w' p (WH kp ca m D') 123)(k:Kp (λi=>i=p) w w')(h1:D'.sf=D.sf)(h2:D'.cache=D.cache)(h3:D'.Rb=D.Rb)(h4:D'.N=D.N)(ay:D'.Ok):Qz w' p m kp ca D':=by
 obtain⟨fz,hp,-⟩:=h.ND
 refine⟨hb,let ⟨kv,hm,hs⟩:=h.map;⟨kv,k.map hm λe=>h.pm e.symm,by rw[h1];exact hs⟩,?_,?_,ay⟩
 ·rw[h2];refine h.cache.kp k λg hg qH=>?_;obtain⟨xs,fz',hx⟩:=RW h.cache hg;rw[qH,hp] at hx;cases hx
 ·rw[h3];refine h.Rb.kp k λg hg qH=>?_;obtain⟨xs,fz',hx⟩:=RW h.Rb hg;rw[qH,hp] at hx;cases hx
def UX (f:Int->Option NH)(n:Int)(s:NH):Int->Option NH:=λx=>if x=n then some s else f x
def z7l (c:NH)(i:Nat)(x:NH):NH:=c.take i++x++c.drop (i+x.length)
def mixN (mask:UInt8)(a b:NH):Nat->NH
 |0=>a
 |s+1=>if mask.toNat / 2^s%2=1 then z7l (mixN mask a b s) (512*s) ((b.drop (512*s)).take 512) else mixN mask a b s
theorem z2F (c x:NH)(i:Nat)(h:i+x.length<=c.length):(z7l c i x).length=c.length:=by
 simp[z7l];omega
theorem Vh (mask:UInt8)(a b:NH)(N:Nat)(ha:a.length=512*N)(hb:b.length=512*N):∀s,s<=N->(mixN mask a b s).length=512*N
 |0,_=>ha
 | s + 1, h => by
   have ih:=Vh mask a b N ha hb s (by omega);simp only[mixN];split
   ·rw[z2F _ _ _ (by simp[ih];omega),ih]
   ·exact ih
def Dev.fallTo (D:Dev)(l:List Int)(tn:Int)(mk:UInt8):Nat->(Int->Option NH)
 |0=>D.sf
 | i + 1 => match D.cache[i]? with
   |none=>D.fallTo l tn mk i
   | some x => if (i : Int) = tn then UX (D.fallTo l tn mk i) x.1 (mixN mk (((D.fallTo l tn mk i) x.1).getD (zeros (512 * D.N))) x.2 D.N)
     else if(i:Int)∈l then UX (D.fallTo l tn mk i) x.1 x.2 else D.fallTo l tn mk i
def Dev.z9H (D:Dev)(l:List Int)(tn:Int)(mk:UInt8):Dev:=
 {D with sf:=D.fallTo l tn mk D.cache.length,cache:=[],due:=0,Rb:=[],zb0:=0,mask:=0,down:=true}
theorem Dev.Ok.put {D:Dev}(h:D.Ok){n:Int}{s:NH}(hn:0<=n/\n<(D.B:Int))(hs:s.length=512*D.N):Dev.Ok {D with sf:=UX D.sf n s}:=
 ⟨h.hB,h.hN,h.due,λx t hx=>by
  simp only[UX] at hx;split at hx
  ·rename_i e
   cases hx;exact⟨by omega,by rw[e];exact hn.2,hs⟩
  ·exact h.sf x t hx,h.cache,h.len,h.reads⟩
theorem Dev.Ok.kept {D:Dev}(h:D.Ok)(n:Int):(D.kept n).length=512*D.N:=by
 unfold Dev.kept
 cases hs:D.sf n with
 |none=>simp[zeros]
 |some s=>exact(h.sf n s hs).2.2
theorem Qz.put {w w':World}{p m:Nat}{kp ca:Value}{D:Dev}{kv:List (Int×Value)}{n:Int}{s:NH}(h:Qz w p m kp ca D)(hs:∀n,PX kv n=(D.sf n).map S)(hm:Vf KI w' m (putL kv n (S s)))(k:Kp (λi=>i=m) w w')
  (ay:Dev.Ok {D with sf:=UX D.sf n s}):Qz w' p m kp ca {D with sf:=UX D.sf n s}:=by
 obtain⟨kv0,⟨⟨es,c,hh,-⟩,-⟩,-⟩:=h.map
 refine⟨k.ND h.ND h.pm,⟨_,hm,λx=>?_⟩,?_,?_,ay⟩
 ·rw[z9r,hs x];simp only[UX];split<;>rfl
 ·refine h.cache.kp k λg hg qH=>?_;obtain⟨xs,fz',hx⟩:=RW h.cache hg;rw[qH,hh] at hx;cases hx
 ·refine h.Rb.kp k λg hg qH=>?_;obtain⟨xs,fz',hx⟩:=RW h.Rb hg;rw[qH,hh] at hx;cases hx
theorem Rd.kpm {w w':World}{v:Value}{size n m:Nat}{cs:List Value}{kv:List (Int×Value)}(h:Rd w v size n cs)(hm:Vf KI w m kv)(k:Kp (λi=>i=m) w w'):Rd w' v size n cs:=by
 obtain⟨h1,h2⟩:=h
 refine⟨h1,h2.imp id λ⟨b,off,cap,hv,hc⟩=>⟨b,off,cap,hv,λj u hj=>?_⟩⟩
 have B8:=hc j u hj
 obtain⟨⟨es,c,hh,-⟩,-⟩:=hm
 have bD:¬b=m:=λe=>by
  rw[e] at B8;simp[World.cell?,hh] at B8
 have aU:b<w.heap.size:=by
  rcases Nat.lt_or_ge b w.heap.size with h'|h'
  ·exact h'
  ·simp[World.cell?,Array.getElem?_eq_none h'] at B8
 rw[<-B8]
 simp only[World.cell?,k.block b aU bD]
theorem Qz.zel {w:World}{p m:Nat}{kp ca:Value}{D:Dev}(h:Qz w p m kp ca D){g:Nat}(hg:ca.ownBlock=some g):¬g=p/\¬g=m/\¬kp.ownBlock=some g:=by
 obtain⟨xs,fz',hx⟩:=RW h.cache hg
 refine⟨λe=>?_,λe=>?_,λe=>?_⟩
 ·obtain⟨fz,hb,-⟩:=h.ND;rw[e,hb] at hx;cases hx
 ·obtain⟨kv,⟨⟨es,c,hh,-⟩,-⟩,-⟩:=h.map;rw[e,hh] at hx;cases hx
 ·obtain⟨ys,fy,hy⟩:=RW h.Rb e;rw[hx] at hy;cases hy
theorem Qz.zgN {w:World}{p m:Nat}{kp ca:Value}{D:Dev}(h:Qz w p m kp ca D){g:Nat}(hg:kp.ownBlock=some g):¬g=p/\¬g=m/\¬ca.ownBlock=some g:=by
 obtain⟨xs,fz',hx⟩:=RW h.Rb hg
 refine⟨λe=>?_,λe=>?_,λe=>?_⟩
 ·obtain⟨fz,hb,-⟩:=h.ND;rw[e,hb] at hx;cases hx
 ·obtain⟨kv,⟨⟨es,c,hh,-⟩,-⟩,-⟩:=h.map;rw[e,hh] at hx;cases hx
 ·obtain⟨ys,fy,hy⟩:=RW h.cache e;rw[hx] at hy;cases hy
theorem Qz.lt {w:World}{p m:Nat}{kp ca:Value}{D:Dev}(h:Qz w p m kp ca D):∀k,fpD p m kp ca k->k<w.heap.size:=by
 intro k hk
 rcases hk with rfl|rfl|hc|hc
 ·exact h.ND.lt
 ·obtain⟨kv,hm,-⟩:=h.map;exact hm.lt
 ·exact h.cache.lt hc
 ·exact h.Rb.lt hc
theorem UJ.kp {S F:Nat->Prop}{w w':World}{p:Nat}{D:Dev}(h:UJ w p D F)(k:Kp S w w')(hn:∀i,F i->¬S i):UJ w' p D F:=by
 obtain⟨m,kp,ca,h1,h2⟩:=h
 exact⟨m,kp,ca,h1.kp k λi hi=>hn i ((h2 i).2 hi),h2⟩
theorem UJ.ext {F:Nat->Prop}{w w':World}{p:Nat}{D:Dev}(h:UJ w p D F)(k:Ext w w'):UJ w' p D F:=h.kp k λ_ _=>id
theorem UJ.lt {F:Nat->Prop}{w:World}{p:Nat}{D:Dev}(h:UJ w p D F):∀k,F k->k<w.heap.size:=by
 obtain⟨m,kp,ca,h1,h2⟩:=h
 intro k hk
 rcases (h2 k).1 hk with rfl|rfl|hc|hc
 ·exact h1.ND.lt
 ·obtain⟨kv,hm,-⟩:=h1.map;exact hm.lt
 ·exact h1.cache.lt hc
 ·exact h1.Rb.lt hc
end Go.Proofs.YtfgjaafcgghnoaaGreatDoor
namespace Go.Proofs.YtfgjaafcgghnoaaGreatDoor
open Go Go.RowKit Go.Proofs.Tryz
theorem YP (n:Nat):((List.replicate n (Value.int .u8 0)).drop 0).take n=(zeros n).map Rq:=by
 simp[zeros,Rq]
section
variable {w:World}{p m:Nat}{kp ca:Value}{D:Dev}
theorem z4u (h:Qz w p m kp ca D):Oa prog 130 [ptr p 0] w λv w'=>v=I (D.B:Int)/\w'=w:=by
 have hM:=h.ND
 refine Nu (e:=[(0,_)]) func130 O ntmps130 O O$ qN O$ NF O$ py$ qN O$ Nz O$ qV (OP U27 O O)$ NB$ It O$ An$ qN O$ Nz O$ O8 O$ NO Z3 O ?_
 refine NO XB O$ qV (NJ U3 O O hM O)$ NF O$ NA func130 O ?_
 exact⟨_,rfl,rfl,rfl⟩
theorem z00 (h:Qz w p m kp ca D):Oa prog 89 [ptr p 0] w λv w'=>v=I ((512*D.N:Nat):Int)/\w'=w:=by
 have hM:=h.ND
 have hN:=h.ok.hN
 refine Nu (e:=[(0,_)]) func89 O ntmps89 O O$ qN O$ NF O$ py$ qN O$ Nz O$ qV (OP U27 O O)$ NB$ It O$ An$ qN O$ Nz O$ O8 O$ NO Z3 O ?_
 refine NO XJ O$ qV (NJ U3 O O hM O)$ qV (TT O O (by omega))$ NF O$ NA func89 O (⟨_,rfl,?_,rfl⟩)
 show I _=I _
 congr 1;omega
theorem z0N (h:Qz w p m kp ca D):Oa prog 193 [ptr p 0] w λv w'=>v=I (if D.down then 8 else 0)/\w'=w:=by
 have hM:=h.ND
 refine Nu (e:=[(0,_)]) func193 O ntmps193 O O$ qN O$ NF O$ py$ Nw$ qN O$ Nz O$ qV (OP U27 O O)$ NF O$ It O$ qN O$ Nz O$ O8 O$ NO z25 O ?_
 refine qV (NJ U4 O O hM O)$ NF O$ OV O (λhd=>?_)$ λhd=>?_
 ·refine qN O$ NF O$ NA func193 O ?_;exact⟨_,rfl,by simp[hd,OR],rfl⟩
 ·refine An$ Ny$ qN O$ NF O$ NA func193 O ?_;exact⟨_,rfl,by simp[hd,OR],rfl⟩
theorem z6h (n:Int)(h:Qz w p m kp ca D):Oa prog 194 [ptr p 0,I n] w λv w'=>v= .bool (D.has n)/\w'=w:=by
 have hM:=h.ND
 refine Nu (e:=[(0,_),(1,_)]) func194 O ntmps194 O O$ qN O$ NQ O$ qM O$ Nz O$ RN O O$ QZ (λh1=>?_)$ λh1=>?_
 ·refine NT O O$ Nz O$ O8 O$ NO Z3 O$ NO XB O$ qV (NJ U3 O O hM O)$ Pb O O$ Pc O O$ NF O$ NA func194 O (⟨_,rfl,?_,rfl⟩);simp[Dev.has,h1,OR]
 ·refine Nz O$ qS$ qS$ qS$ qS$ qS$ qS$ qS$ OC O O$ NF O$ NA func194 O (⟨_,rfl,?_,rfl⟩);simp[Dev.has,h1,OR]
theorem z3N (n:Int)(h:Qz w p m kp ca D):Oa prog 222 [ptr p 0,I n] w λv w'=>v=S (D.kept n)/\Ext w w':=by
 have hM:=h.ND
 have hN:=h.ok.hN
 have eJ:maxLen=9223372036854775807:=rfl
 obtain⟨kv,oc,nC⟩:=h.map
 refine Nu (e:=[(0,_),(1,_)]) func222 O ntmps222 O O$ qN O$ NF O$ py$ qN O$ Nz O$ O8 O$ NO z1B O$ qV (NJ z8a O O hM O)$ Nz O$ qV (ziD (k:=n) (K:=KI) z8a (QG U3) ti9 O O oc) ?_
 rw[nC n]
 cases hs:D.sf n with
 | some s =>
   refine Nz O$ ON O O$ ON O O$ NQ O$ NQ O$ qM O$ Nz O$ NB$ NI O$ qN O$ Nz O$ NF O$ NA func222 O ?_
   exact⟨_,rfl,by simp[Dev.kept,hs,OR],Ext.refl w⟩
 | none =>
   refine Nz O$ ON O O$ ON O O$ NQ O$ NQ O$ qM O$ Nz O$ NB$ It O$ An$ qN O$ Nz O$ NZ zdW O (z00 h) ?_;rintro _ w1 ⟨rfl,rfl⟩;refine NK O O (pmk (c:=512*D.N) (n:=512*D.N) P8 VO O O O (by omega) (by omega) (by omega)) ?_;rintro _ w1 ⟨b1,rfl,⟨bN,ad,aj⟩,-⟩;refine qV (z2Z (l:=zeros (512*D.N)) P8 U5 U9 O aj (YP _) (by simp[zeros])) ?_;refine NF O$ NA func222 O ?_;exact⟨_,rfl,by simp[Dev.kept,hs,OR],ad⟩
theorem z3R (h:Qz w p m kp ca D)(hc:D.calls<1000000000000):Oa prog 219 [ptr p 0] w λv w'=>v= .bool (decide (D.due=1))/\Qz w' p m kp ca D.count/\Kp (λk=>k=p) w w':=by
 have hM:=h.ND
 have qI:=h.ok.due
 have aA:=h.ok.len
 refine Nu (e:=[(0,_)]) func219 O ntmps219 O O$ qN O$ NQ O$ qM O$ Nz O$ O8 O$ NO z6p O$ qV (NJ U3 O O hM O)$ OI O O$ O8 O$ NO z6p O$ NP O (PA OL O O O hM (by simp)) ?_
 rintro w1 ⟨dQ,aM⟩
 refine NB$ py$ qN O$ Nz O$ O8 O$ NO Vs O$ NO Z7 O$ qV (NJ U3 O O dQ O)$ Px O O$ NB$ NN O (λh0=>?_)$ λh0=>?_
 ·refine qN O$ NF O$ NA func219 O ?_;have e0:(WH kp ca m D).set (0+9) (I (D.calls+1))=WH kp ca m D.count:=by simp[WH,Dev.count,h0]
  rw[e0] at dQ;exact⟨_,rfl,by simp[OR];omega,h.turn dQ aM O O O O h.ok.count,aM⟩
 ·refine An$ qN O$ Nz O$ O8 O$ NO Vs O$ NO Z7 O$ qV (NJ U3 O O dQ O)$ Qc O O$ O8 O$ NO Vs O$ NO Z7 O$ NP O (PA OL O O O dQ (by simp)) ?_;rintro w2 ⟨mU,aq⟩;refine qM O$ Nz O$ O8 O$ NO Vs O$ NO Z7 O$ qV (NJ U3 O O mU O)$ Px O O$ NF O$ Of.qb (e:=[(2,_)]) ?_;refine NA func219 O ?_;have e0:((WH kp ca m D).set (0+9) (I (D.calls+1))).set (0+0+0) (I (D.due-1))=WH kp ca m D.count:=by simp[WH,Dev.count,h0]
  rw[e0] at mU;exact⟨_,rfl,by simp[OR];omega,h.turn mU (aM.trans aq) O O O O h.ok.count,aM.trans aq⟩
end
theorem z6s (xs:List (Int×NH))(j:Nat)(h:j<xs.length):((wrs xs).drop (j*2)).take 2=wr xs[j]:=by
 induction xs generalizing j with
 |nil=>simp at h
 | cons x r ih =>
   cases j with
   |zero=>simp[wrs,wr,List.flatMap_cons]
   | succ j =>
     have e:(wrs (x::r))=I x.1::S x.2::wrs r:=by simp[wrs,wr,List.flatMap_cons]
     rw[e,show(j+1)*2=(j*2)+1+1 by omega]
     simpa using ih j (by simpa using h)
theorem z0p (a:Option Addr)(n cap:Nat)(w:World):Oa prog 221 [.slice a n cap] w λv w'=>∃b,v= .func (.func 235) #[] #[ptr b 0]/\YR w b [.slice a n cap] 121 w':=by
 refine Nu (e:=[(0,_)]) func221 O ntmps221 O O$ qN O$ NK O O (PW O O) ?_
 rintro _ w1 ⟨b1,rfl,hN⟩
 refine NQ O$ qM O$ qV (ymf (first:=[]) (caps:=[.tmp 1]) O O)$ NF O$ NA func221 O ?_
 exact⟨_,rfl,_,rfl,hN⟩
theorem z1G (l bx:Nat)(ca:Value)(xs:List (Int×NH))(J:Nat->World->Prop)(Jx:World->Prop)(w:World)(hn:xs.length<4611686018427387904)
  (hJ:∀i w,J i w->(∃T,NM w bx [ca] T)/\Sl w ca 334 2 xs.length (wrs xs))
  (hround:∀i w x,xs.reverse[i]? =some x->J i w->z1p prog l [I ((xs.length:Int)-1-i),.agg (wr x).toArray] w λv w'=>(v= .bool true/\J (i+1) w')\/(v= .bool false/\Jx w')) (h0:J 0 w):
  Oa prog 235 [.func (.yield l) #[] #[],ptr bx 0] w λv w'=>v= .tuple #[]/\(J xs.length w'\/Jx w'):=by
 obtain⟨⟨T,hM⟩,hS⟩:=hJ 0 w h0
 obtain⟨a,cap,rfl,ha⟩:=hS.rd.shape
 refine Nu (e:=[(0,_),(1,_)]) func235 O ntmps235 O O$ qN O$ qV (NJ ZK O O hM O)$ Q0 ZK O$ Qc O O$ NF O$ Nw ?_
 rw[show(xs.length:Int)-1=(xs.length:Int)-1-((0:Nat):Int) by omega]
 refine Qb (α:=Nat) (0) (λi=>[(0,.func (.yield l) #[] #[]),(1,ptr bx 0),(3,I ((xs.length:Int)-1-i))]) (λi w=>i<=xs.length/\J i w) (λi=>xs.length-i) ?hI ?hround
 case hI=>exact⟨by omega,h0⟩
 case hround=>
  rintro i w1 ⟨hi,hj⟩ ih
  try dsimp only
  obtain⟨⟨T1,dQ⟩,j7⟩:=hJ i w1 hj;refine py$ qN O$ Nz O$ RN O O$ NB$ NN O (λjb=>?_)$ λjb=>?_
  ·have aU:i<xs.length:=by omega
   have B6:=j7.shape;rcases B6 with⟨-,h⟩|⟨gb,cap',lN,ja⟩
   ·omega
   cases lN;obtain⟨x,hx⟩:∃x,xs.reverse[i]? =some x:=⟨_,List.getElem?_eq_getElem (by simpa using aU)⟩
   have eL:((wrs xs).drop ((xs.length-1-i)*2)).take 2=wr x:=by
    rw[z6s xs _ (by omega)]
    congr 1
    rw[List.getElem?_reverse aU,List.getElem?_eq_getElem (by omega)] at hx;exact Pz hx
   have hz:((xs.length:Int)-1-i)=((xs.length-1-i:Nat):Int):=by omega
   have hy:=hround i w1 x hx hj;rw[hz] at hy⊢;refine An$ py$ Nw$ qN O$ NT O O$ qV (NJ ZK O O dQ O)$ Nz O$ qV (OH ZK Vb O O (by omega))$ qV (Oh zeJ O Vb O (j7.part eL) O)$ z4v O O (yy O O) (hy) ?_;rintro v w2 hv;rcases hv with⟨rfl,kT⟩|⟨rfl,ag⟩
   ·refine qV ((Qr O))$ NB$ It O$ An$ Ny$ NC O$ Nz O$ Qc O O$ NF O ?_;rw[show((xs.length-1-i:Nat):Int)-1=(xs.length:Int)-1-((i+1:Nat):Int) by omega];exact(ih (i+1) w2 ⟨by omega,kT⟩ (by omega)).qb
   ·refine qV ((Qr O))$ NB$ NI O$ NA func235 O ?_;exact⟨_,rfl,rfl,.inr ag⟩
  ·refine NL O$ Pq func235 O ?_;have:i=xs.length:=by omega
   subst this;exact⟨_,rfl,rfl,.inl hj⟩
theorem z4J (xs:List (Int×NH))(n:Int)(i:Nat):(∀j x,j<i->xs.reverse[j]? =some x->x.1≠n)->∀x,xs.reverse[i]? =some x->x.1=n->Ve xs n=some x.2:=by
 intro gD x hx he
 have aU:i<xs.reverse.length:=by
  rcases Nat.lt_or_ge i xs.reverse.length with h| h
  ·exact h
  ·rw[List.getElem?_eq_none h] at hx;cases hx
 have:xs.reverse.find? (λx=>x.1==n)=some x:=by
  rw[List.find?_eq_some_iff_getElem];refine⟨by simp[he],i,aU,?_,λj hj=>?_⟩
  ·rw[List.getElem?_eq_getElem aU] at hx;exact Pz hx
  ·have:=gD j _ hj (List.getElem?_eq_getElem (by omega))
   simpa using this
 simp[Ve,this]
theorem z4l (xs:List (Int×NH))(n:Int):(∀j x,j<xs.length->xs.reverse[j]? =some x->x.1≠n)->Ve xs n=none:=by
 intro gD
 have:xs.reverse.find? (λx=>x.1==n)=none:=by
  rw[List.find?_eq_none];intro x hx;obtain⟨j,hj,rfl⟩:=List.getElem_of_mem hx;have:=gD j _ (by simpa using hj) (List.getElem?_eq_getElem hj)
  simpa using this
 simp[Ve,this]
theorem zbP {w:World}{p m:Nat}{kp ca:Value}{D:Dev}(n:Int)(h:Qz w p m kp ca D)(hc:D.cache.length<1000000000000):
  Oa prog 195 [ptr p 0,I n] w λv w'=>v=S (D.now n)/\Ext w w':=by
 have hM:=h.ND
 have aA:=h.ok.len
 have eM:=hc
 obtain⟨a,cap,rfl,ha⟩:=h.cache.rd.shape
 refine Nu (e:=[(0,_),(1,_)]) func195 O ntmps195 O O$ qN O$ NK O O (PW O O) ?_
 rintro _ w1 ⟨b3,rfl,dF,ad,ar⟩
 refine NK O O (Qk (cs:=[_]) ti9 O) ?_
 rintro _ w2 ⟨b4,rfl,ev,ag,aH⟩
 replace h:=(h.ext ad).ext ag
 have mU:=h.ND
 refine NB$ py$ qN O$ Nz O$ O8 O$ NO WZ O$ qV (NJ ZK O O mU O)$ NZ zfM O (z0p a D.cache.length cap _) ?_
 rintro _ w3 ⟨bx,rfl,eX,ah,j6⟩
 replace h:=h.ext ah
 replace ar:=ah.ND (ag.ND ar)
 replace aH:=ah.ND aH
 refine NB$ Nw$ Sq (ps:=[12,13]) (p:=[]) (q:=[_]) O zhx ?_
 rintro l w4 aB hl cH hD Rc dS fA
 have N4:=z8X dS fA
 have h3:=h
 replace h:=h.ext aB
 replace ar:=aB.ND ar
 replace aH:=aB.ND aH
 have En:=j6.lt
 have kC:=ar.lt
 have eg:=ad.size
 have dc:=ag.size
 have pp:=ah.size
 have Kz:bx<w3.heap.size:=j6.lt
 replace j6:=aB.ND j6
 refine Oa.mono (z1G l bx (.slice a D.cache.length cap) D.cache
  (λi w'=>Rc .ready none w'/\Kp (λk=>k=l) w4 w'/\∀j x,j<i->D.cache.reverse[j]? =some x->x.1≠n)
  (λw'=>Rc .done (some .ret) w'/\Kp (λk=>k=l\/k=b4) w4 w'/\NM w' b4 [S (D.now n)] 9) w4 (by omega) ?_ ?_ ⟨fA,Kp.refl _ _,by omega⟩) ?_
 ·rintro i w' ⟨h1,h2,-⟩;refine⟨⟨_,h2.ND j6 (by omega)⟩,h.cache.kp h2 λg hg dL=>?_⟩;have:=h3.cache.lt hg;omega
 ·rintro i w' x hx ⟨h1,h2,gD⟩;refine Tx dS h1 O O ?_;have ya:=h2.size;refine NC O$ NK O O (Qk (cs:=[_,_]) Vb O) ?_;rintro _ w5 ⟨b6,rfl,mN,aT,aR⟩;refine NP O (OA Vb O O O O aR (by simp)) ?_;rintro w6 ⟨nr,aP⟩;have aK:=aT.Nv aP (λi hi=>by omega);replace h1:=aK.rc dS h1 id;replace h2:=h2.trans aK.kp;have Eo:=aT.size;have KA:=nr.lt;refine NB$ run_beginRound O dS h1 ?_;rintro w7 h7 ax;have bj:=ax.ND nr (by omega);have kD:=(h2.trans ax).ND ar (by omega);refine Nw$ qN O$ NO Z4 O$ qV ((NJ U3 O O bj O))$ qV ((NJ U3 O O kD O))$ Px O O$ NB$ NN O (λdR=>?_)$ λdR=>?_
  ·have eW:=(h2.trans ax).ND aH (by omega);refine qN O$ NO z1z O$ qV ((NJ U9 O O bj O))$ NP O (PA ti9 O O O eW (by simp)) ?_;rintro w8 ⟨ck,aV⟩;refine NB$ Xs dS (aV.rc dS h7 (by omega)) ?_;intro w9 h9 aS;refine .inr ⟨rfl,h9,((h2.trans ax).NR λ_ h=> .inl h).trans ((aV.NR λ_ h=> .inr h).trans (aS.NR λ_ h=> .inl h)),?_⟩
   have Ep:D.now n=x.2:=by
    unfold Dev.now;rw[z4J D.cache n i gD x hx dR]
    rfl
   rw[Ep];exact aS.ND ck (by omega)
  ·refine An$ Ny$ Uv dS h7 ?_;intro w9 h9 aS;refine .inl ⟨rfl,h9,(h2.trans ax).trans aS,λj y hj hy=>?_⟩;rcases Nat.lt_or_ge j i with rU|rU
   ·exact gD j y rU hy
   ·have:j=i:=by omega
    subst this;rw[hx] at hy;cases hy;exact dR
 ·rintro v w' ⟨rfl,⟨h1,h2,gD⟩|⟨h1,h2,hB⟩⟩
  ·refine⟨_,_,h1,by simp,λw5 h5=>?_⟩;have ai:=h2.trans h5;have aT:Ext w3 w5:=aB.Nv ai (λi hi=>by omega);replace h3:=h3.ext aT;have kD:=ai.ND ar (by omega);have eW:=ai.ND aH (by omega);have uk:=ai.heap hD (by omega);refine Ny$ qN O$ Nz O$ qV (NJ U3 O O kD O)$ NZ zc7 O (z3N n h3) ?_;rintro _ w6 ⟨rfl,aK⟩;replace eW:=aK.ND eW;replace uk:=aK.heap uk id;refine NP O (PA ti9 O O O eW (by simp)) ?_;rintro w7 ⟨bj,ax⟩;replace uk:=ax.heap uk (by omega);have ck:=(Pu w7 w3.heap.size (.deferred none)).ND bj (by omega);refine NB$ Vv (by simp) (WY uk) func195 (.cell1 U9 O O ((ck).cell _) .nil) ?_;refine⟨_,rfl,?_,?_⟩
   ·simp[Dev.now,z4l D.cache n gD,OR]
   ·exact((((ad.trans (ag.trans ah)).trans aT).trans aK).Nv ax (λi hi=>by omega)).Nv (Pu w7 w3.heap.size (.deferred none)) (λi hi=>by omega)
  ·refine⟨_,_,h1,by simp,λw5 h5=>?_⟩;have uk:=(h2.trans (h5.NR λ_ h=> .inl h)).heap hD (by omega);have aC:=h5.ND hB (by omega);have ck:=(Pu w5 w3.heap.size (.deferred none)).ND aC (by omega);refine Vv (by simp) (WY uk) func195 (.cell1 U9 O O ((ck).cell _) .nil) ?_;refine⟨_,rfl,rfl,?_⟩;exact(((ad.trans (ag.trans (ah.trans aB))).Nv h2 (λi hi=>by omega)).Nv h5 (λi hi=>by omega)).Nv (Pu w5 w3.heap.size (.deferred none)) (λi hi=>by omega)
section
variable {w:World}{p m:Nat}{kp ca:Value}{D:Dev}
theorem z9B (h:Qz w p m kp ca D):Oa prog 148 [ptr p 0] w λv w'=>v= .bool D.down/\w'=w:=by
 have hM:=h.ND
 refine Nu (e:=[(0,_)]) func148 O ntmps148 O O$ qN O$ NQ O$ qM O$ Nz O$ qV (OP U27 O O)$ NT O O$ O8 O$ NO z25 O$ qV (NJ U4 O O hM O)$ OC O O$ NF O$ NA func148 O ?_
 exact⟨_,rfl,rfl,rfl⟩
end
end Go.Proofs.YtfgjaafcgghnoaaGreatDoor
