/- Merged by program. -/
import Derived.Test.YtbihggbffaigjaaGreatDoorZc7
import Derived.RecoverIn
set_option linter.all false
set_option maxRecDepth 1000000
set_option maxHeartbeats 16000000
namespace Go.Proofs.YtbihggbffaigjaaGreatDoor
open Go Go.RowKit Go.Proofs.Tryz
def z2F (z:Int)(hz:JIq z)(w:World):P9 prog 9 [I z] w λv w'=>∃n:Nat,v=I (n:Int)/\1<=n/\n<=40/\w'=w:=by
 have r1:=Up z 40 ψ
 have r2:=WI z 40 ψ
 refine py (e:=[(0,_)]) func9 O ntmps9 O O$ qN O$ QO O$ qV (yrt O O ψ)$ PL O$ qV (yrt O O ψ) ?_
 rw[show(z.tmod 40+40).tmod 40=nrm z 40 from rfl]
 refine PL O$ OK O$ Oo func9 O ?_
 exact⟨_,rfl,(1+nrm z 40).toNat,by rw[Int.toNat_of_nonneg ω];rfl,ω,ω,rfl⟩
def z7B:Qc:=⟨7,3,3,3,64⟩
def z7l:Qc:=⟨0,0,2,1,64⟩
def z6T:Qc:=⟨2,1,4,2,3⟩
def z3L (z:Int)(hz:JIq z)(w:World):P9 prog 34 [I z] w λv w'=>∃p:Qc,v=bpV p/\p.Qj/\p.zeta<=3/\Ext w w':=by
 have r1:=Up z 3 ψ
 have r2:=WI z 3 ψ
 refine py (e:=[(0,_)]) func34 O ntmps34 O O$ qN O$ Oy O O (Rq (cs:=[_,_,_,_,_]) Ru O) ?_
 rintro _ w1 ⟨b2,rfl,bP,ad,ah⟩
 refine qM O$ qV (Sa (cs:=[_,_,_,_,_]) Ru O zcm O O)$ qV (Sa (cs:=[_,_,_,_,_]) Ru O zcm O O)$ qV (Sa (cs:=[_,_,_,_,_]) Ru O zcm O O)$ Oy O O (XM (cs:=[_,_,_,_,_,_,_,_,_,_,_,_,_,_,_]) (zs:=[Value.int .i64 0,Value.int .i64 0,Value.int .i64 0,Value.int .i64 0,Value.int .i64 0,Value.int .i64 0,Value.int .i64 0,Value.int .i64 0,Value.int .i64 0,Value.int .i64 0,Value.int .i64 0,Value.int .i64 0,Value.int .i64 0,Value.int .i64 0,Value.int .i64 0]) zcz Ru O (by kernel_rfl) O O O ψ) ?_
 rintro _ w2 ⟨b3,rfl,⟨dY,ae,ak⟩,-⟩
 refine OC O$ qV (yrt O O ψ)$ PL O$ qV (yrt O O ψ) ?_
 rw[show(z.tmod 3+3).tmod 3=nrm z 3 from rfl]
 have ic:=ae.On ah
 have FI:nrm z 3=((0:Nat):Int)\/nrm z 3=((1:Nat):Int)\/nrm z 3=((2:Nat):Int):=by omega
 have lb:=ah.lt
 rcases FI with e|e| e
 ·rw[e];refine qV (PK zcz Ru O O ω) (qV (Pa (news:=UX z7B) U93 O Ru O (OE.cells (i:=0+0*5) (n:=5) ak O) O) (OJ O (Py (news:=UX z7B) Ru O O O O ic ξ) ?_));rintro w3 ⟨ao,ar⟩;refine Oq$ P6 func34 (.cell U93 O Ru O (OE.cells (n:=5) ao (news:=[_,_,_,_,_]) O) O .nil) ?_;exact⟨_,rfl,z7B,rfl,by unfold Qc.Qj RN.Qj z7B Qc.list;decide,ψ,(ad.trans ae).It ar (λj e=>by omega)⟩
 ·rw[e];refine qV (PK zcz Ru O O ω) (qV (Pa (news:=UX z7l) U93 O Ru O (OE.cells (i:=0+1*5) (n:=5) ak O) O) (OJ O (Py (news:=UX z7l) Ru O O O O ic ξ) ?_));rintro w3 ⟨ao,ar⟩;refine Oq$ P6 func34 (.cell U93 O Ru O (OE.cells (n:=5) ao (news:=[_,_,_,_,_]) O) O .nil) ?_;exact⟨_,rfl,z7l,rfl,by unfold Qc.Qj RN.Qj z7l Qc.list;decide,ψ,(ad.trans ae).It ar (λj e=>by omega)⟩
 ·rw[e];refine qV (PK zcz Ru O O ω) (qV (Pa (news:=UX z6T) U93 O Ru O (OE.cells (i:=0+2*5) (n:=5) ak O) O) (OJ O (Py (news:=UX z6T) Ru O O O O ic ξ) ?_));rintro w3 ⟨ao,ar⟩;refine Oq$ P6 func34 (.cell U93 O Ru O (OE.cells (n:=5) ao (news:=[_,_,_,_,_]) O) O .nil) ?_;exact⟨_,rfl,z6T,rfl,by unfold Qc.Qj RN.Qj z6T Qc.list;decide,ψ,(ad.trans ae).It ar (λj e=>by omega)⟩
def z3p {Q:QY}{txt:Int->Ov}{K:Nat}{X:Nat->Prop}{w:World}(h:Sp Q txt K X w):P9 prog 29 [ptr Q.s 0] w λv w'=>∃a b c d e:Value,v= .agg #[a,b,c,d,e,I 0,I 0]/\Ext w w':=by
 obtain⟨P,hm,hI,hs,hf⟩:=h
 rw[<-hs.s]
 have hB:=hm.cells
 refine py (e:=[(0,_)]) func29 O ntmps29 O O$ qN O$ Oy O O (Rq (cs:=[_,_,_,_,_,_,_]) z1z O) ?_
 rintro _ w1 ⟨b2,rfl,bP,ad,ah⟩
 have vX:=ad.On hB
 refine Oq$ Pz O$ qV (PU XP O O)$ PX O$ P7 O$ Pb O$ OL Vs O$ qV (Pa (news:=[I (P.fr:Int),I P.h,I P.mi,I P.wr,I 0,I 0,I 0]) U76 O z1z O (OE.cells (i:=4) (n:=7) vX O) O)$ Oy O O (Rq (cs:=[_,_,_,_,_,_,_]) z1z O) ?_
 rintro _ w2 ⟨b3,rfl,dY,ae,ak⟩
 refine OJ O (Py (news:=[I (P.fr:Int),I P.h,I P.mi,I P.wr,I 0,I 0,I 0]) z1z O O O O ak ξ) ?_
 rintro w3 ⟨ao,ar⟩
 replace ao:OE w3 b3 [I (P.fr:Int),I P.h,I P.mi,I P.wr,I 0,I 0,I 0] 76:=ao
 have aU:Ext w1 w3:=ae.It ar (λj e=>by omega)
 have cg:=ad.trans aU
 have kl:=cg.On hB
 have oV:=hm.mp.ext cg
 have cT:=aU.On ah
 have z1:=ad.size
 have z2:=ae.size
 have l1:=ah.lt
 refine qM O$ OC O$ Pb O$ OL Uz O$ qV (OB WV O O kl O)$ qV (zgl WV O oV.l)$ OL zeI O$ OJ O (Qw PH O O O ao ξ) ?_
 rintro w4 ⟨aH,aq⟩
 have cm:=aq.On cT ω
 replace aH:OE w4 b3 [I (P.fr:Int),I P.h,I P.mi,I P.wr,I ((TJ P.l).length:Int),I 0,I 0] 76:=aH
 refine qM O$ qV (Pa (news:=[I (P.fr:Int),I P.h,I P.mi,I P.wr,I ((TJ P.l).length:Int),I 0,I 0]) U76 O z1z O (OE.cells (i:=0) (n:=7) aH O) O)$ OJ O (Py (news:=[I (P.fr:Int),I P.h,I P.mi,I P.wr,I ((TJ P.l).length:Int),I 0,I 0]) z1z O O O O cm ξ) ?_
 rintro w5 ⟨aD,ai⟩
 refine Oq$ P6 func29 (.cell U76 O z1z O (OE.cells (n:=7) aD (news:=[_,_,_,_,_,_,_]) O) O .nil) ?_
 exact⟨_,rfl,_,_,_,_,_,rfl,(cg.It aq (λj e=>by omega)).It ai (λj e=>by omega)⟩
theorem S3 {L:List Bool}{s n:Nat}{b:Bool}(h:s+n<=L.length)(i:Nat):(PJ L s n b)[i]? =if s<=i/\i<s+n then some b else L[i]? :=by
 unfold PJ
 have hl:(L.take s).length=s:=by rw[List.length_take];omega
 by_cases h1:i<s
 ·rw[if_neg ω,List.getElem?_append_left ω,List.getElem?_take_of_lt h1]
 ·rw[List.getElem?_append_right ω,hl];by_cases h2:i<s+n
  ·rw[if_pos ω,List.getElem?_append_left (by rw[List.length_replicate];omega),List.getElem?_replicate,if_pos ω]
  ·rw[if_neg ω,List.getElem?_append_right (by rw[List.length_replicate];omega),List.length_replicate,List.getElem?_drop]
   congr 1
   omega
def z0u {L:List Bool}{a n:Nat}(h:Pre L a)(hn:a+n<=L.length):Pre (PJ L a n true) (a+n):=by
 have h2:=h.a2
 refine⟨ω,by rw[PY hn];exact hn,λi h1 h3=>?_,λi h1 h3=>?_⟩
 ·rw[S3 hn];split
  ·rfl
  ·exact h.tk i h1 ω
 ·rw[PY hn] at h3;rw[S3 hn,if_neg ω];exact h.fr i ω h3
theorem z8p {L:List Bool}{a n:Nat}(h:Pre L a)(hn:a+n<=L.length):PJ (PJ L a n true) a n false=L:=by
 have h1:=PY (b:=true) hn
 have h4:=PY (b:=false) (L:=PJ L a n true) (s:=a) (n:=n) ω
 apply List.ext_getElem?
 intro i
 rw[S3 ω,S3 hn]
 by_cases hi:a<=i/\i<a+n
 ·rw[if_pos hi];exact(h.fr i hi.1 ω).symm
 ·rw[if_neg hi,if_neg hi]
def z3v {Q:QY}{txt:Int->Ov}{K:Nat}{X:Nat->Prop}{w:World}(hP:Sp Q txt K X w)(hX:∀b,X b->b<w.heap.size)(hK:K<=90000000000)(x1:X 1)(x2:X 2)(hG:OE w 1 (S6 .gamma) 314)(hU:OE w 2 (S6 .unary) 314){g:List (List Nat)}(aw:QH g)(bc:1<=g.length)(gT:g.length<=40){ga:Option Addr}{gc:Nat}(jA:GrM w (.slice ga g.length gc) g){p:Qc}(hp:p.Qj)(hz:p.zeta<=3){a:Nat}(ha:Pre Q.L a)(eI:a+72<=Q.L.length):
  P9 prog 33 [ptr Q.s 0,.slice ga g.length gc,bpV p] w λv w'=>∃(G:Xv) (txt':Int->Ov),v= .tuple #[ptr G.k 0,.bool true]/\G.g=g/\G.st=a/\G.len<=72/\1<=G.len/\(w.heap.size<=G.k/\w.heap.size<=G.x/\w.heap.size<=G.rb)/\Sz G (Q.PI (PJ Q.L a G.len true)) txt' (K+200) (λj=>X j\/j=G.x\/j=G.k) w'/\(∀y:Int,y<(a:Int)\/(a:Int)+(G.len:Int)<=y->txt' y=txt y)/\Kp (λb=>¬X b) w w':=by
 have en:=hP.n
 refine py (e:=[(0,_),(1,_),(2,_)]) func33 O ntmps33 O O$ qN O$ Oy O O (R9 O (cs:=UX p) O) ?_
 rintro _ w1 ⟨bp,rfl,Mm,ad,qZ⟩
 refine Si O$ QO O$ qV (Pa (news:=UX p) U93 O Ru O (OE.cells (i:=0) (n:=5) qZ O) O)$ OQ zjJ O (z6r hp aw bc (jA.ext ad) (ad.On hG) (ad.On hU)) ?_
 rintro _ w2 ⟨E,Mn,rfl,ae⟩
 have B3:SO p g E:=⟨hp,aw,bc,Mn⟩
 have Mo:=zab B3 gT hz
 obtain⟨T,hT⟩:∃T,Xl p g E=T:=⟨_,rfl⟩
 rw[hT] at Mo⊢
 have aL:=ad.trans ae
 have f9:=hP.ext' aL
 refine OC O$ Sw O$ Qd O$ Pz O$ Ql O$ PX O$ P7 O$ OQ z4h O (f9.size) ?_
 rintro _ w2 ⟨rfl,rfl⟩
 refine OC O$ qV (VX U9 O)$ OQ zjC O (z2t T.length ω _) ?_
 rintro _ w2 ⟨rfl,rfl⟩
 obtain⟨N,hN⟩:∃N,(T.length+523) / 512=N:=⟨_,rfl⟩
 rw[hN]
 have iS:1<=N/\N<=72/\T.length<=N*512-12:=by omega
 refine OC O$ Sw O$ Qd O$ P8.qb (e:=[(0,_),(6,_),(7,_),(8,_),(9,_),(10,_)]) ?_
 refine Pz O$ Ql O ?_
 have fB:∀b,X b->b<w2.heap.size:=λb hb=>by have:=hX b hb;have:=aL.size;omega
 refine PX O$ Qh O$ OQ zgX O (f9.take fB ha iS.1 ω) ?_
 rintro _ w3 ⟨rfl,gI,ar⟩
 have fx:(PJ Q.L a N true).length=Q.L.length:=PY ω
 obtain⟨Q3,Bq⟩:∃Q3,Q.PI (PJ Q.L a N true)=Q3:=⟨_,rfl⟩
 rw[Bq] at gI
 have x7:Q3.s=Q.s:=by rw[<-Bq];rfl
 have O6:Q3.L.length=Q.L.length:=by rw[<-Bq];exact fx
 rw[<-x7]
 have z3:=ar.size
 have oP:∀b,X b->b<w3.heap.size:=λb hb=>by have:=fB b hb;omega
 refine OC O$ Sw O$ Oy O O (Rq (cs:=[_,_]) QT O) ?_
 rintro _ w4 ⟨be,rfl,Ed,aC,eO⟩
 refine OJ O (Py (news:=[I (a:Int),I (N:Int)]) QT O O O O eO ξ) ?_
 rintro w5 ⟨jp,ai⟩
 replace jp:OE w5 be [I (a:Int),I (N:Int)] 124:=jp
 have bF:Ext w3 w5:=aC.It ai (λj e=>by omega)
 refine OK O$ Pz O$ Ql O ?_
 have iO:Sp Q3 txt K (λb=>X b\/b=be) w5:=gI.ext bF (λb e=>e.imp id λe=>by omega)
 refine PX O$ P7 O$ qV (Pa (news:=[I (a:Int),I (N:Int)]) WY O QT O (OE.cells (i:=0) (n:=2) jp O) O)$ OQ ziR O (z36 iO iS.1 ω) ?_
 rintro _ w6 ⟨wb,bs,bx,bw,sum,rfl,gM,zW,⟨z1',z2',z3',z4'⟩,aQ⟩
 have z5:=bF.size
 have z6:=aQ.size
 have lbe:=jp.lt
 obtain⟨X6,qo⟩:∃X6:Nat->Prop,(λb=>X b\/b=be\/b=wb\/b=bs\/b=bx\/b=bw)=X6:=⟨_,rfl⟩
 have eP:∀b,X b->X6 b:=λb hb=>by rw[<-qo];exact .inl hb
 have aO:X6 wb/\X6 bs/\X6 bx/\X6 bw:=by rw[<-qo];exact⟨.inr (.inr (.inl O)),.inr (.inr (.inr (.inl O))),.inr (.inr (.inr (.inr (.inl O)))),.inr (.inr (.inr (.inr (.inr O))))⟩
 have FJ:X6 be:=by rw[<-qo];exact .inr (.inl O)
 have o5:Sp Q3 txt K X6 w6:=iO.ext aQ (λb e=>by
  rw[<-qo] at e;rcases e with e|e| e
  ·exact .inl (.inl e)
  ·exact .inl (.inr e)
  ·exact .inr ω)
 have l1:=zW.wr.lt
 have l2:=zW.sb.lt
 have l3:=zW.xb.lt
 have l4:=zW.pb.lt
 have qr:∀b,X6 b->b<w6.heap.size:=λb e=>by
  rw[<-qo] at e;rcases e with e| e
  ·have:=oP b e;omega
  ·omega
 have FK:be≠wb:=by omega
 refine OC O$ Sw O$ Qd O$ Pz O$ Ql O$ OX O$ OC O$ OQ zjg O (z3X o5 qr ω zW gM aO ω iS.1 iS.2.2) ?_
 rintro _ w7 ⟨rfl,sum7,rU,txt7,rest,zN,ie,gL,FM,FN,ax,sC⟩
 have z7:=ax.size
 refine Ql O$ PC O$ OX O$ OQ zjk O (z3D zN (λb e=>by have:=qr b e;omega) ω ie rU aO ω hN.symm (by rw[show T.length%512=T.length-512*(T.length / 512) by omega];exact gL) (λb hb e=>by have:=qr b e;have:=sC b hb;omega) FM) ?_
 rintro _ w8 ⟨rfl,txt8,oR,FO,FP,FQ,aP⟩
 have z8:=aP.size
 have pe:Kp (λb=>¬X6 b\/b=wb) w6 w8:=ax.trans aP
 have ux:=pe.On (aQ.On jp) (λe=>e.elim (λe=>e FJ) FK)
 refine Ql O$ PC O$ Oq$ P8.qb (e:=[(0,_),(6,_),(7,_),(9,_),(11,_),(59,_)]) ?_
 refine T2 O$ P7 O$ qV (Pa (news:=[I (a:Int),I (N:Int)]) WY O QT O (OE.cells (i:=0) (n:=2) ux O) O)$ OQ zj1 O (z5j oR (λb e=>by have:=qr b e;omega) ω iS.1 ω iS.2.2 rU FP) ?_
 rintro _ w9 ⟨rb,rfl,zX,HA,vR,aK⟩
 have z9:=aK.size
 have lrb:=zX.lt
 have hL:Laid txt8 a T:=Laid.of λk hk=>⟨vR.z0w ω ω,FO k hk⟩
 subst hT
 have hO:StO Q3 txt8 (K+(Xl p g E).length / 512+2) a N (Xl p g E):=⟨ω,ω,hL,ω⟩
 have sI:Kp (λb=>¬X b) w w6:=(aL.kp.trans ar).trans (bF.trans aQ).kp
 have iY:Kp (λb=>¬X b) w w8:=sI.It pe λb e=>by
  rcases e with e| e
  ·exact .inr λe2=>e (eP b e2)
  ·exact .inl (by have:=aL.size;omega)
 have iK:Kp (λb=>¬X b) w w9:=iY.trans (aK.OA λb e e2=>e (eP b e2))
 have z2:=aL.size
 have ur:¬X rb:=λe=>by have:=hX rb e;omega
 have hI:(z5X hO rb sum7).inv X w9:=⟨vR.less (λb e=>e.imp (eP b) id),zX,ur⟩
 refine OC O$ Sw O$ Qd O$ Pz O$ Ql O$ PX O$ P7 O$ OQ zjd O (z5n B3 hO hI (λb e=>by have:=hX b e;omega) x1 x2 (iK.On hG (λe=>e x1)) (iK.On hU (λe=>e x2))) ?_
 rintro _ w10 ⟨k,x,rfl,EM,ku,Mp,aA⟩
 refine OC O$ Sw O$ Si O$ QL O$ OX O$ QS O$ Rf$ OX O$ qV (z3H U28 O O)$ QQ O$ Qd O$ P8.qb (e:=[(6,_),(7,_)]) ?_
 refine Oo func33 O (⟨_,rfl,⟨p,g,E,a,N,rb,sum7,k,x⟩,txt8,rfl,rfl,rfl,iS.2.1,iS.1,⟨by show w.heap.size<=k;omega,by show w.heap.size<=x;omega,by show w.heap.size<=rb;omega⟩,?_,λy hy=>?_,iK.trans aA⟩)
 ·rw[Bq];exact Sz.more (G:=⟨p,g,E,a,N,rb,sum7,k,x⟩) ⟨hO,Mp⟩ ω ω
 ·show txt8 y=txt y;have hy:y<(a:Int)\/(a:Int)+(N:Int)<=y:=hy;rw[FQ y hy,FN y ω]
structure Wd where
 d:Nat
 Q:QY
 txt:Int->Ov
 K:Nat
 G:Xv
 T:Xv
 a:Nat
def Wd.v (W:Wd):List Value:=[ptr W.d 0,ptr W.Q.s 0,ptr W.G.k 0,ptr W.T.k 0,I ((200-W.a:Nat):Int)]
structure WdM (W:Wd)(g:List (List Nat))(XX:Nat->Prop)(w:World):Prop where
 hg:Sz W.G W.Q W.txt W.K (λb=>XX b/\b≠W.G.rb) w
 ht:Sz W.T W.Q W.txt W.K (λb=>XX b/\b≠W.T.rb) w
 gg:W.G.g=g
 tg:W.T.g=Qb g
 pre:Pre W.Q.L W.a
 a:W.a<=146
 L:W.Q.L.length=200
 K:W.K<=400
 gs:W.G.st+W.G.len<=W.T.st
 ts:W.T.st+W.T.len<=W.a
 rb:XX W.G.rb/\XX W.T.rb/\W.G.rb≠W.T.rb/\W.T.rb≠W.G.k/\W.T.rb≠W.G.x/\W.G.rb≠W.T.k/\W.G.rb≠W.T.x
def za6 {w:World}{g:List (List Nat)}(aw:QH g)(bc:1<=g.length)(gT:g.length<=40){ga:Option Addr}{gc:Nat}(jA:GrM w (.slice ga g.length gc) g)(hG:OE w 1 (S6 .gamma) 314)(hU:OE w 2 (S6 .unary) 314)(fr fo:Int)(jv:JIq fr)(uy:JIq fo):
  P9 prog 10 [.slice ga g.length gc,I fr,I fo] w λv w'=>∃(W:Wd) (XX:Nat->Prop),v= .tuple #[.agg W.v.toArray,.bool true]/\WdM W g XX w'/\Ext w w'/\(∀b,b<w.heap.size->XX b/\b≠W.G.rb/\b≠W.T.rb)/\w.heap.size<=W.G.k/\w.heap.size<=W.G.x/\w.heap.size<=W.T.k/\w.heap.size<=W.T.x:=by
 have r1:=Up fr 12 ψ
 have r2:=WI fr 12 ψ
 have l1:=hG.lt
 have l2:=hU.lt
 refine py (e:=[(0,_),(1,_),(2,_)]) func10 O ntmps10 O O$ qN O$ Oy O O (Rq (cs:=[_,_,_,_,_]) z1C O) ?_
 rintro _ w1 ⟨bW,rfl,O7,ad,Ix⟩
 have z1:=ad.size
 have lW:=Ix.lt
 refine QL O$ qV (Sa (cs:=[_,_]) zb7 O ziB O O)$ OQ zj5 O (zc7 200 1 _ (by unfold ZF;decide)) ?_
 rintro _ w2 ⟨d,Fd,rfl,hD,ae,Mq⟩
 refine OC O$ Sw O$ Si O$ QL O$ OQ zjs O (z8Q 200 ψ _) ?_
 rintro _ w3 ⟨m,gi,rfl,hE,hm,tI,aj⟩
 have z2:=ae.size
 have z3:=aj.size
 have Mr:=hD.ext aj
 refine OC O$ Sw O$ Si O$ QL O$ OX O$ qV (yrt O O ψ)$ PL O$ qV (yrt O O ψ) ?_
 rw[show(fr.tmod 12+12).tmod 12=nrm fr 12 from rfl]
 obtain⟨nf,Ms,FS,Mt⟩:∃nf:Nat,1+nrm fr 12=(nf:Int)/\1<=nf/\nf<=12:=⟨(1+nrm fr 12).toNat,ω,ω,ω⟩
 refine PL O ?_
 rw[Ms]
 have gV:(List.replicate 200 false).length=200:=List.length_replicate
 have Mu:¬Fd m/\¬Fd gi:=⟨λe=>by have:=hD.lt _ e;omega,λe=>by have:=hD.lt _ e;omega⟩
 refine OC O$ OQ ziU O (z8I (L:=List.replicate 200 false) (by rw[gV];exact Mr) hE Mu nf FS ω) ?_
 rintro _ w4 ⟨P,rfl,hM,hI,Mv,Mw,Iy,Mx,aC⟩
 have z4:=aC.size
 have bQ:Ext w w4:=((ad.trans ae).trans aj).trans aC
 have FT:=((ae.trans aj).trans aC).On Ix
 obtain⟨X,hX⟩:∃X:Nat->Prop,(λb=>b<w.heap.size\/b=bW)=X:=⟨_,rfl⟩
 have FU:∀b,X b->b<w1.heap.size:=λb e=>by rw[<-hX] at e;omega
 have oe:∀b,b<w.heap.size->X b:=λb e=>by rw[<-hX];exact .inl e
 have Br:X bW:=by rw[<-hX];exact .inr O
 have jx:Sp P (λ_=>zeros 512) 0 X w4:=⟨P,hM,hI,⟨rfl,rfl,rfl,rfl,rfl,rfl,rfl,rfl,rfl⟩,λb hb e=>by
  have:=FU b e;rcases Mx b hb with e|e|e| e
  ·have:=Mq b e;omega
  ·omega
  ·omega
  ·omega⟩
 have du:Pre P.L 2:=by
  rw[Iy];exact⟨Nat.le_refl _,by rw[gV];omega,λi h1 h2=>by omega,λi h1 h2=>by rw[gV] at h2;rw[List.getElem?_replicate,if_pos h2]⟩
 have O8:P.L.length=200:=by rw[Iy,gV]
 refine OC O$ Sw O$ Qd O$ P8.qb (e:=[(0,_),(2,_),(6,_),(7,_),(8,_),(9,_),(10,_),(11,_),(12,_),(13,_)]) ?_
 refine Pz O$ Ql O$ Pu$ OX O$ Ql O$ Pu$ PC O$ OX O$ Ql O$ Pu$ PC O$ OX O$ qV (PU XP O O)$ PC O ?_
 refine PX O$ Qh O$ OC O$ OQ zfs O (z3L fo uy _) ?_
 rintro _ w5 ⟨p1,rfl,Cn,mG,aR⟩
 have z5:=aR.size
 have bL:=bQ.trans aR
 have My:∀b,X b->b<w5.heap.size:=λb e=>by have:=FU b e;omega
 refine OQ zfr O (z3v (jx.ext' aR) My ω (oe 1 l1) (oe 2 l2) (bL.On hG) (bL.On hU) aw bc gT (jA.ext bL) Cn mG du ω) ?_
 rintro _ w6 ⟨G,txt6,rfl,Mz,O9,Oa,MA,⟨n1,n2,n3⟩,dA,Bs,aJ⟩
 have ir:Ext w w6:=bL.It aJ (λb e=>by
  rcases Nat.lt_or_ge b w.heap.size with h| h
  ·exact absurd (oe b h) e
  ·exact h)
 have z6:=aJ.size
 have FW:=aJ.On (aR.On FT) (λe=>e Br)
 have FD:(PJ P.L 2 G.len true).length=P.L.length:=PY ω
 have og:Pre (PJ P.L 2 G.len true) (2+G.len):=z0u du ω
 obtain⟨Q6,FX⟩:∃Q6,P.PI (PJ P.L 2 G.len true)=Q6:=⟨_,rfl⟩
 have FY:Q6.L=PJ P.L 2 G.len true:=by rw[<-FX];rfl
 have uz:Q6.s=P.s/\Q6.d=P.d/\Q6.m=P.m:=by rw[<-FX];exact⟨rfl,rfl,rfl⟩
 rw[FX] at dA
 rw[<-FY] at FD og
 obtain⟨gb,go,gc',lw,MB⟩:=jA.r bc
 cases lw
 refine OC O$ Sw O$ Qd O$ P8.qb (e:=[(0,_),(2,_),(6,_),(7,_),(8,_),(10,_),(12,_),(14,_),(15,_)]) ?_
 refine Qh O$ OQ ziF O (z5w aw (MB.ext ir)) ?_
 rintro _ w7 ⟨bt,rfl,MC,ci⟩
 have jL:=ir.trans ci
 have z7:=ci.size
 have FZ:=dA.ext ci
 have kI:=RF g
 refine OC O$ qV (z9Q O O) ?_
 obtain⟨fo2,zY⟩:∃z,IntKind.i64.wrap (fo+1)=z:=⟨_,rfl⟩
 have zZ:JIq fo2:=by
  rw[<-zY,IntKind.wrap_i64];omega
 rw[zY]
 refine OQ zfs O (z3L fo2 zZ _) ?_
 rintro _ w8 ⟨p2,rfl,sO,mK,cz⟩
 have z8:=cz.size
 have bJ:=FZ.ext cz
 have uA:=jL.trans cz
 obtain⟨X2,fB⟩:∃X2:Nat->Prop,(λb=>(X b\/b=G.x\/b=G.k)\/b=G.rb)=X2:=⟨_,rfl⟩
 have il:∀b,X b->X2 b:=λb e=>by rw[<-fB];exact .inl (.inl e)
 have oR:Sp Q6 txt6 (0+200) X2 w8:=by rw[<-fB];exact bJ.sp
 have G0:∀b,X2 b->b<w8.heap.size:=λb e=>bJ.lt1 b (by rw[<-fB] at e;exact e)
 have G4:GrM w8 (.slice (some ⟨bt,0,none⟩) (Qb g).length (Qb g).length) (Qb g):=(MC.ext cz).gr
 have mR:=z3v oR G0 ω (il _ (oe 1 l1)) (il _ (oe 2 l2)) (uA.On hG) (uA.On hU) (zaW aw) ω ω G4 sO mK og ω
 rw[uz.1,kI] at mR
 refine OQ zfr O (mR) ?_
 rintro _ w9 ⟨T,txt9,rfl,MD,Ob,G5,ME,⟨t1,t2,t3⟩,iC,G6,aK⟩
 have z9:=aK.size
 have gp:Ext w w9:=uA.It aK (λb e=>by
  rcases Nat.lt_or_ge b w.heap.size with h| h
  ·exact absurd (il b (oe b h)) e
  ·exact h)
 have G7:=aK.On ((ci.trans cz).On FW) (λe=>e (il _ Br))
 have Iz:(PJ Q6.L (2+G.len) T.len true).length=Q6.L.length:=PY ω
 have oh:Pre (PJ Q6.L (2+G.len) T.len true) (2+G.len+T.len):=z0u og ω
 obtain⟨Q9,G8⟩:∃Q9,Q6.PI (PJ Q6.L (2+G.len) T.len true)=Q9:=⟨_,rfl⟩
 have G9:Q9.L=PJ Q6.L (2+G.len) T.len true:=by rw[<-G8];rfl
 have uB:Q9.s=Q6.s/\Q9.d=Q6.d/\Q9.m=Q6.m:=by rw[<-G8];exact⟨rfl,rfl,rfl⟩
 rw[G8] at iC
 rw[<-G9] at Iz oh
 have A0:=iC.sp
 have uC:=iC.lt1
 have MF:Sz G Q9 txt9 (0+200+200) (λb=>(X b\/b=G.x\/b=G.k)\/b=T.x\/b=T.k\/b=T.rb) w9:=bJ.ziE aK (λb e=>by rw[<-fB] at e;exact e) (λj e=> .inl e) (λj e=>e.imp id λe=>by
   have h1:=uC T.x (.inl (.inr (.inl O)));have h2:=uC T.k (.inl (.inr (.inr O)));have h3:=uC T.rb (.inr O)
   omega) (A0.less λb e=>by
   rw[<-fB];rcases e with(e|e|e|e)| e
   ·exact .inl (.inl (.inl e))
   ·exact .inl (.inr (.inl e))
   ·exact .inl (.inr (.inr e))
   ·exact .inr e
   ·exact .inl (.inl (.inr e))) uB.1 Iz ω (λy h1 h2=>G6 y (.inl ω))
 have eI:=A0.room oh ω
 rw[uB.2.2,uz.2.2,Mv] at eI
 refine OC O$ Sw O$ Si O$ QL O$ OX O$ OX O$ OC O$ OQ zfK O (eI) ?_
 rintro _ w10 ⟨rfl,bI⟩
 have A1:=bI.On G7
 rw[show Q9.L.length-(2+G.len+T.len)=200-(2+G.len+T.len) by omega]
 refine qV (Sa (cs:=[_,_,_,_,_]) z1C O zjH O O)$ OX O$ OC O$ QQ O$ OJ O (Py (news:=[_,_,_,_,_]) z1C O O O O A1 ξ) ?_
 rintro w11 ⟨A3,bz⟩
 refine OK O$ P8.qb (e:=[(6,_),(7,_)]) ?_
 refine P6 func10 (.cell U30 O z1C O (OE.cells (n:=5) A3 (news:=[_,_,_,_,_]) O) O (.tmp O .nil)) ?_
 obtain⟨XX,eP⟩:∃XX:Nat->Prop,(λb=>X b\/b=G.x\/b=G.k\/b=G.rb\/b=T.x\/b=T.k\/b=T.rb)=XX:=⟨_,rfl⟩
 have Bt:=bJ.rbX
 have qs:=iC.rbX
 have Bu:=bJ.xk
 have IA:=iC.xk
 have zG:=bJ.lt1 _ (.inr O)
 have zGk:=bJ.lt1 _ (.inl Bu.1)
 have zGx:=bJ.lt1 _ (.inl Bu.2.1)
 have lZ:∀b,X b->b<w1.heap.size:=FU
 have Ga:Sz G Q9 txt9 400 (λb=>XX b/\b≠G.rb) w11:=by
  refine Sz.less (Y:=λb=>(X b\/b=G.x\/b=G.k)\/b=T.x\/b=T.k\/b=T.rb) ((MF.ext bI).own bz λj e=>?_) (λb e=>?_) ?_
  ·subst e;exact⟨.inl (.inl Br),ω,ω,ω,ω⟩
  ·rw[<-eP] at e;rcases e with⟨e|e|e|e|e,h⟩
   ·exact .inl (.inl e)
   ·exact .inl (.inr (.inl e))
   ·exact .inl (.inr (.inr e))
   ·exact absurd e h
   ·exact .inr e
  ·rw[<-eP];exact⟨⟨.inr (.inr (.inl O)),λe=>Bt (e▸Bu.1)⟩,⟨.inr (.inl O),λe=>Bt (e▸Bu.2.1)⟩,⟨.inl (oe 1 l1),ω⟩,⟨.inl (oe 2 l2),ω⟩⟩
 have Gb:Sz T Q9 txt9 400 (λb=>XX b/\b≠T.rb) w11:=by
  refine Sz.less (Y:=λj=>X2 j\/j=T.x\/j=T.k) ((iC.ext bI).own bz λj e=>?_) (λb e=>?_) ?_
  ·subst e;exact⟨.inl (il _ Br),ω,ω,ω,ω⟩
  ·rw[<-eP] at e;rw[<-fB];rcases e with⟨e|e|e|e|e|e|e,h⟩
   ·exact .inl (.inl (.inl e))
   ·exact .inl (.inl (.inr (.inl e)))
   ·exact .inl (.inl (.inr (.inr e)))
   ·exact .inl (.inr e)
   ·exact .inr (.inl e)
   ·exact .inr (.inr e)
   ·exact absurd e h
  ·rw[<-eP];exact⟨⟨.inr (.inr (.inr (.inr (.inr (.inl O))))),λe=>qs (e▸IA.1)⟩,⟨.inr (.inr (.inr (.inr (.inl O)))),λe=>qs (e▸IA.2.1)⟩,⟨.inl (oe 1 l1),ω⟩,⟨.inl (oe 2 l2),ω⟩⟩
 refine⟨_,rfl,⟨d,Q9,txt9,400,G,T,2+G.len+T.len⟩,XX,?_,⟨Ga,Gb,Mz,MD,oh,?_,?_,?_,?_,?_,by rw[<-eP];exact⟨.inr (.inr (.inr (.inl O))),.inr (.inr (.inr (.inr (.inr (.inr O))))),λe=>qs (.inl (by rw[<-fB];exact .inr e.symm)),λe=>qs (.inl (by rw[<-fB];exact .inl (.inr (.inr e)))),λe=>qs (.inl (by rw[<-fB];exact .inl (.inr (.inl e)))),(by show G.rb≠T.k;omega),(by show G.rb≠T.x;omega)⟩⟩,?_,λb hb=>⟨by rw[<-eP];exact .inl (oe b hb),λe=>?_,λe=>?_⟩,?_,?_,?_,?_⟩
 ·unfold Wd.v;rw[uB.1,uz.1]
  rfl
 ·show 2+G.len+T.len<=146;omega
 ·show Q9.L.length=200;omega
 ·exact Nat.le_refl _
 ·show G.st+G.len<=T.st;omega
 ·show T.st+T.len<=2+G.len+T.len;omega
 ·exact(gp.trans bI).It bz λb e=>by omega
 ·have e:b=G.rb:=e;omega
 ·have e:b=T.rb:=e;omega
 ·show w.heap.size<=G.k;omega
 ·show w.heap.size<=G.x;omega
 ·show w.heap.size<=T.k;omega
 ·show w.heap.size<=T.x;omega
def zad {w:World}{g:List (List Nat)}(aw:QH g)(bc:1<=g.length)(gT:g.length<=40){ga:Option Addr}{gc:Nat}(jA:GrM w (.slice ga g.length gc) g)(hG:OE w 1 (S6 .gamma) 314)(hU:OE w 2 (S6 .unary) 314)(fr fo:Int)(jv:JIq fr)(uy:JIq fo):
  P9 prog 10 [.slice ga g.length gc,I fr,I fo] w λv w'=>∃(W:Wd) (XX:Nat->Prop),v= .tuple #[.agg W.v.toArray,.bool true]/\WdM W g XX w'/\Ext w w'/\(∀b,b<w.heap.size->XX b/\b≠W.G.rb/\b≠W.T.rb)/\w.heap.size<=W.G.k/\w.heap.size<=W.G.x:=by
 refine(za6 aw bc gT jA hG hU fr fo jv uy).mono ?_
 rintro v w' ⟨W,XX,h1,h2,h3,h4,h5,h6,-⟩
 exact⟨W,XX,h1,h2,h3,h4,h5,h6⟩
def z6H {w:World}{g:List (List Nat)}(aw:QH g)(bc:1<=g.length)(gT:g.length<=40){ga:Option Addr}{gc:Nat}(jA:GrM w (.slice ga g.length gc) g)(hG:OE w 1 (S6 .gamma) 314)(hU:OE w 2 (S6 .unary) 314)(fr fo:Int)(jv:JIq fr)(uy:JIq fo):
  P9 prog 10 [.slice ga g.length gc,I fr,I fo] w λv w'=>∃(W:Wd) (XX:Nat->Prop),v= .tuple #[.agg W.v.toArray,.bool true]/\WdM W g XX w'/\Ext w w'/\∀b,b<w.heap.size->XX b/\b≠W.G.rb/\b≠W.T.rb:=by
 refine(zad aw bc gT jA hG hU fr fo jv uy).mono ?_
 rintro v w' ⟨W,XX,h1,h2,h3,h4,-⟩
 exact⟨W,XX,h1,h2,h3,h4⟩
structure RuK (σ:Type) where
 M:QY->(Int->Ov)->Nat->Nat->(Nat->Prop)->Nat->Nat->σ->World->Prop
 tm:σ->Nat
 c0:Nat
 c1:Nat
 kp:∀{Q:QY} {txt:Int->Ov} {k rr:Nat} {O_:Nat->Prop} {a L:Nat} {s:σ} {w w':World} {S:Nat->Prop},M Q txt k rr O_ a L s w->Kp S w w'->(∀b,O_ b->¬S b)->M Q txt k rr O_ a L s w'
 VT:∀{Q:QY} {txt txt':Int->Ov} {k rr:Nat} {O_:Nat->Prop} {a L:Nat} {s:σ} {w:World},M Q txt k rr O_ a L s w->(∀y:Int,(a:Int)<=y->y<(a:Int)+(L:Int)->txt' y=txt y)->M Q txt' k rr O_ a L s w
 q:∀{Q Q':QY} {txt:Int->Ov} {k rr:Nat} {O_:Nat->Prop} {a L:Nat} {s:σ} {w:World},M Q txt k rr O_ a L s w->Q'.s=Q.s->Q'.L.length=Q.L.length->M Q' txt k rr O_ a L s w
structure RuM {σ:Type}(R:RuK σ)(G:Xv)(Q:QY)(txt:Int->Ov)(K:Nat)(X:Nat->Prop)(rr:Nat)(O_:Nat->Prop)(a L:Nat)(s:σ)(w:World):Prop where
 g:Sz G Q txt K X w
 m:R.M Q txt G.k rr O_ a L s w
 xr:∀b,O_ b->X b
 ro:O_ rr
 ne:∀b,O_ b->b≠G.k/\b≠G.x/\b≠1/\b≠2
 UK:G.st+G.len<=a
 n:G.g.length<=40
section
variable {σ:Type}{R:RuK σ}{w w':World}{g:List (List Nat)}{G:Xv}{Q:QY}{txt txt':Int->Ov}{K K':Nat}{X Y S' O_:Nat->Prop}{rr a L:Nat}{s s':σ}
theorem RuM.step (h:RuM R G Q txt K X rr O_ a L s w)(hk:Kp S' w w')(hS:∀j,S' j->X j/\j≠G.k/\j≠G.x/\j≠1/\j≠2/\¬O_ j)(hXY:∀j,X j->Y j)(hY:∀j,Y j->X j\/(w.heap.size<=j/\j<w'.heap.size)):RuM R G Q txt K Y rr O_ a L s w':=
 ⟨h.g.step hk (λj e=>⟨(hS j e).1,(hS j e).2.1,(hS j e).2.2.1,(hS j e).2.2.2.1,(hS j e).2.2.2.2.1⟩) hY hXY,R.kp h.m hk (λb hb e=>(hS b e).2.2.2.2.2 hb),λb hb=>hXY b (h.xr b hb),h.ro,h.ne,h.UK,h.n⟩
theorem RuM.less (h:RuM R G Q txt K Y rr O_ a L s w)(hXY:∀j,X j->Y j)(hx:X G.k/\X G.x/\X 1/\X 2)(hr:∀b,O_ b->X b):RuM R G Q txt K X rr O_ a L s w:=⟨h.g.less hXY hx,h.m,hr,h.ro,h.ne,h.UK,h.n⟩
theorem RuM.read (h:RuM R G Q txt K X rr O_ a L s w)(hk:Kp (λb=>¬(X b\/b=G.rb)) w w')(hP:Sp Q txt K (λb=>X b\/b=G.rb) w'):RuM R G Q txt K X rr O_ a L s w':=
 ⟨h.g.Zb hk (λb e=> .inl e) hP O O h.g.z8u (λ_ _ _=>rfl),R.kp h.m hk (λb hb e=>e (.inl (h.xr b hb))),h.xr,h.ro,h.ne,h.UK,h.n⟩
theorem RuM.Zb (h:RuM R G Q txt K X rr O_ a L s w)(hK:K'<1000000000000)(hk:Kp S' w w')(hS:∀b,S' b->¬(X b\/b=G.rb)\/O_ b)(hP:Sp Q txt' K' (λb=>X b\/b=G.rb) w')(hy:∀y:Int,y<(a:Int)\/(a:Int)+(L:Int)<=y->txt' y=txt y)(hm:R.M Q txt' G.k rr O_ a L s' w'):RuM R G Q txt' K' X rr O_ a L s' w':=by
 have hd:=h.UK
 exact⟨h.g.Zb hk (λb e=>(hS b e).imp id λhb=>⟨h.xr b hb,h.ne b hb⟩) hP O O hK (λy h1 h2=>hy y (.inl ω)),hm,h.xr,h.ro,h.ne,h.UK,h.n⟩
theorem RuM.set (h:RuM R G Q txt K X rr O_ a L s w)(hk:Kp S' w w')(hS:∀b,S' b->O_ b)(hm:R.M Q txt G.k rr O_ a L s' w'):RuM R G Q txt K X rr O_ a L s' w':=
 ⟨h.g.own hk (λj e=>⟨h.xr j (hS j e),h.ne j (hS j e)⟩),hm,h.xr,h.ro,h.ne,h.UK,h.n⟩
theorem RuM.list (h:RuM R G Q txt K X rr O_ a L s w)(hg:Sz G Q txt K Y w')(hk:Kp (λj=>¬X j) w w')(hXY:∀j,X j->Y j):RuM R G Q txt K Y rr O_ a L s w':=
 ⟨hg,R.kp h.m hk (λb hb e=>e (h.xr b hb)),λb hb=>hXY b (h.xr b hb),h.ro,h.ne,h.UK,h.n⟩
end
def Sp.iff {Q:QY}{txt:Int->Ov}{K:Nat}{X Y:Nat->Prop}{w:World}(h:Sp Q txt K X w)(e:∀b,X b↔Y b):Sp Q txt K Y w:=by
 have e2:X=Y:=funext λb=>propext (e b)
 exact e2▸h
section
variable {G:Xv}{w w':World}{Q Q':QY}{txt txt':Int->Ov}{K K':Nat}{X Y S':Nat->Prop}
def Sz.at_ (h:Sz G Q txt K X w)(hk:Kp S' w w')(hS:¬S' G.k/\¬S' G.x/\¬S' 1/\¬S' 2/\¬S' G.rb)(hY:Y G.k/\Y G.x/\Y 1/\Y 2)(hlt:∀j,Y j->j<w'.heap.size)(hr:¬Y G.rb)(hP:Sp Q' txt' K' (λb=>Y b\/b=G.rb) w')(hs:Q'.s=Q.s)(hl:Q'.L.length=Q.L.length)(hK:K'<1000000000000)(ht:∀y:Int,(G.st:Int)<=y->y<(G.st:Int)+(G.len:Int)->txt' y=txt y):Sz G Q' txt' K' Y w':=by
 have hrB:=h.rbB
 obtain⟨o,h⟩:=h
 have hlen:=o.len
 have hI:(z5X (⟨hK,by rw[hl];exact o.fit,o.laid.VT λk hk=>ht _ ω ω,o.len⟩:StO Q' txt' K' G.st G.len (Xl G.p G.g G.E)) G.rb G.sum).inv Y w':=⟨hP,by rw[hs];exact hk.On hrB hS.2.2.2.2,hr⟩
 exact⟨_,⟨h.ok,hk.On h.On hS.1,hk.On h.ix hS.2.1,hY.1,hY.2.1,hI,hlt,hY.2.2.1,hY.2.2.2,hk.On h.gam hS.2.2.1,hk.On h.una hS.2.2.2.1⟩⟩
end
structure Ri {σ:Type}(R:RuK σ)(G T:Xv)(Q:QY)(txt:Int->Ov)(K:Nat)(X:Nat->Prop)(rr:Nat)(O_:Nat->Prop)(a L:Nat)(s:σ)(w:World):Prop where
 m:RuM R G Q txt K (λb=>X b\/b=T.rb) rr O_ a L s w
 t:Sz T Q txt K (λb=>X b\/b=G.rb) w
 xr:∀b,O_ b->X b
 xk:X G.k/\X G.x/\X T.k/\X T.x/\X 1/\X 2
 nk:∀b,O_ b->b≠T.k/\b≠T.x
 UK:T.st+T.len<=a
section
variable {σ:Type}{R:RuK σ}{G T:Xv}{w w':World}{Q:QY}{txt txt':Int->Ov}{K K':Nat}{X Y S' O_:Nat->Prop}{rr a L:Nat}{s s':σ}
def Ri.ng (h:Ri R G T Q txt K X rr O_ a L s w):¬X G.rb/\G.rb≠T.rb/\¬X T.rb:=by
 have h1:=h.m.g.rbX
 have h2:=h.t.rbX
 exact⟨λe=>h1 (.inl e),λe=>h1 (.inr e),λe=>h2 (.inl e)⟩
def Ri.sp (h:Ri R G T Q txt K X rr O_ a L s w):Sp Q txt K (λb=>(X b\/b=T.rb)\/b=G.rb) w:=h.m.g.sp
def Ri.lt (h:Ri R G T Q txt K X rr O_ a L s w):∀b,((X b\/b=T.rb)\/b=G.rb)->b<w.heap.size:=h.m.g.lt1
def Ri.byG (h:Ri R G T Q txt K X rr O_ a L s w)(hm:RuM R G Q txt' K' (λb=>Y b\/b=T.rb) rr O_ a L s' w')(hk:Kp S' w w')(hS:∀b,S' b->(¬X b/\b≠T.rb)\/O_ b)(hXY:∀j,X j->Y j)(hY:∀j,Y j->X j\/w.heap.size<=j)(hy:∀y:Int,y<(a:Int)\/(a:Int)+(L:Int)<=y->txt' y=txt y):Ri R G T Q txt' K' Y rr O_ a L s' w':=by
 obtain⟨n1,n2,n3⟩:=h.ng
 have hd:=h.UK
 have hlt:=h.lt
 have hml:=hm.g.lt1
 have hx:=h.xk
 have hne:=h.m.ne
 have hrt:=hlt T.rb (.inl (.inr O))
 have hrg:=hlt G.rb (.inr O)
 have hnS:∀b,X b->¬O_ b->¬S' b:=λb hb ho e=>(hS b e).elim (λe=>e.1 hb) ho
 refine⟨hm,h.t.at_ hk ⟨hnS _ hx.2.2.1 λe=>(h.nk _ e).1 O,hnS _ hx.2.2.2.1 λe=>(h.nk _ e).2 O,hnS _ hx.2.2.2.2.1 λe=>(hne _ e).2.2.1 O,hnS _ hx.2.2.2.2.2 λe=>(hne _ e).2.2.2 O,λe=>(hS _ e).elim (λe=>e.2 O) (λe=>n3 (h.xr _ e))⟩ ⟨.inl (hXY _ hx.2.2.1),.inl (hXY _ hx.2.2.2.1),.inl (hXY _ hx.2.2.2.2.1),.inl (hXY _ hx.2.2.2.2.2)⟩ (λj e=>hml j (e.imp .inl id)) ?_ (hm.g.sp.iff λb=>?_) O O hm.g.z8u (λy e1 e2=>hy y (.inl ω)),λb hb=>hXY b (h.xr b hb),⟨hXY _ hx.1,hXY _ hx.2.1,hXY _ hx.2.2.1,hXY _ hx.2.2.2.1,hXY _ hx.2.2.2.2.1,hXY _ hx.2.2.2.2.2⟩,h.nk,hd⟩
 ·rintro(e|e)
  ·rcases hY _ e with e| e
   ·exact n3 e
   ·omega
  ·exact n2 e.symm
 ·constructor
  ·rintro((e|e)|e)
   ·exact .inl (.inl e)
   ·exact .inr e
   ·exact .inl (.inr e)
  ·rintro((e|e)|e)
   ·exact .inl (.inl e)
   ·exact .inr e
   ·exact .inl (.inr e)
theorem Ri.step (h:Ri R G T Q txt K X rr O_ a L s w)(hk:Kp S' w w')(hS:∀j,S' j->X j/\j≠G.k/\j≠G.x/\j≠T.k/\j≠T.x/\j≠1/\j≠2/\¬O_ j)(hXY:∀j,X j->Y j)(hY:∀j,Y j->X j\/(w.heap.size<=j/\j<w'.heap.size)):Ri R G T Q txt K Y rr O_ a L s w':=by
 have hx:=h.xk
 exact⟨h.m.step hk (λj e=>by obtain⟨e1,e2,e3,e4,e5,e6,e7,e8⟩:=hS j e;exact⟨.inl e1,e2,e3,e6,e7,e8⟩) (λj e=>e.imp (hXY j) id) (λj e=>e.elim (λe=>(hY j e).imp .inl id) (λe=> .inl (.inr e))),
  h.t.step hk (λj e=>by obtain⟨e1,e2,e3,e4,e5,e6,e7,e8⟩:=hS j e;exact⟨.inl e1,e4,e5,e6,e7⟩) (λj e=>e.elim (λe=>(hY j e).imp .inl id) (λe=> .inl (.inr e))) (λj e=>e.imp (hXY j) id),
  λb hb=>hXY b (h.xr b hb),⟨hXY _ hx.1,hXY _ hx.2.1,hXY _ hx.2.2.1,hXY _ hx.2.2.2.1,hXY _ hx.2.2.2.2.1,hXY _ hx.2.2.2.2.2⟩,h.nk,h.UK⟩
def Ri.ext (h:Ri R G T Q txt K X rr O_ a L s w)(hx:Ext w w'):Ri R G T Q txt K X rr O_ a L s w':=
 h.step hx (λ_ e=>e.elim) (λ_ e=>e) (λ_ e=> .inl e)
def Ri.grow (h:Ri R G T Q txt K X rr O_ a L s w)(hx:Ext w w')(hY:∀j,Y j->X j\/(w.heap.size<=j/\j<w'.heap.size))(hXY:∀j,X j->Y j):Ri R G T Q txt K Y rr O_ a L s w':=
 h.step hx (λ_ e=>e.elim) hXY hY
def Ri.own (h:Ri R G T Q txt K X rr O_ a L s w)(hk:Kp S' w w')(hS:∀j,S' j->X j/\j≠G.k/\j≠G.x/\j≠T.k/\j≠T.x/\j≠1/\j≠2/\¬O_ j):Ri R G T Q txt K X rr O_ a L s w':=
 h.step hk hS (λ_ e=>e) (λ_ e=> .inl e)
theorem Ri.read (h:Ri R G T Q txt K X rr O_ a L s w)(hk:Kp (λb=>¬((X b\/b=T.rb)\/b=G.rb)) w w')(hP:Sp Q txt K (λb=>(X b\/b=T.rb)\/b=G.rb) w'):Ri R G T Q txt K X rr O_ a L s w':=
 h.byG (h.m.read hk hP) hk (λb e=> .inl ⟨λe2=>e (.inl (.inl e2)),λe2=>e (.inl (.inr e2))⟩) (λ_ e=>e) (λ_ e=> .inl e) (λ_ _=>rfl)
theorem Ri.Zb (h:Ri R G T Q txt K X rr O_ a L s w)(hK:K'<1000000000000)(hk:Kp S' w w')(hS:∀b,S' b->¬((X b\/b=T.rb)\/b=G.rb)\/O_ b)(hP:Sp Q txt' K' (λb=>(X b\/b=T.rb)\/b=G.rb) w')(hy:∀y:Int,y<(a:Int)\/(a:Int)+(L:Int)<=y->txt' y=txt y)(hm:R.M Q txt' G.k rr O_ a L s' w'):Ri R G T Q txt' K' X rr O_ a L s' w':=
 h.byG (h.m.Zb hK hk hS hP hy hm) hk (λb e=>(hS b e).imp (λe=>⟨λe2=>e (.inl (.inl e2)),λe2=>e (.inl (.inr e2))⟩) id) (λ_ e=>e) (λ_ e=> .inl e) hy
theorem Ri.set (h:Ri R G T Q txt K X rr O_ a L s w)(hk:Kp S' w w')(hS:∀b,S' b->O_ b)(hm:R.M Q txt G.k rr O_ a L s' w'):Ri R G T Q txt K X rr O_ a L s' w':=
 h.byG (h.m.set hk hS hm) hk (λb e=> .inr (hS b e)) (λ_ e=>e) (λ_ e=> .inl e) (λ_ _=>rfl)
def Ri.less (h:Ri R G T Q txt K Y rr O_ a L s w)(hXY:∀j,X j->Y j)(hx:X G.k/\X G.x/\X T.k/\X T.x/\X 1/\X 2)(hr:∀b,O_ b->X b):Ri R G T Q txt K X rr O_ a L s w:=
 ⟨h.m.less (λj e=>e.imp (hXY j) id) ⟨.inl hx.1,.inl hx.2.1,.inl hx.2.2.2.2.1,.inl hx.2.2.2.2.2⟩ (λb hb=> .inl (hr b hb)),h.t.less (λj e=>e.imp (hXY j) id) ⟨.inl hx.2.2.1,.inl hx.2.2.2.1,.inl hx.2.2.2.2.1,.inl hx.2.2.2.2.2⟩,hr,hx,h.nk,h.UK⟩
end
inductive SA (g:List (List Nat)) (a:Nat):Nat->Prop
 |refl:SA g a a
 |step {x b:Nat}:SA g a x->b∈OG g x->SA g a b
section
variable {g:List (List Nat)}{a b:Nat}
/-! ### Colours -/
def SA.lt (h:QH g)(hr:SA g a b)(ha:a<g.length):b<g.length:=by
 cases hr with
 |refl=>exact ha
 |step _ hx=>exact T5 h _ _ hx
end
theorem z1P {p q:Nat->Bool}:∀{l:List Nat},(∀x∈l,p x=true->q x=false)->l.countP (λx=>p x ||q x)=l.countP p+l.countP q
 |[],_=>rfl
 | x :: l, h => by
   have ih:=z1P (p:=p) (q:=q) (l:=l) λy hy=>h y (List.mem_cons_of_mem _ hy);have h1:=h x List.mem_cons_self;rw[List.countP_cons,List.countP_cons,List.countP_cons,ih]
   cases hp:p x with
   |false=>cases q x<;>simp<;>omega
   |true=>rw[h1 hp];simp;omega
theorem z1W {a:Nat}:∀n,a<n->(List.range n).countP (λx=>decide (x=a))=1
 |0,h=>absurd h (Nat.not_lt_zero _)
 | n + 1, h => by
   rw[List.range_succ,List.countP_append,List.countP_singleton];by_cases e:a=n
   ·subst e
    have:(List.range a).countP (λx=>decide (x=a))=0:=by
     rw[List.countP_eq_zero];intro x hx hd;have:=List.mem_range.1 hx;have:=of_decide_eq_true hd;omega
    rw[this];simp
   ·rw[z1W n ω,if_neg (by simpa using λe2=>e e2.symm)]
theorem XL {n:Nat}:∀{l:List Nat},l.Nodup->(∀x∈l,x<n)->l.length=(List.range n).countP (λx=>decide (x∈l))
 |[],_,_=>by rw[List.length_nil,eq_comm,List.countP_eq_zero];simp
 | a :: l, hn, h => by
   rw[List.nodup_cons] at hn;have ih:=XL (l:=l) hn.2 λx hx=>h x (List.mem_cons_of_mem _ hx)
   have e:(λx=>decide (x∈a::l))=λx=>decide (x=a) ||decide (x∈l):=by
    funext x
    rw[<-Bool.decide_or,decide_eq_decide,List.mem_cons]
   rw[e,z1P,z1W n (h a List.mem_cons_self),List.length_cons,ih,Nat.add_comm];intro x hx hp;rw[of_decide_eq_true hp];exact decide_eq_false hn.1
theorem z1h {p:Nat->Nat->Bool}{m:Nat}:∀n,((List.range n).map λx=>(List.range m).countP (p x)).sum=((List.range m).map λu=>(List.range n).countP (λx=>p x u)).sum
 | 0 => by
   rw[List.range_zero,List.map_nil,List.sum_nil,eq_comm]
   have:∀l:List Nat,(l.map λu=>([]:List Nat).countP (λx=>p x u)).sum=0:=λl=>by
    induction l with
    |nil=>rfl
    |cons a l ih=>rw[List.map_cons,List.sum_cons,ih];rfl
   exact this _
 | n + 1 => by
   rw[List.range_succ,List.map_append,List.sum_append,z1h n]
   have:∀l:List Nat,(l.map λu=>(List.range n).countP (λx=>p x u)).sum+l.countP (p n)=(l.map λu=>(List.range n++[n]).countP (λx=>p x u)).sum:=λl=>by
    induction l with
    |nil=>rfl
    | cons a l ih =>
      rw[List.map_cons,List.sum_cons,List.map_cons,List.sum_cons,List.countP_cons,<-ih,List.countP_append,List.countP_singleton];omega
   rw[<-this];simp
theorem Zu (g:List (List Nat)):PG g=((List.range g.length).map λx=>(OG g x).length).sum:=by
 unfold PG
 congr 1
 refine List.ext_getElem? λi=>?_
 rw[List.getElem?_map,List.getElem?_map]
 by_cases h:i<g.length
 ·rw[List.getElem?_range h];unfold OG;simp[List.getElem?_eq_getElem h]
 ·rw[List.getElem?_eq_none ω,List.getElem?_eq_none (by rw[List.length_range];omega)]
  rfl
def z6s {g:List (List Nat)}(h:QH g)(hnd:∀x,(OG g x).Nodup)(hlt:∀x y,y∈OG g x->y<g.length):PG (Qb g)=PG g:=by
 rw[Zu,Zu,RF]
 have e1:((List.range g.length).map λx=>(OG g x).length)=(List.range g.length).map λx=>(List.range g.length).countP (λu=>decide (u∈OG g x)):=
  List.map_congr_left λx _=>XL (hnd x) (hlt x)
 have e2:((List.range g.length).map λu=>(OG (Qb g) u).length)=(List.range g.length).map λu=>(List.range g.length).countP (λx=>decide (u∈OG g x)):=
  List.map_congr_left λu hu=>by
   unfold OG;rw[Z6 g (List.mem_range.1 hu),List.countP_eq_length_filter]
   rfl
 rw[e1,e2,z1h]
def z4K {g:List (List Nat)}(h:QH g):PG (Qb g)=PG g:=by
 have hm:∀x,OG g x∈g\/OG g x=[]:=λx=>by
  unfold OG;by_cases e:x<g.length
  ·rw[List.getElem?_eq_getElem e];exact .inl (List.getElem_mem e)
  ·rw[List.getElem?_eq_none ω];exact .inr O
 refine z6s h (λx=>?_) λx y hy=>?_
 ·rcases hm x with e| e
  ·exact List.Pairwise.imp (λh e=>by omega) (h.ok _ e).ris
  ·rw[e];exact .nil
 ·rcases hm x with e| e
  ·exact h.lt _ e y hy
  ·rw[e] at hy;cases hy
structure Vc1 where
 vb:Nat
 width:Nat
 st:Nat
 xs:List Nat
def Vc1.len (v:Vc1):Nat:=Wf v.xs.length (512 / v.width)
def Vx (L:List Bool)(T:List Vc1):List Bool:=T.foldl (λL v=>PJ L v.st v.len false) L
theorem YK (L:List Bool)(T:List Vc1)(v:Vc1):Vx L (T++[v])=PJ (Vx L T) v.st v.len false:=by
 unfold Vx
 rw[List.foldl_append];rfl
def z4R:∀(T:List Vc1) (L:List Bool),(∀v∈T,v.st+v.len<=L.length)->(Vx L T).length=L.length
 |[],L,_=>rfl
 | v :: T, L, h => by
   have h1:=PY (b:=false) (h v List.mem_cons_self);have:=z4R T (PJ L v.st v.len false) λu hu=>by rw[h1];exact h u (List.mem_cons_of_mem _ hu)
   exact this.trans h1
theorem z3d:∀(T:List Vc1) (L:List Bool) (i:Nat),(∀v∈T,v.st+v.len<=L.length)->(∀v∈T,i<v.st\/v.st+v.len<=i)->(Vx L T)[i]? =L[i]?
 |[],L,i,_,_=>rfl
 | v :: T, L, i, h, h' => by
   have h1:=PY (b:=false) (h v List.mem_cons_self);have:=z3d T (PJ L v.st v.len false) i (λu hu=>by rw[h1];exact h u (List.mem_cons_of_mem _ hu)) λu hu=>h' u (List.mem_cons_of_mem _ hu);refine Eq.trans this ?_;have h2:=h' v List.mem_cons_self;rw[S3 (h v List.mem_cons_self),if_neg ω]
def zbv (T:List Vc1):Prop:=∀(i j:Nat) (u v:Vc1),T[i]? =some u->T[j]? =some v->i≠j->u.vb≠v.vb/\(u.st+u.len<=v.st\/v.st+v.len<=u.st)
structure z8W (Q:QY)(txt:Int->Ov)(K:Nat)(X:Nat->Prop)(T:List Vc1)(a L:Nat)(w:World)(i:Nat)(w':World):Prop where
 ex:∃txt',Sp (Q.PI (Vx Q.L (T.take i))) txt' K X w'/\(∀(j:Nat) (v:Vc1),i<=j->T[j]? =some v->Vn (Q.PI (Vx Q.L (T.take i))) txt' v.vb v.width v.st v.xs w')/\(∀y:Int,y<(a:Int)\/(a:Int)+(L:Int)<=y->txt' y=txt y)
 k:Kp (λb=>¬X b\/∃v∈T,b=v.vb) w w'
section
variable {w w' w1:World}{Q:QY}{txt:Int->Ov}{K a L i:Nat}{X:Nat->Prop}{T:List Vc1}{v:Vc1}
theorem z8W.zero (hP:Sp Q txt K X w)(hT:∀(j:Nat) (v:Vc1),T[j]? =some v->Vn Q txt v.vb v.width v.st v.xs w):z8W Q txt K X T a L w 0 w:=
 ⟨⟨txt,hP,λj v _ h=>hT j v h,λ_ _=>rfl⟩,Kp.refl _ _⟩
def z8W.next (h:z8W Q txt K X T a L w i w1)(hX:∀b,X b->b<w.heap.size)(hv:T[i]? =some v)(hin:∀v∈T,X v.vb/\a<=v.st/\v.st+v.len<=a+L)(hap:zbv T)(ha2:2<=a)(hfit:a+L<=Q.L.length)(hown:∀i,a<=i->i<a+L->Q.L[i]? =some true):
  P9 prog 51 [ptr v.vb 0] w1 λr w'=>r=I 0/\z8W Q txt K X T a L w (i+1) w':=by
 obtain⟨⟨txt1,hP1,hV1,hy1⟩,hk1⟩:=h
 have hvm:=List.mem_of_getElem? hv
 obtain⟨hvX,hva,hvL⟩:=hin v hvm
 have hfitT:∀u∈T.take i,u.st+u.len<=Q.L.length:=λu hu=>by have:=(hin u (List.mem_of_mem_take hu)).2.2;omega
 have hcl:(Vx Q.L (T.take i)).length=Q.L.length:=z4R _ _ hfitT
 have hil:i<T.length:=by
  rcases Nat.lt_or_ge i T.length with h| h
  ·exact h
  ·rw[List.getElem?_eq_none h] at hv;cases hv
 have htk:T.take (i+1)=T.take i++[v]:=by rw[List.take_add_one,hv];rfl
 have z1:=hk1.size
 refine(z3u hP1 (λb hb=>by have:=hX b hb;omega) (hV1 i v (Nat.le_refl _) hv) hvX ω ?_).mono ?_
 ·intro k e1 e2;show(Vx Q.L (T.take i))[k]? =some true;have e2:k<v.st+v.len:=e2;rw[z3d _ _ _ hfitT]
  ·exact hown k ω ω
  ·intro u hu;obtain⟨j,hj⟩:=List.getElem?_of_mem hu
   have hji:j<i:=by
    rcases Nat.lt_or_ge j i with h| h
    ·exact h
    ·rw[List.getElem?_eq_none (by rw[List.length_take];omega)] at hj;cases hj
   rw[List.getElem?_take_of_lt hji] at hj;have:=(hap j i u v hj hv ω).2;omega
 ·rintro r w' ⟨rfl,txt',hP',hy',hk'⟩
  have hq:(Q.PI (Vx Q.L (T.take i))).PI (PJ (Q.PI (Vx Q.L (T.take i))).L v.st v.len false)=Q.PI (Vx Q.L (T.take (i+1))):=by
   rw[htk,YK];rfl
  have hP':Sp ((Q.PI (Vx Q.L (T.take i))).PI (PJ (Q.PI (Vx Q.L (T.take i))).L v.st v.len false)) txt' K X w':=hP';rw[hq] at hP';refine⟨rfl,⟨txt',hP',λj u hj hu=>?_,λy hy=>?_⟩,hk1.trans (hk'.OA λb e=>e.imp id λe=>⟨v,hvm,e⟩)⟩
  ·obtain⟨n1,n2⟩:=hap i j v u hv hu ω;have huX:=(hin u (List.mem_of_getElem? hu)).1;have hl2:(Vx Q.L (T.take (i+1))).length=(Vx Q.L (T.take i)).length:=by rw[htk,YK,PY (by rw[hcl];omega)]
   refine(((hV1 j u ω hu).kp hk' λe=>e.elim (λe=>e huX) λe=>n1 e.symm).VT λy e1 e2=>hy' y ?_).q O hl2;have e2:y<(u.st:Int)+(u.len:Int):=e2;show y<(v.st:Int)\/(v.st:Int)+(v.len:Int)<=y;omega
  ·rw[hy' y (by show y<(v.st:Int)\/(v.st:Int)+(v.len:Int)<=y;omega)];exact hy1 y hy
end
def Sz.iff {G:Xv}{Q:QY}{txt:Int->Ov}{K:Nat}{X Y:Nat->Prop}{w:World}(h:Sz G Q txt K X w)(e:∀b,X b↔Y b):Sz G Q txt K Y w:=by
 have e2:X=Y:=funext λb=>propext (e b)
 exact e2▸h
abbrev YH (G T:Xv)(X:Nat->Prop):Nat->Prop:=λb=>(X b\/b=T.rb)\/b=G.rb
structure VO (G T:Xv)(Q:QY)(txt:Int->Ov)(K:Nat)(X:Nat->Prop)(w:World):Prop where
 g:Sz G Q txt K (λb=>X b\/b=T.rb) w
 t:Sz T Q txt K (λb=>X b\/b=G.rb) w
 xk:X G.k/\X G.x/\X T.k/\X T.x/\X 1/\X 2
section
variable {G T:Xv}{w w':World}{Q Q':QY}{txt txt':Int->Ov}{K K':Nat}{X Y S':Nat->Prop}{a L:Nat}
def VO.ng (h:VO G T Q txt K X w):¬X G.rb/\G.rb≠T.rb/\¬X T.rb:=by
 have h1:=h.g.rbX
 have h2:=h.t.rbX
 exact⟨λe=>h1 (.inl e),λe=>h1 (.inr e),λe=>h2 (.inl e)⟩
def VO.sp (h:VO G T Q txt K X w):Sp Q txt K (YH G T X) w:=h.g.sp
def VO.lt (h:VO G T Q txt K X w):∀b,YH G T X b->b<w.heap.size:=h.g.lt1
theorem VO.Zb (h:VO G T Q txt K X w)(hk:Kp S' w w')(hS:∀b,S' b->¬YH G T X b\/(X b/\b≠G.k/\b≠G.x/\b≠T.k/\b≠T.x/\b≠1/\b≠2))(aM:∀j,X j->Y j)(hY:∀j,Y j->X j\/w.heap.size<=j)(aN:∀j,Y j->j<w'.heap.size)(hP:Sp Q' txt' K' (YH G T Y) w')(hs:Q'.s=Q.s)(hl:Q'.L.length=Q.L.length)(hK:K'<1000000000000)(zK:∀y:Int,((G.st:Int)<=y/\y<(G.st:Int)+(G.len:Int))\/((T.st:Int)<=y/\y<(T.st:Int)+(T.len:Int))->txt' y=txt y):VO G T Q' txt' K' Y w':=by
 obtain⟨n1,n2,n3⟩:=h.ng
 have hx:=h.xk
 have A4:=h.lt
 have qs:=A4 T.rb (.inl (.inr O))
 have Bt:=A4 G.rb (.inr O)
 have hz:=hk.size
 have MG:¬Y G.rb:=λe=>(hY _ e).elim n1 ω
 have MH:¬Y T.rb:=λe=>(hY _ e).elim n3 ω
 have hn:∀{b},X b->((b=G.k\/b=G.x\/b=T.k)\/b=T.x\/b=1\/b=2)->¬S' b:=λhb he e=>by
  rcases hS _ e with e|⟨-,m1,m2,m3,m4,m5,m6⟩
  ·exact e (.inl (.inl hb))
  ·rcases he with(e|e|e)|e|e| e
   ·exact m1 e
   ·exact m2 e
   ·exact m3 e
   ·exact m4 e
   ·exact m5 e
   ·exact m6 e
 have cW:¬S' G.rb:=λe=>(hS _ e).elim (λe=>e (.inr O)) λe=>n1 e.1
 have da:¬S' T.rb:=λe=>(hS _ e).elim (λe=>e (.inl (.inr O))) λe=>n3 e.1
 refine⟨h.g.at_ hk ⟨hn hx.1 (.inl (.inl O)),hn hx.2.1 (.inl (.inr (.inl O))),hn hx.2.2.2.2.1 (.inr (.inr (.inl O))),hn hx.2.2.2.2.2 (.inr (.inr (.inr O))),cW⟩ ⟨.inl (aM _ hx.1),.inl (aM _ hx.2.1),.inl (aM _ hx.2.2.2.2.1),.inl (aM _ hx.2.2.2.2.2)⟩ (λj e=>e.elim (aN j) λe=>by omega) (λe=>e.elim MG n2) hP hs hl hK (λy e1 e2=>zK y (.inl ⟨e1,e2⟩)),
  h.t.at_ hk ⟨hn hx.2.2.1 (.inl (.inr (.inr O))),hn hx.2.2.2.1 (.inr (.inl O)),hn hx.2.2.2.2.1 (.inr (.inr (.inl O))),hn hx.2.2.2.2.2 (.inr (.inr (.inr O))),da⟩ ⟨.inl (aM _ hx.2.2.1),.inl (aM _ hx.2.2.2.1),.inl (aM _ hx.2.2.2.2.1),.inl (aM _ hx.2.2.2.2.2)⟩ (λj e=>e.elim (aN j) λe=>by omega) (λe=>e.elim MH λe=>n2 e.symm) (hP.iff λb=>?_) hs hl hK (λy e1 e2=>zK y (.inr ⟨e1,e2⟩)),⟨aM _ hx.1,aM _ hx.2.1,aM _ hx.2.2.1,aM _ hx.2.2.2.1,aM _ hx.2.2.2.2.1,aM _ hx.2.2.2.2.2⟩⟩
 constructor
 ·rintro((e|e)|e)
  ·exact .inl (.inl e)
  ·exact .inr e
  ·exact .inl (.inr e)
 ·rintro((e|e)|e)
  ·exact .inl (.inl e)
  ·exact .inr e
  ·exact .inl (.inr e)
def VO.own (h:VO G T Q txt K X w)(hk:Kp S' w w')(hS:∀b,S' b->X b/\b≠G.k/\b≠G.x/\b≠T.k/\b≠T.x/\b≠1/\b≠2):VO G T Q txt K X w':=
 ⟨h.g.own hk λj e=>⟨.inl (hS j e).1,(hS j e).2.1,(hS j e).2.2.1,(hS j e).2.2.2.2.2.1,(hS j e).2.2.2.2.2.2⟩,h.t.own hk λj e=>⟨.inl (hS j e).1,(hS j e).2.2.2.1,(hS j e).2.2.2.2.1,(hS j e).2.2.2.2.2.1,(hS j e).2.2.2.2.2.2⟩,h.xk⟩
def VO.grow (h:VO G T Q txt K X w)(hx:Ext w w')(hY:∀j,Y j->X j\/(w.heap.size<=j/\j<w'.heap.size))(aM:∀j,X j->Y j):VO G T Q txt K Y w':=by
 have hk:=h.xk
 exact⟨h.g.grow hx (λj e=>e.elim (λe=>(hY j e).imp .inl id) (λe=> .inl (.inr e))) (λj e=>e.imp (aM j) id),h.t.grow hx (λj e=>e.elim (λe=>(hY j e).imp .inl id) (λe=> .inl (.inr e))) (λj e=>e.imp (aM j) id),⟨aM _ hk.1,aM _ hk.2.1,aM _ hk.2.2.1,aM _ hk.2.2.2.1,aM _ hk.2.2.2.2.1,aM _ hk.2.2.2.2.2⟩⟩
def VO.less (h:VO G T Q txt K Y w)(aM:∀j,X j->Y j)(hx:X G.k/\X G.x/\X T.k/\X T.x/\X 1/\X 2):VO G T Q txt K X w:=
 ⟨h.g.less (λj e=>e.imp (aM j) id) ⟨.inl hx.1,.inl hx.2.1,.inl hx.2.2.2.2.1,.inl hx.2.2.2.2.2⟩,h.t.less (λj e=>e.imp (aM j) id) ⟨.inl hx.2.2.1,.inl hx.2.2.2.1,.inl hx.2.2.2.2.1,.inl hx.2.2.2.2.2⟩,hx⟩
def VO.far (h:VO G T Q txt K X w):∀j,w.heap.size<=j->j≠G.k/\j≠G.x/\j≠T.k/\j≠T.x/\j≠1/\j≠2:=λj hj=>by
 have aN:∀b,X b->b<w.heap.size:=λb hb=>h.lt b (.inl (.inl hb))
 have hx:=h.xk
 have e1:=aN _ hx.1
 have e2:=aN _ hx.2.1
 have e3:=aN _ hx.2.2.1
 have e4:=aN _ hx.2.2.2.1
 have e5:=aN _ hx.2.2.2.2.1
 have e6:=aN _ hx.2.2.2.2.2
 exact⟨ω,ω,ω,ω,ω,ω⟩
def z7F (h:Sz G Q txt K X w):P9 prog 38 [ptr G.k 0] w λv w'=>v=I (PG G.g:Int)/\w'=w:=by
 obtain⟨o,h⟩:=h
 have hB:=h.cells
 refine py (e:=[(0,_)]) func38 O ntmps38 O O$ QB O$ Pz O$ qV (PU U28 O O)$ PX O$ P7 O$ Pb O$ OL Vw O$ OL ZY O$ qV (OB U3 O O hB O)$ OK O$ Oo func38 O ?_
 exact⟨_,rfl,rfl,rfl⟩
theorem VO.vec {Q1:QY}{txt1:Int->Ov}{v be K1:Nat}{w5 w6:World}(h:VO G T Q txt K X w)(hk:Kp (λb=>¬YH G T X b) w w5)(hP:Sp Q1 txt1 K1 (λb=>YH G T X b\/b=v) w5)(hv:w.heap.size<=v)(rB:v<w5.heap.size)(hs:Q1.s=Q.s)(hl:Q1.L.length=Q.L.length)(hK:K1<1000000000000)(uD:G.st+G.len<=a)(uE:T.st+T.len<=a)(hy:∀y:Int,y<(a:Int)->txt1 y=txt y)(aJ:Kp (λb=>b=be) w5 w6)(hb:X be/\be≠G.k/\be≠G.x/\be≠T.k/\be≠T.x/\be≠1/\be≠2):VO G T Q1 txt1 K1 (λj=>X j\/j=v) w6:=by
 have aN:=h.lt
 have hz:=hk.size
 refine(h.Zb (Y:=λj=>X j\/j=v) hk (λb e=> .inl e) (λj e=> .inl e) (λj hj=>hj.imp id λe=>by omega) (λj hj=>by
   rcases hj with e| e
   ·have:=aN j (.inl (.inl e));omega
   ·omega) (hP.iff λb=>?_) hs hl hK (λy e=>hy y ω)).own aJ λj e=>by rw[e];exact⟨.inl hb.1,hb.2⟩
 constructor
 ·rintro(((e|e)|e)|e)
  ·exact .inl (.inl (.inl e))
  ·exact .inl (.inr e)
  ·exact .inr e
  ·exact .inl (.inl (.inr e))
 ·rintro(((e|e)|e)|e)
  ·exact .inl (.inl (.inl e))
  ·exact .inr e
  ·exact .inl (.inl (.inr e))
  ·exact .inl (.inr e)
theorem YS {l:List Bool}{a n:Nat}{c:Bool}(h:a+n+1<=l.length):PJ (PJ l a n c) (a+n) 1 c=PJ l a (n+1) c:=by
 have g1:(PJ l a n c).length=l.length:=PY ω
 refine List.ext_getElem? λi=>?_
 rw[S3 (by rw[g1];omega),S3 ω,S3 ω]
 by_cases c1:a+n<=i/\i<a+n+1
 ·rw[if_pos c1,if_pos ω]
 ·rw[if_neg c1];by_cases c2:a<=i/\i<a+n
  ·rw[if_pos c2,if_pos ω]
  ·rw[if_neg c2,if_neg ω]
end
abbrev Wd.x (W:Wd)(XX:Nat->Prop):Nat->Prop:=λb=>XX b/\b≠W.G.rb/\b≠W.T.rb
def WdM.gw2 {W:Wd}{g:List (List Nat)}{XX:Nat->Prop}{w:World}(h:WdM W g XX w):VO W.G W.T W.Q W.txt W.K (W.x XX) w:=by
 obtain⟨r1,r2,r3,r4,r5,r6,r7⟩:=h.rb
 obtain⟨⟨a1,a2⟩,⟨a3,a4⟩,⟨a5,a6⟩,a7,a8⟩:=h.hg.xk
 obtain⟨⟨c1,c2⟩,⟨c3,c4⟩,⟨c5,c6⟩,c7,c8⟩:=h.ht.xk
 refine⟨h.hg.less (λb e=>?_) ⟨.inl ⟨a1,a2,r4.symm⟩,.inl ⟨a3,a4,r5.symm⟩,.inl ⟨a5,a6,c6⟩,.inl ⟨a7,a8,c8⟩⟩,h.ht.less (λb e=>?_) ⟨.inl ⟨c1,r6.symm,c2⟩,.inl ⟨c3,r7.symm,c4⟩,.inl ⟨a5,a6,c6⟩,.inl ⟨a7,a8,c8⟩⟩,⟨a1,a2,r4.symm⟩,⟨a3,a4,r5.symm⟩,⟨c1,r6.symm,c2⟩,⟨c3,r7.symm,c4⟩,⟨a5,a6,c6⟩,⟨a7,a8,c8⟩⟩
 ·rcases e with e| e
  ·exact⟨e.1,e.2.1⟩
  ·rw[e];exact⟨r2,λe=>r3 e.symm⟩
 ·rcases e with e| e
  ·exact⟨e.1,e.2.2⟩
  ·rw[e];exact⟨r1,r3⟩
def Ri.far {σ:Type}{R:RuK σ}{G T:Xv}{w:World}{Q:QY}{txt:Int->Ov}{K:Nat}{X O_:Nat->Prop}{rr a L:Nat}{s:σ}(h:Ri R G T Q txt K X rr O_ a L s w):∀j,w.heap.size<=j->j≠G.k/\j≠G.x/\j≠T.k/\j≠T.x/\j≠1/\j≠2/\¬O_ j:=λj hj=>by
 have aN:∀b,X b->b<w.heap.size:=λb hb=>h.lt b (.inl (.inl hb))
 have hx:=h.xk
 have e1:=aN _ hx.1
 have e2:=aN _ hx.2.1
 have e3:=aN _ hx.2.2.1
 have e4:=aN _ hx.2.2.2.1
 have e5:=aN _ hx.2.2.2.2.1
 have e6:=aN _ hx.2.2.2.2.2
 exact⟨ω,ω,ω,ω,ω,ω,λe=>by have:=aN j (h.xr j e);omega⟩
inductive Ch (f:Nat->Nat) (root:Nat):Nat->Nat->Prop
 |refl (v:Nat):Ch f root v v
 |up {v x:Nat}:v≠root->Ch f root (f v) x->Ch f root v x
abbrev Uy:Nat:=4294967295
structure zeB (R:Nat->Prop)(num:Nat->Nat)(root:Nat):Prop where
 rt:R root
 top:∀v,R v->num v<=num root
 inj:∀u v,R u->R v->num u=num v->u=v
 no:∀v,R v->v≠Uy
structure Fo (R:Nat->Prop)(num:Nat->Nat)(root:Nat)(f:Nat->Nat):Prop where
 rt:f root=root
 up:∀v,f v≠Uy->v≠root->f (f v)≠Uy/\num v<num (f v)
 in_:∀v,f v≠Uy->R v
section
variable {R:Nat->Prop}{num f par:Nat->Nat}{root a b c v w x y:Nat}{g:List (List Nat)}
theorem Ch.trans (h1:Ch f root a b)(h2:Ch f root b c):Ch f root a c:=by
 induction h1 with
 |refl _=>exact h2
 |up hv _ ih=>exact .up hv (ih h2)
def Ch.inv (h:Ch f root v x):x=v\/(v≠root/\Ch f root (f v) x):=by
 cases h with
 |refl _=>exact .inl O
 |up h1 h2=>exact .inr ⟨h1,h2⟩
theorem Ch.at_root (h:Ch f root root x):x=root:=h.inv.elim id λe=>absurd O e.1
def Ch.mem (hf:Fo R num root f)(h:Ch f root v x):f v≠Uy->f x≠Uy/\num v<=num x/\(num x=num v->x=v):=by
 induction h with
 |refl _=>exact λh=>⟨h,Nat.le_refl _,λ_=>rfl⟩
 | up hv _ ih =>
   intro h;obtain⟨h1,h2⟩:=hf.up _ h hv;obtain⟨h3,h4,h5⟩:=ih h1;exact⟨h3,ω,λe=>by omega⟩
def Ch.zjn (hf:Fo R num root f)(h1:Ch f root a b)(h2:Ch f root b a)(ha:f a≠Uy):a=b:=by
 obtain⟨p1,p2,p3⟩:=h1.mem hf ha
 obtain⟨q1,q2,q3⟩:=h2.mem hf p1
 exact(p3 ω).symm
def UN (num f:Nat->Nat):Nat->Nat->Nat->Option Nat
 |0,a,b=>if a=b then some a else none
 |k+1,a,b=>if a=b then some a else if num a<num b then UN num f k (f a) b else UN num f k a (f b)
def z0K (hN:zeB R num root)(hf:Fo R num root f):∀(k a b:Nat),f a≠Uy->f b≠Uy->2*num root<=k+num a+num b->∃c,UN num f k a b=some c/\f c≠Uy/\∀x,Ch f root c x↔Ch f root a x/\Ch f root b x:=by
 have nr:∀{a b},f a≠Uy->f b≠Uy->num a<num b->a≠root:=fun {a b} _ hb h e=>by
  subst e;have:=hN.top b (hf.in_ b hb);omega
 have left:∀{a b},f a≠Uy->f b≠Uy->num a<num b->∀x,(Ch f root (f a) x/\Ch f root b x)↔(Ch f root a x/\Ch f root b x):=fun {a b} ha hb h x=>by
  constructor
  ·exact λe=>⟨.up (nr ha hb h) e.1,e.2⟩
  ·rintro⟨e1,e2⟩;rcases e1.inv with e| e
   ·subst e;have:=(e2.mem hf hb).2.1;omega
   ·exact⟨e.2,e2⟩
 intro k
 induction k with
 | zero =>
   intro a b ha hb hk;have h1:=hN.top a (hf.in_ a ha);have h2:=hN.top b (hf.in_ b hb);obtain rfl:=hN.inj a b (hf.in_ a ha) (hf.in_ b hb) ω
   exact⟨a,by unfold UN;rw[if_pos O],ha,λx=>⟨λe=>⟨e,e⟩,λe=>e.1⟩⟩
 | succ k ih =>
   intro a b ha hb hk;by_cases e:a=b
   ·subst e;exact⟨a,by unfold UN;rw[if_pos O],ha,λx=>⟨λe=>⟨e,e⟩,λe=>e.1⟩⟩
   ·unfold UN;rw[if_neg e];have hne:num a≠num b:=λe2=>e (hN.inj a b (hf.in_ a ha) (hf.in_ b hb) e2);by_cases hlt:num a<num b
    ·rw[if_pos hlt];obtain⟨h1,h2⟩:=hf.up a ha (nr ha hb hlt);obtain⟨c,c1,c2,c3⟩:=ih (f a) b h1 hb ω;exact⟨c,c1,c2,λx=>(c3 x).trans (left ha hb hlt x)⟩
    ·rw[if_neg hlt];have hlt':num b<num a:=by omega
     obtain⟨h1,h2⟩:=hf.up b hb (nr hb ha hlt');obtain⟨c,c1,c2,c3⟩:=ih a (f b) ha h1 ω;refine⟨c,c1,c2,λx=>(c3 x).trans ?_⟩;rw[And.comm,left hb ha hlt' x,And.comm]
inductive Av (g:List (List Nat)) (root x:Nat):Nat->Nat->Prop
 |zero:root≠x->Av g root x 0 root
 |step {j p v:Nat}:Av g root x j p->v∈OG g p->v≠x->Av g root x (j+1) v
def Av.ne {j:Nat}(h:Av g root x j v):v≠x:=by
 cases h with
 |zero h=>exact h
 |step _ _ h=>exact h
def Av.rch {j:Nat}(h:Av g root x j v):SA g root v:=by
 induction h with
 |zero _=>exact .refl
 |step _ h _ ih=>exact .step ih h
def Dm (g:List (List Nat))(root x v:Nat):Prop:=SA g root v/\∀j,¬Av g root x j v
def Av.split {j:Nat}(h:Av g root x j v)(hw:w≠root):Av g root w j v\/∃i,i<=j/\Av g root x i w:=by
 induction h with
 |zero _=>exact .inl (.zero hw.symm)
 | step hp hv hx ih =>
   rename_i j p v
   rcases ih with ih|⟨i,hi,ih⟩
   ·by_cases e:v=w
    ·subst e;exact .inr ⟨_,Nat.le_refl _,.step hp hv hx⟩
    ·exact .inl (.step ih hv e)
   ·exact .inr ⟨i,ω,ih⟩
structure TrF (g:List (List Nat))(root:Nat)(num par:Nat->Nat):Prop where
 n:zeB (SA g root) num root
 par:∀v,SA g root v->v≠root->SA g root (par v)/\v∈OG g (par v)/\num v<num (par v)
structure DsI (g:List (List Nat))(root:Nat)(num par f:Nat->Nat):Prop where
 fo:Fo (SA g root) num root f
 t:∀v x,f v≠Uy->Ch f root v x->Ch par root v x
 s:∀v x,f v≠Uy->Dm g root x v->Ch f root v x
def Pj (g:List (List Nat))(root:Nat)(f:Nat->Nat)(j:Nat):Prop:=∀v x i,i<=j->Av g root x i v->f v≠Uy->¬Ch f root v x
def Ti (f:Nat->Nat)(w c:Nat):Nat->Nat:=λv=>if v=w then c else f v
theorem Vl:Ti f w c w=c:=if_pos O
theorem Uj (h:v≠w):Ti f w c v=f v:=if_neg h
theorem zaC:Ti f w (f w)=f:=by
 funext v
 unfold Ti
 split
 ·rename_i e;rw[e]
 ·rfl
def z9p (hT:TrF g root num par)(h:Ch par root v w):SA g root v->∀{j:Nat},num w<num x->Av g root x j w->num v<=num w/\∃i,Av g root x i v:=by
 induction h with
 |refl _=>exact λ_ {j} _ hj=>⟨Nat.le_refl _,j,hj⟩
 | @up v w hv _ ih =>
   intro hR j hx hj;obtain⟨p1,p2,p3⟩:=hT.par v hR hv;obtain⟨q1,i,q2⟩:=ih p1 hx hj;exact⟨ω,i+1,.step q2 p2 (λe=>by subst e;omega)⟩
section
variable (hT:TrF g root num par)(hI:DsI g root num par f)(hw:SA g root w)(hwr:w≠root)(hp:f (par w)≠Uy)(hc:f c≠Uy)(hch:∀x,Ch f root c x↔∀p,SA g root p->w∈OG g p->f p≠Uy->Ch f root p x)
include hT hI hw hwr hp hc hch
theorem zaA:num w<num c/\c≠w/\Ch f root (par w) c:=by
 obtain⟨p1,p2,p3⟩:=hT.par w hw hwr
 have h1:=(hch c).1 (.refl c) (par w) p1 p2 hp
 have h2:=(h1.mem hI.fo hp).2.1
 exact⟨ω,λe=>by subst e;omega,h1⟩
theorem z0y (hv:f v≠Uy)(hn:num w<num v):Ch (Ti f w c) root v x↔Ch f root v x:=by
 have key1:∀{v x},Ch (Ti f w c) root v x->f v≠Uy->num w<num v->Ch f root v x:=by
  intro v x h
  induction h with
  |refl _=>exact λ_ _=> .refl _
  | up hr _ ih =>
    intro hv hn;rw[Uj (λe=>by subst e;omega)] at ih;obtain⟨h1,h2⟩:=hI.fo.up _ hv hr;exact .up hr (ih h1 ω)
 have key2:∀{v x},Ch f root v x->f v≠Uy->num w<num v->Ch (Ti f w c) root v x:=by
  intro v x h
  induction h with
  |refl _=>exact λ_ _=> .refl _
  | up hr _ ih =>
    intro hv hn;obtain⟨h1,h2⟩:=hI.fo.up _ hv hr;refine .up hr ?_;rw[Uj (λe=>by subst e;omega)];exact ih h1 ω
 exact⟨λh=>key1 h hv hn,λh=>key2 h hv hn⟩
theorem zeU:Ch (Ti f w c) root w x↔x=w\/Ch f root c x:=by
 obtain⟨h1,h2,h3⟩:=zaA hT hI hw hwr hp hc hch
 constructor
 ·intro h;rcases h.inv with e| e
  ·exact .inl e
  ·rw[Vl] at e;exact .inr ((z0y hT hI hw hwr hp hc hch hc h1).1 e.2)
 ·rintro(rfl|h)
  ·exact .refl _
  ·refine .up hwr ?_;rw[Vl];exact(z0y hT hI hw hwr hp hc hch hc h1).2 h
theorem zec (h:Ch f root v x):Ch (Ti f w c) root v x\/(Ch (Ti f w c) root v w/\Ch f root w x/\x≠w/\Ch f root v w):=by
 induction h with
 |refl _=>exact .inl (.refl _)
 | up hr hx ih =>
   rename_i v x
   by_cases e:v=w
   ·subst e;by_cases e2:x=v
    ·subst e2;exact .inl (.refl _)
    ·exact .inr ⟨.refl _,.up hr hx,e2,.refl _⟩
   ·rw[<-Uj (f:=f) (c:=c) e] at ih;rcases ih with ih|⟨i1,i2,i3,i4⟩
    ·exact .inl (.up hr ih)
    ·rw[Uj e] at i4;exact .inr ⟨.up hr i1,i2,i3,.up hr i4⟩
theorem z6Z (h:Ch (Ti f w c) root v x):Ch f root v x\/(Ch f root v w/\Ch (Ti f w c) root w x):=by
 induction h with
 |refl _=>exact .inl (.refl _)
 | up hr hx ih =>
   rename_i v x
   by_cases e:v=w
   ·subst e;exact .inr ⟨.refl _,.up hr hx⟩
   ·rw[Uj e] at ih;rcases ih with ih|⟨i1,i2⟩
    ·exact .inl (.up hr ih)
    ·exact .inr ⟨.up hr i1,i2⟩
theorem z4I (h:Ti f w c v≠Uy)(e:v≠w):f v≠Uy:=by rw[Uj e] at h;exact h
theorem DsI.Ti:DsI g root num par (Ti f w c):=by
 obtain⟨h1,h2,h3⟩:=zaA hT hI hw hwr hp hc hch
 have hcn:c≠Uy:=hT.n.no c (hI.fo.in_ c hc)
 have hfw:Go.Proofs.YtbihggbffaigjaaGreatDoor.Ti f w c w≠Uy:=by rw[Vl];exact hcn
 have sw:∀x,Dm g root x w->Ch (Go.Proofs.YtbihggbffaigjaaGreatDoor.Ti f w c) root w x:=λx hd=>by
  rw[zeU hT hI hw hwr hp hc hch];by_cases e:x=w
  ·exact .inl e
  ·refine .inr ((hch x).2 λp hpr hps hpc=>hI.s p x hpc ⟨hpr,λj hj=>hd.2 (j+1) (.step hj hps λe2=>e e2.symm)⟩)
 refine⟨⟨by rw[Uj hwr.symm];exact hI.fo.rt,λv hv hr=>?_,λv hv=>?_⟩,λv x hv h=>?_,λv x hv hd=>?_⟩
 ·by_cases e:v=w
  ·subst e;rw[Vl,Uj h2];exact⟨hc,h1⟩
  ·have hv':=z4I hT hI hw hwr hp hc hch hv e;obtain⟨q1,q2⟩:=hI.fo.up v hv' hr;rw[Uj e];refine⟨?_,q2⟩;by_cases e2:f v=w
   ·rw[e2];exact hfw
   ·rw[Uj e2];exact q1
 ·by_cases e:v=w
  ·subst e;exact hw
  ·exact hI.fo.in_ v (z4I hT hI hw hwr hp hc hch hv e)
 ·have tw:∀y,Ch (Go.Proofs.YtbihggbffaigjaaGreatDoor.Ti f w c) root w y->Ch par root w y:=λy hy=>by
   rcases (zeU hT hI hw hwr hp hc hch).1 hy with e| e
   ·subst e;exact .refl _
   ·exact .up hwr ((hI.t _ _ hp h3).trans (hI.t _ _ hc e))
  by_cases e:v=w
  ·subst e;exact tw x h
  ·have hv':=z4I hT hI hw hwr hp hc hch hv e;rcases z6Z hT hI hw hwr hp hc hch h with h|⟨q1,q2⟩
   ·exact hI.t v x hv' h
   ·exact(hI.t v w hv' q1).trans (tw x q2)
 ·by_cases e:v=w
  ·subst e;exact sw x hd
  ·have hv':=z4I hT hI hw hwr hp hc hch hv e;rcases zec hT hI hw hwr hp hc hch (hI.s v x hv' hd) with h|⟨q1,q2,q3,q4⟩
   ·exact h
   ·refine q1.trans$ sw x ⟨hw,λj hj=>?_⟩;have m1:=q2.mem hI.fo (q4.mem hI.fo hv').1
    have hlt:num w<num x:=by
     rcases Nat.lt_or_ge (num w) (num x) with h| h
     ·exact h
     ·exact absurd (m1.2.2 ω) q3
    obtain⟨-,i,hi⟩:=z9p hT (hI.t v w hv' q4) (hI.fo.in_ v hv') hlt hj;exact hd.2 i hi
theorem z5E {j:Nat}(hP:Pj g root f j)(hC:j=0\/∀v,SA g root v->f v≠Uy)(hr0:f root≠Uy):∀x i,i<=j+1->Av g root x i w->¬Ch (Ti f w c) root w x:=λx i hi ha h=>by
 rcases (zeU hT hI hw hwr hp hc hch).1 h with e| e
 ·exact ha.ne e.symm
 ·cases ha with
  |zero _=>exact hwr O
  | step ha hs hx =>
    rename_i i p
    have hpc:f p≠Uy:=by
     rcases hC with e| e
     ·have:i=0:=by omega
      subst this;cases ha;exact hr0
     ·exact e p ha.rch
    exact hP p x i ω ha hpc ((hch x).1 e p ha.rch hs hpc)
theorem zcu {j:Nat}(hP:Pj g root f j)(hC:j=0\/∀v,SA g root v->f v≠Uy)(hr0:f root≠Uy):Pj g root (Ti f w c) j:=λv x i hi ha hv h=>by
 by_cases e:v=w
 ·subst e;exact z5E hT hI hw hwr hp hc hch hP hC hr0 x i ω ha h
 ·have hv':=z4I hT hI hw hwr hp hc hch hv e;rcases z6Z hT hI hw hwr hp hc hch h with h|⟨q1,q2⟩
  ·exact hP v x i hi ha hv' h
  ·rcases ha.split hwr with ha|⟨i',hi',ha⟩
   ·exact hP v w i hi ha hv' q1
   ·exact z5E hT hI hw hwr hp hc hch hP hC hr0 x i' ω ha q2
end
structure DsK (g:List (List Nat))(root:Nat)(num par:Nat->Nat)(j k:Nat)(f:Nat->Nat):Prop where
 i:DsI g root num par f
 p:Pj g root f j
 did:∀v,SA g root v->k<=num v->f v≠Uy/\∀x i,i<=j+1->Av g root x i v->¬Ch f root v x
def DsI.r0 (hT:TrF g root num par)(h:DsI g root num par f):f root≠Uy:=by
 rw[h.fo.rt]
 exact hT.n.no root hT.n.rt
theorem DsK.begin (hT:TrF g root num par)(hI:DsI g root num par f){j:Nat}(hP:Pj g root f j):DsK g root num par j (num root) f:=by
 refine⟨hI,hP,λv hv hn=>?_⟩
 obtain rfl:=hT.n.inj v root hv hT.n.rt (by have:=hT.n.top v hv;omega)
 exact⟨hI.r0 hT,λx i _ ha h=>ha.ne h.at_root.symm⟩
def DsK.next (hT:TrF g root num par){j k:Nat}(h:DsK g root num par j (k+1) f)(hC:j=0\/∀v,SA g root v->f v≠Uy)(hw:SA g root w)(hk:num w=k)(hkr:k<num root)(hc:f c≠Uy)(hch:∀x,Ch f root c x↔∀p,SA g root p->w∈OG g p->f p≠Uy->Ch f root p x):DsK g root num par j k (Ti f w c)/\(j=0\/∀v,SA g root v->Ti f w c v≠Uy):=by
 have hwr:w≠root:=λe=>by subst e;omega
 obtain⟨p1,p2,p3⟩:=hT.par w hw hwr
 have hp:=(h.did (par w) p1 ω).1
 have hr0:=h.i.r0 hT
 have hcn:c≠Uy:=hT.n.no c (h.i.fo.in_ c hc)
 have hne:∀v,f v≠Uy->Ti f w c v≠Uy:=λv hv=>by
  by_cases e:v=w
  ·subst e;rw[Vl];exact hcn
  ·rw[Uj e];exact hv
 refine⟨⟨DsI.Ti hT h.i hw hwr hp hc hch,zcu hT h.i hw hwr hp hc hch h.p hC hr0,λv hv hn=>?_⟩,hC.imp id λe v hv=>hne v (e v hv)⟩
 by_cases e:v=w
 ·subst e;exact⟨by rw[Vl];exact hcn,z5E hT h.i hw hwr hp hc hch h.p hC hr0⟩
 ·have hn':k+1<=num v:=by
   rcases Nat.lt_or_ge k (num v) with h1|h1
   ·exact h1
   ·exact absurd (hT.n.inj v w hv hw ω) e
  obtain⟨q1,q2⟩:=h.did v hv hn';refine⟨hne v q1,λx i hi ha hh=>q2 x i hi ha ?_⟩;exact(z0y hT h.i hw hwr hp hc hch q1 ω).1 hh
theorem DsK.fin {j:Nat}(h:DsK g root num par j 0 f):Pj g root f (j+1)/\∀v,SA g root v->f v≠Uy:=
 ⟨λv x i hi ha hv=>(h.did v ha.rch (Nat.zero_le _)).2 x i hi ha,λv hv=>(h.did v hv (Nat.zero_le _)).1⟩
structure ZJ (g:List (List Nat))(root:Nat)(num par f:Nat->Nat):Prop where
 i:DsI g root num par f
 c:∀v,SA g root v->f v≠Uy
 p:∀j,Pj g root f j
theorem ZJ.iff (h:ZJ g root num par f)(hv:SA g root v):Ch f root v x↔Dm g root x v:=
 ⟨λe=>⟨hv,λj ha=>h.p j v x j (Nat.le_refl _) ha (h.c v hv) e⟩,λe=>h.i.s v x (h.c v hv) e⟩
def ZJ.zev (hT:TrF g root num par)(h:ZJ g root num par f)(hw:SA g root w)(hwr:w≠root)(hc:f c≠Uy)(hch:∀x,Ch f root c x↔∀p,SA g root p->w∈OG g p->f p≠Uy->Ch f root p x):f w=c:=by
 have hfw:=h.c w hw
 obtain⟨p1,p2,p3⟩:=hT.par w hw hwr
 obtain⟨u1,u2⟩:=h.i.fo.up w hfw hwr
 have key:∀x,Ch f root c x↔Ch f root (f w) x:=λx=>by
  rw[hch];constructor
  ·intro hx
   have hd:Dm g root x w:=⟨hw,λj ha=>by
    cases ha with
    |zero _=>exact hwr O
    | step ha hs hn =>
      rename_i j p
      exact((h.iff ha.rch).1 (hx p ha.rch hs (h.c p ha.rch))).2 j ha⟩
   rcases ((h.iff hw).2 hd).inv with e| e
   ·subst e;have:=((hx (par x) p1 p2 (h.c _ p1)).mem h.i.fo (h.c _ p1)).2.1;omega
   ·exact e.2
  ·intro hx p hp hs _
   have hxw:x≠w:=λe=>by
    subst e;have:=(hx.mem h.i.fo u1).2.1;omega
   have hd:=(h.iff hw).1 (.up hwr hx);exact(h.iff hp).2 ⟨hp,λj ha=>hd.2 (j+1) (.step ha hs hxw.symm)⟩
 exact Ch.zjn h.i.fo ((key c).1 (.refl c)) ((key (f w)).2 (.refl _)) u1
end
abbrev lft (l:List Nat)(v:Nat):Prop:=l[v]? =some 4294967295
def bkC (l c m:List Nat)(v u:Nat):Prop:=lft l u/\m.getD u 0=1/\c.getD u 0=c.getD v 0
instance (l c m:List Nat) (v u:Nat):Decidable (bkC l c m v u):=by unfold bkC;infer_instance
/-! ### Counting -/
def VD {p q:Nat->Bool}:∀{l:List Nat},(∀x∈l,p x=true->q x=true)->l.countP p<=l.countP q
 |[],_=>Nat.le_refl _
 | x :: l, h => by
   have ih:=VD (p:=p) (q:=q) (l:=l) λy hy=>h y (List.mem_cons_of_mem _ hy);have h1:=h x List.mem_cons_self;rw[List.countP_cons,List.countP_cons]
   cases hp:p x with
   |false=>simp;omega
   |true=>rw[h1 hp];simp;omega
def Y7 {p q:Nat->Bool}:∀{l:List Nat},(∀x∈l,p x=true->q x=true)->∀{y:Nat},y∈l->p y=false->q y=true->l.countP p<l.countP q
 | x :: l, h, y, hy, h1, h2 => by
   have h3:=h x List.mem_cons_self;rw[List.countP_cons,List.countP_cons];rcases List.mem_cons.1 hy with e| e
   ·subst e;have ih:=VD (p:=p) (q:=q) (l:=l) λz hz=>h z (List.mem_cons_of_mem _ hz);rw[h1,h2];simp;omega
   ·have ih:=Y7 (p:=p) (q:=q) (l:=l) (λz hz=>h z (List.mem_cons_of_mem _ hz)) e h1 h2
    cases hp:p x with
    |false=>simp;omega
    |true=>rw[h3 hp];simp;omega
open Classical in
noncomputable def VV (n:Nat)(P:Nat->Prop):Nat:=(List.range n).countP λv=>decide (P v)
open Classical in
def zbT {n:Nat}{P Q:Nat->Prop}(h:∀v,v<n->P v->Q v):VV n P<=VV n Q:=
 VD λx hx hp=>decide_eq_true (h x (List.mem_range.1 hx) (of_decide_eq_true hp))
open Classical in
def ZU {n:Nat}{P Q:Nat->Prop}(h:∀v,v<n->P v->Q v){v:Nat}(hv:v<n)(h1:¬P v)(h2:Q v):VV n P<VV n Q:=
 Y7 (λx hx hp=>decide_eq_true (h x (List.mem_range.1 hx) (of_decide_eq_true hp))) (List.mem_range.2 hv) (decide_eq_false h1) (decide_eq_true h2)
def z2Q {n:Nat}{P:Nat->Prop}:VV n P<=n:=by
 have:=List.countP_le_length (p:=λv=>@decide (P v) (Classical.propDecidable _)) (l:=List.range n)
 rw[List.length_range] at this
 exact this
def zaj {n:Nat}{P:Nat->Prop}{v:Nat}(hv:v<n)(h:P v):0<VV n P:=by
 have:=ZU (n:=n) (P:=λ_=>False) (Q:=P) (λ_ _ e=>e.elim) hv (λe=>e) h
 omega
def Wu {l:List Nat}{v x:Nat}(h:l[v]? =some x):l.getD v 0=x:=by rw[List.getD_eq_getElem?_getD,h];rfl
theorem Qe {l:List Nat}{v u x:Nat}(h:v<l.length):(l.set v x).getD u 0=if u=v then x else l.getD u 0:=by
 rw[List.getD_eq_getElem?_getD,List.getD_eq_getElem?_getD]
 split
 ·rename_i e
  subst e;rw[List.getElem?_set_self h];rfl
 ·rename_i e
  rw[List.getElem?_set_ne (Ne.symm e)]
/-! ### Trim -/
section
/-! ### Colours -/
/-! ### Marks -/
end
structure Rs where
 steps:Nat
 fin:Nat
 OO:Nat
 QR:Bool
 done:Bool
 num:List Nat
 looked:List Nat
 cand:List Nat
 Uu:List Nat
 ord:List Nat
def Rs.push (s:Rs)(v:Nat):Rs:={s with num:=s.num.set v 4294967294,looked:=s.looked.set v 0,Uu:=s.Uu.set s.OO v,OO:=s.OO+1}
def Rs.new (n root:Nat):Rs:=Rs.push ⟨0,0,0,false,false,List.replicate n 4294967295,List.replicate n 0,List.replicate n 4294967295,List.replicate n 0,List.replicate n 0⟩ root
def Rs.WW (s:Rs)(v:Nat):Rs:={s with num:=s.num.set v s.fin,ord:=s.ord.set s.fin v,fin:=s.fin+1,OO:=s.OO-1}
def Rs.look (s:Rs)(v:Nat):Rs:={s with looked:=s.looked.set v (s.looked.getD v 0+1)}
def Rs.move (g:List (List Nat))(s:Rs):Rs:=
 match(OG g (s.Uu.getD (s.OO-1) 0))[s.looked.getD (s.Uu.getD (s.OO-1) 0) 0]? with
 |none=>s.WW (s.Uu.getD (s.OO-1) 0)
 |some u=>if s.num.getD u 0=4294967295 then(s.look (s.Uu.getD (s.OO-1) 0)).push u else s.look (s.Uu.getD (s.OO-1) 0)
def Rs.Qa (g:List (List Nat)):Nat->Rs->Rs
 |0,s=>s
 |k+1,s=>if 0<s.OO then Rs.Qa g k (s.move g) else s
/-! ### Sums -/
def z7M {n:Nat}{f f':Nat->Nat}{w d:Nat}(hw:w<n)(h1:∀v,v≠w->f' v=f v)(h2:f' w=f w+d):((List.range n).map f').sum=((List.range n).map f).sum+d:=by
 induction n with
 |zero=>exact absurd hw (Nat.not_lt_zero _)
 | succ n ih =>
   rw[List.range_succ,List.map_append,List.map_append,List.sum_append,List.sum_append];simp only[List.map_cons,List.map_nil,List.sum_cons,List.sum_nil];by_cases e:w=n
   ·subst e;have:(List.range w).map f'=(List.range w).map f:=List.map_congr_left λv hv=>h1 v (by have:=List.mem_range.1 hv;omega);rw[this,h2];omega
   ·rw[ih ω,h1 n (Ne.symm e)];omega
def zeu {n:Nat}{f f':Nat->Nat}(h:∀v,v<n->f v<=f' v):((List.range n).map f).sum<=((List.range n).map f').sum:=by
 induction n with
 |zero=>exact Nat.le_refl _
 | succ n ih =>
   rw[List.range_succ,List.map_append,List.map_append,List.sum_append,List.sum_append];simp only[List.map_cons,List.map_nil,List.sum_cons,List.sum_nil];have:=ih λv hv=>h v ω;have:=h n ω;omega
theorem z7V {n c:Nat}:((List.range n).map λ_=>c).sum=n*c:=by
 induction n with
 |zero=>simp
 | succ n ih =>
   rw[List.range_succ,List.map_append,List.sum_append,ih,Nat.add_mul];simp
def XJ (n:Nat)(s:Rs):Nat:=s.fin+((List.range n).map λv=>if s.num.getD v 0=4294967295 then 0 else s.looked.getD v 0).sum
structure WU (g:List (List Nat))(root:Nat)(s:Rs):Prop where
 nn:s.num.length=g.length
 ln:s.looked.length=g.length
 cn:s.cand=List.replicate g.length 4294967295
 sn:s.Uu.length=g.length
 on:s.ord.length=g.length
 st:∀i,i<s.OO->s.Uu.getD i 0<g.length/\s.num.getD (s.Uu.getD i 0) 0=4294967294
 inj:∀i j,i<j->j<s.OO->s.Uu.getD i 0≠s.Uu.getD j 0
 op:∀v,v<g.length->s.num.getD v 0=4294967294->∃i,i<s.OO/\s.Uu.getD i 0=v
 od:∀i,i<s.fin->s.ord.getD i 0<g.length/\s.num.getD (s.ord.getD i 0) 0=i
 no:∀v,v<g.length->s.num.getD v 0=4294967295\/s.num.getD v 0=4294967294\/(s.num.getD v 0<s.fin/\s.ord.getD (s.num.getD v 0) 0=v)
 rt:(0<s.OO->s.Uu.getD 0 0=root)/\(s.OO=0->s.num.getD root 0+1=s.fin)
 re:∀v,v<g.length->s.num.getD v 0≠4294967295->SA g root v
 ed:∀i,i+1<s.OO->s.Uu.getD (i+1) 0∈OG g (s.Uu.getD i 0)
 lk:∀v,v<g.length->s.num.getD v 0≠4294967295->s.looked.getD v 0<=(OG g v).length/\∀j u,j<s.looked.getD v 0->(OG g v)[j]? =some u->s.num.getD u 0≠4294967295
 fn:∀v,v<g.length->s.num.getD v 0<s.fin->s.looked.getD v 0=(OG g v).length
 pr:∀v,v<g.length->s.num.getD v 0<s.fin->v≠root->∃p,p<g.length/\v∈OG g p/\(s.num.getD p 0=4294967294\/(s.num.getD p 0<s.fin/\s.num.getD v 0<s.num.getD p 0))
 ct:s.fin+s.OO<=VV g.length (λv=>s.num.getD v 0≠4294967295)
section
variable {g:List (List Nat)}{root v u:Nat}{s:Rs}
def WU.fh (h:WU g root s):s.fin+s.OO<=g.length:=Nat.le_trans h.ct z2Q
theorem WU.push (h:WU g root s)(hg:QH g){u:Nat}(hu:u<g.length)(hn:s.num.getD u 0=4294967295)(hr:SA g root u)(hs:s.OO=0->u=root/\s.fin=0)(he:0<s.OO->u∈OG g (s.Uu.getD (s.OO-1) 0)):WU g root (s.push u):=by
 have hn60:=hg.n
 have hfh:=h.fh
 have hct:s.fin+(s.OO+1)<=VV g.length (λv=>(s.num.set u 4294967294).getD v 0≠4294967295):=by
  have h1:=h.ct
  have h2:VV g.length (λv=>s.num.getD v 0≠4294967295)<VV g.length (λv=>(s.num.set u 4294967294).getD v 0≠4294967295):=ZU (λv _ hv=>by
   rw[Qe (by rw[h.nn];exact hu)];split
   ·decide
   ·exact hv) hu (λe=>e hn) (by rw[Qe (by rw[h.nn];exact hu),if_pos O];decide)
  omega
 have hhn:s.OO<g.length:=by
  have:=Nat.le_trans hct z2Q;omega
 have gn:∀v,(s.push u).num.getD v 0=if v=u then 4294967294 else s.num.getD v 0:=λv=>Qe (by rw[h.nn];exact hu)
 have gl:∀v,(s.push u).looked.getD v 0=if v=u then 0 else s.looked.getD v 0:=λv=>Qe (by rw[h.ln];exact hu)
 have gs:∀i,(s.push u).Uu.getD i 0=if i=s.OO then u else s.Uu.getD i 0:=λi=>Qe (by rw[h.sn];exact hhn)
 have hlt:∀i,i<s.OO->s.Uu.getD i 0≠u:=λi hi e=>by
  have:=(h.st i hi).2;rw[e,hn] at this;cases this
 have gh:(s.push u).OO=s.OO+1:=rfl
 have gf:(s.push u).fin=s.fin:=rfl
 have go:(s.push u).ord=s.ord:=rfl
 refine⟨by show(s.num.set _ _).length=_;rw[List.length_set];exact h.nn,by show(s.looked.set _ _).length=_;rw[List.length_set];exact h.ln,h.cn,by show(s.Uu.set _ _).length=_;rw[List.length_set];exact h.sn,h.on,λi hi=>?_,λi j hij hj=>?_,λv hv e=>?_,λi hi=>?_,λv hv=>?_,⟨λ_=>?_,λe=>?_⟩,λv hv e=>?_,λi hi=>?_,λv hv e=>?_,λv hv e=>?_,λv hv e hvr=>?_,hct⟩
 ·rw[gh] at hi;rw[gs];split
  ·rename_i e
   rw[gn,if_pos O];exact⟨hu,rfl⟩
  ·rename_i e
   have hi':i<s.OO:=by omega
   rw[gn,if_neg (hlt i hi')];exact h.st i hi'
 ·rw[gh] at hj;rw[gs,gs,if_neg (show i≠s.OO by omega)];split
  ·exact hlt i ω
  ·exact h.inj i j hij ω
 ·rw[gn] at e;by_cases e2:v=u
  ·exact⟨s.OO,by rw[gh];omega,by rw[gs,if_pos O];exact e2.symm⟩
  ·rw[if_neg e2] at e;obtain⟨i,hi,hiv⟩:=h.op v hv e;exact⟨i,by rw[gh];omega,by rw[gs,if_neg ω];exact hiv⟩
 ·rw[gf] at hi;rw[go];obtain⟨h1,h2⟩:=h.od i hi;refine⟨h1,?_⟩;rw[gn,if_neg (λe=>?_)]
  ·exact h2
  ·rw[e,hn] at h2;omega
 ·rw[gn,gf,go];split
  ·exact .inr (.inl O)
  ·exact h.no v hv
 ·rw[gs];split
  ·rename_i e;exact(hs e.symm).1
  ·rename_i e;exact h.rt.1 ω
 ·rw[gh] at e;omega
 ·rw[gn] at e;split at e
  ·rename_i e2;rw[e2];exact hr
  ·exact h.re v hv e
 ·rw[gh] at hi;rw[gs,gs,if_neg (show i≠s.OO by omega)];split
  ·rename_i e
   have:=he ω;rw[show s.OO-1=i by omega] at this;exact this
  ·exact h.ed i ω
 ·rw[gn] at e;rw[gl];split
  ·rename_i e2
   exact⟨Nat.zero_le _,λj u' hj=>absurd hj (Nat.not_lt_zero _)⟩
  ·rename_i e2
   rw[if_neg e2] at e;obtain⟨h1,h2⟩:=h.lk v hv e;refine⟨h1,λj u' hj hju=>?_⟩;rw[gn];split
   ·decide
   ·exact h2 j u' hj hju
 ·rw[gn,gf] at e;rw[gl];split
  ·rename_i e2
   rw[if_pos e2] at e;omega
  ·rename_i e2
   rw[if_neg e2] at e;exact h.fn v hv e
 ·rw[gn,gf] at e;have hvu:v≠u:=λe2=>by rw[if_pos e2] at e;omega
  rw[if_neg hvu] at e;obtain⟨p,h1,h2,h3⟩:=h.pr v hv e hvr;refine⟨p,h1,h2,?_⟩;rw[gn,gn,gf,if_neg hvu];split
  ·exact .inl O
  ·exact h3
def WU.look (h:WU g root s)(hg:QH g)(hv:v<g.length)(hvo:s.num.getD v 0=4294967294)(hk:(OG g v)[s.looked.getD v 0]? =some u)(hun:s.num.getD u 0≠4294967295):WU g root (s.look v):=by
 have gl:∀x,(s.look v).looked.getD x 0=if x=v then s.looked.getD v 0+1 else s.looked.getD x 0:=λx=>Qe (by rw[h.ln];exact hv)
 have hfh:=h.fh
 have hn:=hg.n
 refine⟨h.nn,by show(s.looked.set _ _).length=_;rw[List.length_set];exact h.ln,h.cn,h.sn,h.on,h.st,h.inj,h.op,h.od,h.no,h.rt,h.re,h.ed,λx hx e=>?_,λx hx e=>?_,h.pr,h.ct⟩
 ·obtain⟨h1,h2⟩:=h.lk x hx e;rw[gl];split
  ·rename_i e2
   subst e2
   have hlt:s.looked.getD x 0<(OG g x).length:=by
    rcases Nat.lt_or_ge (s.looked.getD x 0) (OG g x).length with h3|h3
    ·exact h3
    ·rw[List.getElem?_eq_none h3] at hk;cases hk
   refine⟨hlt,λi u' hi hiu=>?_⟩;by_cases e3:i=s.looked.getD x 0
   ·subst e3;rw[hk] at hiu;obtain rfl:=Option.some.inj hiu;exact hun
   ·exact h2 i u' ω hiu
  ·exact⟨h1,h2⟩
 ·rw[gl];split
  ·rename_i e2
   have e:s.num.getD x 0<s.fin:=e;rw[e2,hvo] at e;omega
  ·exact h.fn x hx e
theorem WU.WW (h:WU g root s)(hg:QH g)(hh:0<s.OO)(hk:(OG g (s.Uu.getD (s.OO-1) 0))[s.looked.getD (s.Uu.getD (s.OO-1) 0) 0]? =none):WU g root (s.WW (s.Uu.getD (s.OO-1) 0)):=by
 have hn60:=hg.n
 have hfh:=h.fh
 obtain⟨v,hvd⟩:∃v,s.Uu.getD (s.OO-1) 0=v:=⟨_,rfl⟩
 have hst:=h.st (s.OO-1) ω
 rw[hvd] at hk hst⊢
 obtain⟨hv,hvo⟩:=hst
 have hfn:s.fin<g.length:=by omega
 have gn:∀x,(s.WW v).num.getD x 0=if x=v then s.fin else s.num.getD x 0:=λx=>Qe (by rw[h.nn];exact hv)
 have go:∀i,(s.WW v).ord.getD i 0=if i=s.fin then v else s.ord.getD i 0:=λi=>Qe (by rw[h.on];exact hfn)
 have gh:(s.WW v).OO=s.OO-1:=rfl
 have gf:(s.WW v).fin=s.fin+1:=rfl
 have gs:(s.WW v).Uu=s.Uu:=rfl
 have gl:(s.WW v).looked=s.looked:=rfl
 have hlv:s.looked.getD v 0=(OG g v).length:=by
  have h1:=(h.lk v hv (by rw[hvo];decide)).1;have h2:=List.getElem?_eq_none_iff.1 hk;omega
 have hne:∀x,(s.WW v).num.getD x 0≠4294967295↔s.num.getD x 0≠4294967295:=λx=>by
  rw[gn];split
  ·rename_i e;rw[e,hvo];exact⟨λ_=>by decide,λ_=>by omega⟩
  ·exact Iff.rfl
 have hiv:∀i,i<s.OO-1->s.Uu.getD i 0≠v:=λi hi=>by rw[<-hvd];exact h.inj i _ hi ω
 refine⟨by show(s.num.set _ _).length=_;rw[List.length_set];exact h.nn,h.ln,h.cn,h.sn,by show(s.ord.set _ _).length=_;rw[List.length_set];exact h.on,λi hi=>?_,λi j hij hj=>?_,λx hx e=>?_,λi hi=>?_,λx hx=>?_,⟨λe=>?_,λe=>?_⟩,λx hx e=>?_,λi hi=>?_,λx hx e=>?_,λx hx e=>?_,λx hx e hxr=>?_,?_⟩
 ·rw[gh] at hi;rw[gs,gn,if_neg (hiv i hi)];exact h.st i ω
 ·rw[gh] at hj;exact h.inj i j hij ω
 ·rw[gn] at e;by_cases e2:x=v
  ·rw[if_pos e2] at e;omega
  ·rw[if_neg e2] at e;obtain⟨i,hi,hix⟩:=h.op x hx e;refine⟨i,?_,hix⟩;rw[gh];by_cases e3:i=s.OO-1
   ·rw[e3,hvd] at hix;exact absurd hix.symm e2
   ·omega
 ·rw[gf] at hi;rw[go];split
  ·rename_i e
   rw[gn,if_pos O];exact⟨hv,e.symm⟩
  ·rename_i e
   obtain⟨h1,h2⟩:=h.od i ω;refine⟨h1,?_⟩;rw[gn,if_neg (λe2=>?_)]
   ·exact h2
   ·rw[e2,hvo] at h2;omega
 ·rw[gn,gf,go];split
  ·rename_i e
   exact .inr (.inr ⟨ω,by rw[if_pos O];exact e.symm⟩)
  ·rcases h.no x hx with h1|h1|⟨h1,h2⟩
   ·exact .inl h1
   ·exact .inr (.inl h1)
   ·exact .inr (.inr ⟨ω,by rw[if_neg ω];exact h2⟩)
 ·rw[gs];exact h.rt.1 hh
 ·rw[gh] at e;have e1:s.OO-1=0:=e;have hr:=h.rt.1 hh;rw[e1] at hvd;rw[hvd] at hr;rw[gn,gf,if_pos hr.symm]
 ·exact h.re x hx ((hne x).1 e)
 ·rw[gh] at hi;exact h.ed i ω
 ·obtain⟨h1,h2⟩:=h.lk x hx ((hne x).1 e);rw[gl];exact⟨h1,λj u hj hu=>(hne u).2 (h2 j u hj hu)⟩
 ·rw[gn,gf] at e;rw[gl];by_cases e2:x=v
  ·rw[e2];exact hlv
  ·rw[if_neg e2] at e;refine h.fn x hx ?_;rcases h.no x hx with h1|h1|⟨h1,h2⟩
   ·omega
   ·omega
   ·exact h1
 ·rw[gn,gf] at e;by_cases e2:x=v
  ·subst e2
   have hpos:0<s.OO-1:=by
    rcases Nat.eq_zero_or_pos (s.OO-1) with h0|h0
    ·rw[h0] at hvd;have:=h.rt.1 hh;rw[hvd] at this;exact absurd this hxr
    ·exact h0
   have he:=h.ed (s.OO-2) ω;rw[show s.OO-2+1=s.OO-1 by omega,hvd] at he;have hs2:=h.st (s.OO-2) ω;refine⟨_,hs2.1,he,.inl ?_⟩;rw[gn,if_neg (hiv _ ω)];exact hs2.2
  ·rw[if_neg e2] at e
   have hxf:s.num.getD x 0<s.fin:=by
    rcases h.no x hx with h1|h1|⟨h1,h2⟩
    ·omega
    ·omega
    ·exact h1
   obtain⟨p,h1,h2,h3⟩:=h.pr x hx hxf hxr;refine⟨p,h1,h2,?_⟩;rw[gn,gn,gf,if_neg e2];split
   ·exact .inr ⟨ω,hxf⟩
   ·rcases h3 with h3|⟨h3,h4⟩
    ·exact .inl h3
    ·exact .inr ⟨ω,h4⟩
 ·have h1:=h.ct;rw[gf,gh];have h2:VV g.length (λv=>s.num.getD v 0≠4294967295)<=VV g.length (λx=>(s.WW v).num.getD x 0≠4294967295):=zbT λx _ e=>(hne x).2 e;omega
theorem WU.new (hg:QH g)(hr:root<g.length):WU g root (Rs.new g.length root):=by
 have hn60:=hg.n
 have gn:∀x,(Rs.new g.length root).num.getD x 0=if x=root then 4294967294 else(List.replicate g.length 4294967295).getD x 0:=λx=>Qe (by rw[List.length_replicate];exact hr)
 have grep:∀x c,x<g.length->(List.replicate g.length c).getD x 0=c:=λx c hx=>by rw[List.getD_eq_getElem?_getD,List.getElem?_replicate,if_pos hx];rfl
 have gs:∀i,(Rs.new g.length root).Uu.getD i 0=if i=0 then root else(List.replicate g.length 0).getD i 0:=λi=>Qe (by rw[List.length_replicate];show 0<g.length;omega)
 have gl:∀x,(Rs.new g.length root).looked.getD x 0=0:=λx=>by
  show((List.replicate g.length 0).set root 0).getD x 0=0;rw[Qe (by rw[List.length_replicate];exact hr)];split
  ·rfl
  ·rw[List.getD_eq_getElem?_getD,List.getElem?_replicate];split<;>rfl
 have gh:(Rs.new g.length root).OO=1:=rfl
 have gf:(Rs.new g.length root).fin=0:=rfl
 refine⟨by show(List.set _ _ _).length=_;rw[List.length_set,List.length_replicate],by show(List.set _ _ _).length=_;rw[List.length_set,List.length_replicate],rfl,by show(List.set _ _ _).length=_;rw[List.length_set,List.length_replicate],List.length_replicate,λi hi=>?_,λi j hij hj=>?_,λx hx e=>?_,λi hi=>?_,λx hx=>?_,⟨λe=>?_,λe=>?_⟩,λx hx e=>?_,λi hi=>?_,λx hx e=>?_,λx hx e=>?_,λx hx e hxr=>?_,?_⟩
 ·rw[gh] at hi;rw[gs,if_pos ω,gn,if_pos O];exact⟨hr,rfl⟩
 ·rw[gh] at hj;omega
 ·rw[gn] at e;by_cases e2:x=root
  ·exact⟨0,by rw[gh];omega,by rw[gs,if_pos O];exact e2.symm⟩
  ·rw[if_neg e2,grep x _ hx] at e;cases e
 ·rw[gf] at hi;omega
 ·rw[gn];split
  ·exact .inr (.inl O)
  ·exact .inl (grep x _ hx)
 ·rw[gs,if_pos O]
 ·rw[gh] at e;cases e
 ·rw[gn] at e;by_cases e2:x=root
  ·rw[e2];exact .refl
  ·rw[if_neg e2,grep x _ hx] at e;exact absurd O e
 ·rw[gh] at hi;omega
 ·rw[gl];exact⟨Nat.zero_le _,λj u hj=>absurd hj (Nat.not_lt_zero _)⟩
 ·rw[gf] at e;omega
 ·rw[gf] at e;omega
 ·rw[gf,gh];exact zaj hr (by rw[gn,if_pos O];decide)
theorem WU.move (h:WU g root s)(hg:QH g)(hh:0<s.OO):WU g root (s.move g)/\XJ g.length (s.move g)=XJ g.length s+1:=by
 have hn60:=hg.n
 have hfh:=h.fh
 obtain⟨hv,hvo⟩:=h.st (s.OO-1) ω
 unfold Rs.move
 cases hk:(OG g (s.Uu.getD (s.OO-1) 0))[s.looked.getD (s.Uu.getD (s.OO-1) 0) 0]? with
 | none =>
   refine⟨h.WW hg hh hk,?_⟩
   generalize s.Uu.getD (s.OO-1) 0=v at hv hvo hk
   have:((List.range g.length).map λx=>if(s.WW v).num.getD x 0=4294967295 then 0 else s.looked.getD x 0)=(List.range g.length).map λx=>if s.num.getD x 0=4294967295 then 0 else s.looked.getD x 0:=by
    refine List.map_congr_left λx _=>?_;show(if(s.num.set v s.fin).getD x 0=4294967295 then 0 else s.looked.getD x 0)=_;rw[Qe (by rw[h.nn];exact hv)];by_cases e:x=v
    ·rw[if_pos e,e,hvo,if_neg ω,if_neg ψ]
    ·rw[if_neg e]
   show s.fin+1+((List.range g.length).map λx=>if(s.WW v).num.getD x 0=4294967295 then 0 else s.looked.getD x 0).sum=s.fin+_+1
   rw[this];omega
 | some u =>
   have hus:u∈OG g (s.Uu.getD (s.OO-1) 0):=List.mem_of_getElem? hk;have hul:u<g.length:=T5 hg _ u hus;dsimp only;split
   ·rename_i hun
    have hvr:=h.re _ hv (by rw[hvo];decide);have hP:=h.push hg hul hun (.step hvr hus) (λe=>by omega) λ_=>hus
    generalize s.Uu.getD (s.OO-1) 0=v at hv hvo hk hus hvr
    have huv:v≠u:=λe=>by rw[e,hun] at hvo;cases hvo
    have e1:(s.push u).looked.getD v 0=s.looked.getD v 0:=by
     show(s.looked.set u 0).getD v 0=_;rw[Qe (by rw[h.ln];exact hul),if_neg huv]
    have e2:(s.look v).push u=(s.push u).look v:=by
     show Rs.mk .. =Rs.mk ..
     congr 1
     show(s.looked.set v _).set u 0=(s.looked.set u 0).set v ((s.push u).looked.getD v 0+1);rw[e1];exact List.set_comm _ _ huv
    have e3:(s.push u).num.getD u 0=4294967294:=by
     show(s.num.set u 4294967294).getD u 0=_;rw[Qe (by rw[h.nn];exact hul),if_pos O]
    have e4:(s.push u).num.getD v 0=4294967294:=by
     show(s.num.set u 4294967294).getD v 0=_;rw[Qe (by rw[h.nn];exact hul),if_neg huv];exact hvo
    rw[e2];refine⟨hP.look hg hv e4 (by rw[e1];exact hk) (by rw[e3];decide),?_⟩
    have:=z7M (n:=g.length) (f:=λx=>if s.num.getD x 0=4294967295 then 0 else s.looked.getD x 0) (f':=λx=>if((s.push u).look v).num.getD x 0=4294967295 then 0 else((s.push u).look v).looked.getD x 0) (w:=v) (d:=1) hv (λx hx=>by
     show(if(s.num.set u 4294967294).getD x 0=4294967295 then 0 else((s.looked.set u 0).set v _).getD x 0)=if s.num.getD x 0=4294967295 then 0 else s.looked.getD x 0;rw[Qe (by rw[h.nn];exact hul),Qe (by rw[List.length_set,h.ln];exact hv),if_neg hx,Qe (by rw[h.ln];exact hul)];by_cases e:x=u
     ·rw[if_pos e,if_pos e,e,hun];rfl
     ·rw[if_neg e,if_neg e]) (by
     show(if(s.num.set u 4294967294).getD v 0=4294967295 then 0 else((s.looked.set u 0).set v ((s.push u).looked.getD v 0+1)).getD v 0)=(if s.num.getD v 0=4294967295 then 0 else s.looked.getD v 0)+1
     rw[Qe (by rw[h.nn];exact hul),Qe (by rw[List.length_set,h.ln];exact hv),if_pos O,e1,if_neg huv,hvo];rfl)
    show s.fin+((List.range g.length).map (λx=>if((s.push u).look v).num.getD x 0=4294967295 then 0 else((s.push u).look v).looked.getD x 0)).sum=s.fin+_+1;rw[this];omega
   ·rename_i hun
    refine⟨h.look hg hv hvo hk hun,?_⟩
    generalize s.Uu.getD (s.OO-1) 0=v at hv hvo hk hus
    have:=z7M (n:=g.length) (f:=λx=>if s.num.getD x 0=4294967295 then 0 else s.looked.getD x 0) (f':=λx=>if(s.look v).num.getD x 0=4294967295 then 0 else(s.look v).looked.getD x 0) (w:=v) (d:=1) hv (λx hx=>by
     show(if s.num.getD x 0=4294967295 then 0 else(s.looked.set v _).getD x 0)=if s.num.getD x 0=4294967295 then 0 else s.looked.getD x 0
     rw[Qe (by rw[h.ln];exact hv),if_neg hx]) (by
     show(if s.num.getD v 0=4294967295 then 0 else(s.looked.set v _).getD v 0)=(if s.num.getD v 0=4294967295 then 0 else s.looked.getD v 0)+1
     rw[Qe (by rw[h.ln];exact hv),if_pos O,hvo];rfl)
    show s.fin+((List.range g.length).map (λx=>if(s.look v).num.getD x 0=4294967295 then 0 else(s.look v).looked.getD x 0)).sum=s.fin+_+1;rw[this];omega
theorem WU.Qa (hg:QH g):∀(k:Nat) {s:Rs},WU g root s->WU g root (s.Qa g k)/\((0<(s.Qa g k).OO/\XJ g.length (s.Qa g k)=XJ g.length s+k)\/((s.Qa g k).OO=0/\XJ g.length (s.Qa g k)<=XJ g.length s+k/\(0<s.OO->0<k->XJ g.length s<XJ g.length (s.Qa g k))))
 | 0, s, h => by
   refine⟨h,?_⟩;rcases Nat.eq_zero_or_pos s.OO with e| e
   ·exact .inr ⟨e,Nat.le_refl _,λ_ h=>absurd h (Nat.lt_irrefl _)⟩
   ·exact .inl ⟨e,rfl⟩
 | k + 1, s, h => by
   have em:s.Qa g (k+1)=if 0<s.OO then(s.move g).Qa g k else s:=rfl;rw[em];split
   ·rename_i hh
    obtain⟨h1,h2⟩:=h.move hg hh;obtain⟨h3,h4⟩:=WU.Qa hg k h1;refine⟨h3,?_⟩;rcases h4 with⟨h4,h5⟩|⟨h4,h5,h6⟩
    ·exact .inl ⟨h4,ω⟩
    ·refine .inr ⟨h4,ω,λ_ _=>?_⟩
     have hz:∀k,(s.move g).OO=0->(s.move g).Qa g k=s.move g:=λk e2=>by
      cases k with
      |zero=>rfl
      | succ k =>
        show(if 0<(s.move g).OO then _ else _)=_;rw[if_neg ω]
     rcases Nat.eq_zero_or_pos k with e| e
     ·subst e;show _<XJ g.length (s.move g);omega
     ·rcases Nat.eq_zero_or_pos (s.move g).OO with e2|e2
      ·rw[hz k e2];omega
      ·have:=h6 e2 e;omega
   ·rename_i hh
    exact⟨h,.inr ⟨ω,ω,λe=>absurd e hh⟩⟩
def WU.found (h:WU g root s)(hg:QH g)(hr:root<g.length)(h0:s.OO=0):(∀v,v<g.length->(s.num.getD v 0≠4294967295↔SA g root v))/\(∀v,SA g root v->s.num.getD v 0<s.fin/\s.ord.getD (s.num.getD v 0) 0=v)/\s.num.getD root 0+1=s.fin:=by
 have hn60:=hg.n
 have hfh:=h.fh
 have hrt:=h.rt.2 h0
 have nop:∀v,v<g.length->s.num.getD v 0≠4294967295->s.num.getD v 0<s.fin/\s.ord.getD (s.num.getD v 0) 0=v:=λv hv e=>by
  rcases h.no v hv with h1|h1|h1
  ·exact absurd h1 e
  ·obtain⟨i,hi,-⟩:=h.op v hv h1;omega
  ·exact h1
 have key:∀v,SA g root v->v<g.length/\s.num.getD v 0≠4294967295:=λv hv=>by
  induction hv with
  |refl=>exact⟨hr,ω⟩
  | @step x b _ hx ih =>
    obtain⟨hx1,hx2⟩:=ih;have hbl:=T5 hg x b hx;refine⟨hbl,?_⟩;obtain⟨q1,-⟩:=nop x hx1 hx2;have q2:=h.fn x hx1 q1;obtain⟨j,hj⟩:=List.getElem?_of_mem hx;have hjl:j<(OG g x).length:=(List.getElem?_eq_some_iff.1 hj).1;exact(h.lk x hx1 hx2).2 j b ω hj
 exact⟨λv hv=>⟨h.re v hv,λe=>(key v e).2⟩,λv hv=>nop v (key v hv).1 (key v hv).2,hrt⟩
theorem WU.tree (h:WU g root s)(hg:QH g)(hr:root<g.length)(h0:s.OO=0):∃par,TrF g root (λv=>s.num.getD v 0) par:=by
 have hn60:=hg.n
 have hfh:=h.fh
 obtain⟨h1,h2,h3⟩:=h.found hg hr h0
 have hp:∀v,∃p,SA g root v->v≠root->SA g root p/\v∈OG g p/\s.num.getD v 0<s.num.getD p 0:=λv=>by
  by_cases hv:SA g root v/\v≠root
  ·have hvl:=hv.1.lt hg hr;obtain⟨p,p1,p2,p3⟩:=h.pr v hvl (h2 v hv.1).1 hv.2;refine⟨p,λ_ _=>?_⟩;rcases p3 with p3|⟨p3,p4⟩
   ·obtain⟨i,hi,-⟩:=h.op p p1 p3;omega
   ·exact⟨h.re p p1 ω,p2,p4⟩
  ·exact⟨0,λe1 e2=>absurd ⟨e1,e2⟩ hv⟩
 obtain⟨par,hpar⟩:=Classical.skolem.1 hp
 refine⟨par,⟨⟨.refl,λv hv=>?_,λu v hu hv e=>?_,λv hv=>?_⟩,λv hv hvr=>hpar v hv hvr⟩⟩
 ·have:=(h2 v hv).1;show s.num.getD v 0<=s.num.getD root 0;omega
 ·have e1:=(h2 u hu).2;have e2:=(h2 v hv).2;have e:s.num.getD u 0=s.num.getD v 0:=e;rw[e] at e1;rw[<-e1,e2]
 ·have:=hv.lt hg hr;show v≠4294967295;omega
theorem WU.total (h:WU g root s)(hg:QH g):XJ g.length s<=g.length+g.length*g.length:=by
 have hfh:=h.fh
 have h1:((List.range g.length).map λv=>if s.num.getD v 0=4294967295 then 0 else s.looked.getD v 0).sum<=g.length*g.length:=by
  refine Nat.le_trans (zeu (f':=λ_=>g.length) λv hv=>?_) (by rw[z7V];exact Nat.le_refl _);split
  ·exact Nat.zero_le _
  ·rename_i e
   refine Nat.le_trans (h.lk v hv e).1 ?_;have hgl:g[v]? =some (OG g v):=by unfold OG;rw[List.getElem?_eq_getElem hv];rfl
   exact hg.len (List.mem_of_getElem? hgl)
 unfold XJ
 omega
end
abbrev S0 (l:List Nat)(v:Nat):Nat:=l.getD v 4294967295
abbrev nF (l:List Nat)(v:Nat):Nat:=l.getD v 0
def meS (n:Nat)(num cand:List Nat)(c p:Nat):Nat:=if S0 cand p=4294967295 then c else if c=4294967295 then p else(UN (nF num) (S0 cand) (2*n) c p).getD 0
def dsC (t:List (List Nat))(n:Nat)(num cand:List Nat)(v:Nat):Nat:=(OG t v).foldl (meS n num cand) 4294967295
def dsV (t:List (List Nat))(n:Nat)(num ord:List Nat)(a:List Nat×Bool)(k:Nat):List Nat×Bool:=if S0 a.1 (ord.getD k 0)=dsC t n num a.1 (ord.getD k 0) then a else(a.1.set (ord.getD k 0) (dsC t n num a.1 (ord.getD k 0)),true)
def Xe (t:List (List Nat))(n:Nat)(num ord:List Nat):Nat->List Nat×Bool->List Nat×Bool
 |0,a=>a
 |k+1,a=>Xe t n num ord k (dsV t n num ord a k)
theorem z7I {l:List Nat}{w c:Nat}(h:w<l.length):S0 (l.set w c)=Ti (S0 l) w c:=by
 funext v
 unfold Ti S0
 rw[List.getD_eq_getElem?_getD,List.getD_eq_getElem?_getD]
 by_cases e:v=w
 ·subst e;rw[List.getElem?_set_self h,if_pos O];rfl
 ·rw[List.getElem?_set_ne (Ne.symm e),if_neg e]
section
variable {g t:List (List Nat)}{root n w:Nat}{num ord cand:List Nat}{par:Nat->Nat}
def FdI (root:Nat)(f:Nat->Nat)(c:Nat)(A:Nat->Prop):Prop:=(c=4294967295/\∀p,A p->f p=4294967295)\/(f c≠4294967295/\(∃p,A p/\f p≠4294967295)/\∀x,Ch f root c x↔∀p,A p->f p≠4294967295->Ch f root p x)
def FdI.one (hT:TrF g root (nF num) par)(hI:DsI g root (nF num) par (S0 cand))(hn:nF num root<n){c p:Nat}{A:Nat->Prop}(h:FdI root (S0 cand) c A):FdI root (S0 cand) (meS n num cand c p) (λq=>A q\/q=p):=by
 unfold meS
 by_cases hp:S0 cand p=4294967295
 ·rw[if_pos hp];rcases h with⟨h1,h2⟩|⟨h1,⟨q,h2,h3⟩,h4⟩
  ·exact .inl ⟨h1,λq e=>e.elim (h2 q) λe=>e▸hp⟩
  ·refine .inr ⟨h1,⟨q,.inl h2,h3⟩,λx=>(h4 x).trans ⟨λe q hq hf=>hq.elim (λhq=>e q hq hf) λhq=>absurd hp (hq▸hf),λe q hq hf=>e q (.inl hq) hf⟩⟩
 ·rw[if_neg hp];rcases h with⟨h1,h2⟩|⟨h1,⟨q,h2,h3⟩,h4⟩
  ·rw[if_pos h1];refine .inr ⟨hp,⟨p,.inr O,hp⟩,λx=>⟨λe q hq hf=>hq.elim (λhq=>absurd (h2 q hq) hf) λhq=>hq▸e,λe=>e p (.inr O) hp⟩⟩
  ·rw[if_neg (hT.n.no c (hI.fo.in_ c h1))];have t1:=hT.n.top c (hI.fo.in_ c h1);have t2:=hT.n.top p (hI.fo.in_ p hp);obtain⟨d,d1,d2,d3⟩:=z0K hT.n hI.fo (2*n) c p h1 hp ω;rw[d1];refine .inr ⟨d2,⟨p,.inr O,hp⟩,λx=>(d3 x).trans ?_⟩;rw[h4 x];exact⟨λe q hq hf=>hq.elim (λhq=>e.1 q hq hf) λhq=>hq▸e.2,λe=>⟨λq hq hf=>e q (.inl hq) hf,e p (.inr O) hp⟩⟩
theorem FdI.all (hT:TrF g root (nF num) par)(hI:DsI g root (nF num) par (S0 cand))(hn:nF num root<n):∀{ps:List Nat} {c:Nat} {A:Nat->Prop},FdI root (S0 cand) c A->FdI root (S0 cand) (ps.foldl (meS n num cand) c) (λq=>A q\/q∈ps)
 | [], c, A, h => by
   have e:(λq=>A q\/q∈([]:List Nat))=A:=by funext q;simp
   rw[e];exact h
 | p :: ps, c, A, h => by
   have h1:=FdI.all hT hI hn (ps:=ps) (FdI.one hT hI hn (p:=p) h)
   have e:(λq=>(A q\/q=p)\/q∈ps)=λq=>A q\/q∈p::ps:=by
    funext q
    rw[List.mem_cons,or_assoc]
   rw[e] at h1;exact h1
def z3y (hT:TrF g root (nF num) par)(hI:DsI g root (nF num) par (S0 cand))(hn:nF num root<n)(ht:∀u v,u∈OG t v↔v∈OG g u)(hw:SA g root w)(hwr:w≠root)(hp:S0 cand (par w)≠4294967295):
  S0 cand (dsC t n num cand w)≠4294967295/\∀x,Ch (S0 cand) root (dsC t n num cand w) x↔∀p,SA g root p->w∈OG g p->S0 cand p≠4294967295->Ch (S0 cand) root p x:=by
 have h:=FdI.all hT hI hn (ps:=OG t w) (c:=4294967295) (A:=λ_=>False) (.inl ⟨rfl,λ_ e=>e.elim⟩)
 obtain⟨p1,p2,p3⟩:=hT.par w hw hwr
 rcases h with⟨h1,h2⟩|⟨h1,-,h4⟩
 ·exact absurd (h2 (par w) (.inr ((ht _ _).2 p2))) hp
 ·refine⟨h1,λx=>(h4 x).trans ⟨λe p _ hs hf=>e p (.inr ((ht _ _).2 hs)) hf,λe p hq hf=>e p (hI.fo.in_ p hf) ((ht _ _).1 (hq.resolve_left id)) hf⟩⟩
structure Fnd (g:List (List Nat))(root:Nat)(num ord:List Nat)(fin:Nat):Prop where
 r:∀v,v<g.length->(nF num v≠4294967295↔SA g root v)
 o:∀v,SA g root v->nF num v<fin/\ord.getD (nF num v) 0=v
 d:∀i,i<fin->SA g root (ord.getD i 0)/\nF num (ord.getD i 0)=i
 t:nF num root+1=fin
 f:fin<=g.length
structure DwI (g:List (List Nat))(root:Nat)(num:List Nat)(par:Nat->Nat)(cand:List Nat)(j:Nat):Prop where
 n:cand.length=g.length
 i:DsI g root (nF num) par (S0 cand)
 p:Pj g root (S0 cand) j
 c:j=0\/∀v,SA g root v->S0 cand v≠4294967295
structure DwK (g:List (List Nat))(root:Nat)(num:List Nat)(par:Nat->Nat)(cand:List Nat)(j k:Nat):Prop where
 n:cand.length=g.length
 k:DsK g root (nF num) par j k (S0 cand)
 c:j=0\/∀v,SA g root v->S0 cand v≠4294967295
theorem DwK.one {fin j k:Nat}{b:Bool}(hg:QH g)(hT:TrF g root (nF num) par)(hF:Fnd g root num ord fin)(ht:∀u v,u∈OG t v↔v∈OG g u)(hk:k+1<fin)(h:DwK g root num par cand j (k+1))(hr:root<g.length):DwK g root num par (dsV t g.length num ord (cand,b) k).1 j k/\((dsV t g.length num ord (cand,b) k).2=false->b=false/\(dsV t g.length num ord (cand,b) k).1=cand)/\(S0 (dsV t g.length num ord (cand,b) k).1=Ti (S0 cand) (ord.getD k 0) (dsC t g.length num cand (ord.getD k 0))):=by
 obtain⟨d1,d2⟩:=hF.d k ω
 have hft:=hF.t
 have hff:=hF.f
 have hwr:ord.getD k 0≠root:=λe=>by rw[e] at d2;omega
 obtain⟨p1,p2,p3⟩:=hT.par _ d1 hwr
 have hp:=(h.k.did (par (ord.getD k 0)) p1 ω).1
 obtain⟨c1,c2⟩:=z3y (n:=g.length) (t:=t) hT h.k.i ω ht d1 hwr hp
 obtain⟨n1,n2⟩:=h.k.next hT h.c d1 d2 ω c1 c2
 have hlt:=d1.lt hg hr
 have hwl:ord.getD k 0<cand.length:=by rw[h.n];exact hlt
 have hset:=z7I (l:=cand) (c:=dsC t g.length num cand (ord.getD k 0)) hwl
 unfold dsV
 dsimp only
 by_cases e:S0 cand (ord.getD k 0)=dsC t g.length num cand (ord.getD k 0)
 ·rw[if_pos e];rw[<-e,zaC] at n1 n2⊢;exact⟨⟨h.n,n1,n2⟩,λe=>⟨e,rfl⟩,rfl⟩
 ·rw[if_neg e];rw[<-hset] at n1 n2;exact⟨⟨by show(cand.set _ _).length=_;rw[List.length_set];exact h.n,n1,n2⟩,(λe=>by cases e),hset⟩
theorem DwK.run {fin j:Nat}(hg:QH g)(hT:TrF g root (nF num) par)(hF:Fnd g root num ord fin)(ht:∀u v,u∈OG t v↔v∈OG g u)(hr:root<g.length):∀(k:Nat) {cand:List Nat} {b:Bool},k<fin->DwK g root num par cand j k->DwK g root num par (Xe t g.length num ord k (cand,b)).1 j 0/\((Xe t g.length num ord k (cand,b)).2=false->b=false/\(Xe t g.length num ord k (cand,b)).1=cand)
 |0,cand,b,_,h=>⟨h,λe=>⟨e,rfl⟩⟩
 | k + 1, cand, b, hk, h => by
   obtain⟨h1,h2,-⟩:=DwK.one (b:=b) hg hT hF ht hk h hr;obtain⟨h3,h4⟩:=DwK.run hg hT hF ht hr k (cand:=(dsV t g.length num ord (cand,b) k).1) (b:=(dsV t g.length num ord (cand,b) k).2) ω h1;have e:Xe t g.length num ord (k+1) (cand,b)=Xe t g.length num ord k ((dsV t g.length num ord (cand,b) k).1,(dsV t g.length num ord (cand,b) k).2):=rfl;rw[e];refine⟨h3,λe=>?_⟩;obtain⟨h5,h6⟩:=h4 e;obtain⟨h7,h8⟩:=h2 h5;exact⟨h7,h6.trans h8⟩
theorem DwI.za2 {fin j:Nat}(hg:QH g)(hT:TrF g root (nF num) par)(hF:Fnd g root num ord fin)(ht:∀u v,u∈OG t v↔v∈OG g u)(hr:root<g.length)(h:DwI g root num par cand j):DwI g root num par (Xe t g.length num ord (fin-1) (cand,false)).1 (j+1)/\(∀v,SA g root v->S0 (Xe t g.length num ord (fin-1) (cand,false)).1 v≠4294967295)/\((Xe t g.length num ord (fin-1) (cand,false)).2=false->(Xe t g.length num ord (fin-1) (cand,false)).1=cand):=by
 have hft:=hF.t
 have h0:DwK g root num par cand j (fin-1):=⟨h.n,by
  have:=DsK.begin hT h.i h.p;rw[show fin-1=nF num root by omega]
  exact this,h.c⟩
 obtain⟨h1,h2⟩:=DwK.run (b:=false) hg hT hF ht hr (fin-1) ω h0
 obtain⟨h3,h4⟩:=h1.k.fin
 exact⟨⟨h1.n,h1.k.i,h3,.inr h4⟩,h4,λe=>(h2 e).2⟩
def DwI.dom {fin j:Nat}(hg:QH g)(hT:TrF g root (nF num) par)(hF:Fnd g root num ord fin)(ht:∀u v,u∈OG t v↔v∈OG g u)(hr:root<g.length)(h:DwI g root num par cand j)(h0:(Xe t g.length num ord (fin-1) (cand,false)).2=false):ZJ g root (nF num) par (S0 cand):=by
 have key:∀i,DwI g root num par cand (j+i):=λi=>by
  induction i with
  |zero=>exact h
  | succ i ih =>
    obtain⟨h1,h2,h3⟩:=ih.za2 hg hT hF ht hr;rw[h3 h0] at h1;exact h1
 obtain⟨-,h2,h3⟩:=h.za2 hg hT hF ht hr
 rw[h3 h0] at h2
 exact⟨h.i,h2,λi v x i' hi=>(key i).p v x i' ω⟩
theorem DwI.same {fin j:Nat}(hg:QH g)(hT:TrF g root (nF num) par)(hF:Fnd g root num ord fin)(ht:∀u v,u∈OG t v↔v∈OG g u)(hr:root<g.length)(h:DwI g root num par cand j)(hD:ZJ g root (nF num) par (S0 cand)):(Xe t g.length num ord (fin-1) (cand,false)).2=false:=by
 have hft:=hF.t
 have key:∀k,k<fin->Xe t g.length num ord k (cand,false)=(cand,false):=λk=>by
  induction k with
  |zero=>exact λ_=>rfl
  | succ k ih =>
    intro hk;obtain⟨d1,d2⟩:=hF.d k ω;have hwr:ord.getD k 0≠root:=λe=>by rw[e] at d2;omega
    obtain⟨p1,-,-⟩:=hT.par _ d1 hwr;have hff:=hF.f;obtain⟨c1,c2⟩:=z3y (n:=g.length) (t:=t) hT h.i ω ht d1 hwr (hD.c _ p1);have e:=hD.zev hT d1 hwr c1 c2;show Xe t g.length num ord k (dsV t g.length num ord (cand,false) k)=_;unfold dsV;rw[if_pos e];exact ih ω
 rw[key (fin-1) ω]
/-! ### Short ways -/
def InS (g:List (List Nat))(root x i v:Nat):Prop:=∃i',i'<=i/\Av g root x i' v
def InS.stop {x i:Nat}(h:∀v,InS g root x (i+1) v->InS g root x i v):∀{m v:Nat},Av g root x m v->InS g root x i v:=by
 intro m v hv
 induction hv with
 |zero hx=>exact⟨0,Nat.zero_le _,.zero hx⟩
 | step _ hs hx ih =>
   obtain⟨i',hi',ha⟩:=ih;exact h _ ⟨i'+1,ω,.step ha hs hx⟩
theorem Av.short (hg:QH g)(hr:root<g.length){x m v:Nat}(h:Av g root x m v):InS g root x g.length v:=by
 by_cases hc:∃i,i<=g.length/\∀v,InS g root x (i+1) v->InS g root x i v
 ·obtain⟨i,hi,hs⟩:=hc;obtain⟨i',hi',ha⟩:=InS.stop hs h;exact⟨i',ω,ha⟩
 ·have key:∀i,i<=g.length+1->i<=VV g.length (InS g root x i):=λi=>by
   induction i with
   |zero=>exact λ_=>Nat.zero_le _
   | succ i ih =>
     intro hi;have h1:=ih ω;have h2:¬∀v,InS g root x (i+1) v->InS g root x i v:=λe=>hc ⟨i,ω,e⟩;obtain⟨v,hv⟩:=Classical.not_forall.1 h2;obtain⟨v1,v2⟩:=Classical.not_imp.1 hv
     have hvl:v<g.length:=by
      obtain⟨i',-,ha⟩:=v1;exact ha.rch.lt hg hr
     have:=ZU (n:=g.length) (P:=InS g root x i) (Q:=InS g root x (i+1)) (λv _ ⟨i',hi',ha⟩=>⟨i',ω,ha⟩) hvl v2 v1;omega
  have h1:=key (g.length+1) (Nat.le_refl _);have h2:=z2Q (n:=g.length) (P:=InS g root x (g.length+1));omega
def DwI.late {j:Nat}(hg:QH g)(hr:root<g.length)(h:DwI g root num par cand j)(hj:g.length<=j)(hc:∀v,SA g root v->S0 cand v≠4294967295):ZJ g root (nF num) par (S0 cand):=
 ⟨h.i,hc,λ_ v x _ _ ha hv hch=>by
  obtain⟨i',hi',ha'⟩:=ha.short hg hr
  exact h.p v x i' ω ha' hv hch⟩
end
def Rs.step (g t:List (List Nat))(root:Nat)(s:Rs):Rs:=
 if s.QR then {s with cand:=(Xe t g.length s.num s.ord (s.fin-1) (s.cand,false)).1,done:= !(Xe t g.length s.num s.ord (s.fin-1) (s.cand,false)).2,steps:=s.steps+1}
 else if(s.Qa g 64).OO=0 then {s.Qa g 64 with QR:=true,cand:=(s.Qa g 64).cand.set root root,steps:=s.steps+1}
 else {s.Qa g 64 with steps:=s.steps+1}
def z0R (g:List (List Nat))(num:List Nat):Nat:=((List.range g.length).map λv=>if nF num v=4294967295 then 0 else 1+(OG g v).length).sum
section
variable {g t:List (List Nat)}{root n:Nat}{num ord cand:List Nat}{par:Nat->Nat}{s:Rs}
def UB:∀(k:Nat) {s:Rs},(s.Qa g k).steps=s.steps/\(s.Qa g k).QR=s.QR/\(s.Qa g k).done=s.done
 |0,s=>⟨rfl,rfl,rfl⟩
 | k + 1, s => by
   have em:s.Qa g (k+1)=if 0<s.OO then(s.move g).Qa g k else s:=rfl;rw[em];split
   ·obtain⟨h1,h2,h3⟩:=UB k (s:=s.move g);rw[h1,h2,h3];unfold Rs.move;split
    ·exact⟨rfl,rfl,rfl⟩
    ·split<;>exact⟨rfl,rfl,rfl⟩
   ·exact⟨rfl,rfl,rfl⟩
theorem sum_add {f h:Nat->Nat}:∀n,((List.range n).map λv=>f v+h v).sum=((List.range n).map f).sum+((List.range n).map h).sum
 |0=>rfl
 | n + 1 => by
   rw[List.range_succ,List.map_append,List.map_append,List.map_append,List.sum_append,List.sum_append,List.sum_append,sum_add n];simp only[List.map_cons,List.map_nil,List.sum_cons,List.sum_nil];omega
theorem z6R {p:Nat->Bool}:∀n,((List.range n).map λv=>if p v then 1 else 0).sum=(List.range n).countP p
 |0=>rfl
 | n + 1 => by
   rw[List.range_succ,List.map_append,List.sum_append,z6R n,List.countP_append,List.countP_singleton];simp only[List.map_cons,List.map_nil,List.sum_cons,List.sum_nil];omega
theorem WU.ended (h:WU g root s)(hg:QH g)(hr:root<g.length)(h0:s.OO=0):Fnd g root s.num s.ord s.fin/\XJ g.length s=z0R g s.num:=by
 obtain⟨h1,h2,h3⟩:=h.found hg hr h0
 have hfh:=h.fh
 have hn60:=hg.n
 have hd:∀i,i<s.fin->SA g root (s.ord.getD i 0)/\nF s.num (s.ord.getD i 0)=i:=λi hi=>by
  obtain⟨o1,o2⟩:=h.od i hi;exact⟨(h1 _ o1).1 ω,o2⟩
 refine⟨⟨h1,h2,hd,h3,ω⟩,?_⟩
 have hct:=h.ct
 have hcnt:VV g.length (λv=>s.num.getD v 0≠4294967295)=(List.range g.length).countP λv=>decide (s.num.getD v 0≠4294967295):=by
  unfold VV
  congr 1
  funext v
  exact decide_eq_decide.2 Iff.rfl
 have hle:(List.range g.length).countP (λv=>decide (s.num.getD v 0≠4294967295))<=s.fin:=by
  rw[List.countP_eq_length_filter];have hl:((List.range g.length).filter λv=>decide (s.num.getD v 0≠4294967295)).length=(((List.range g.length).filter λv=>decide (s.num.getD v 0≠4294967295)).map λv=>s.num.getD v 0).length:=(List.length_map ..).symm;rw[hl,XL (n:=s.fin)]
  ·refine Nat.le_trans List.countP_le_length ?_;rw[List.length_range];exact Nat.le_refl _
  ·rw[List.nodup_iff_pairwise_ne,List.pairwise_map];refine List.Pairwise.imp_of_mem ?_$ List.Pairwise.filter _ List.nodup_range;intro a b ha hb hab e;have ha':=of_decide_eq_true (List.mem_filter.1 ha).2;have hb':=of_decide_eq_true (List.mem_filter.1 hb).2;have ra:=(h1 a (List.mem_range.1 (List.mem_filter.1 ha).1)).1 ha';have rb:=(h1 b (List.mem_range.1 (List.mem_filter.1 hb).1)).1 hb';have e1:=(h2 a ra).2;have e2:=(h2 b rb).2;have e:s.num.getD a 0=s.num.getD b 0:=e;rw[e] at e1;exact hab (e1.symm.trans e2)
  ·intro x hx;obtain⟨v,hv,rfl⟩:=List.mem_map.1 hx;have hv':=of_decide_eq_true (List.mem_filter.1 hv).2;exact(h2 v ((h1 v (List.mem_range.1 (List.mem_filter.1 hv).1)).1 hv')).1
 have hfin:s.fin=(List.range g.length).countP λv=>decide (s.num.getD v 0≠4294967295):=by
  rw[hcnt] at hct;omega
 unfold XJ z0R
 have e1:((List.range g.length).map λv=>if nF s.num v=4294967295 then 0 else 1+(OG g v).length)=(List.range g.length).map λv=>(if decide (s.num.getD v 0≠4294967295)=true then 1 else 0)+(if s.num.getD v 0=4294967295 then 0 else s.looked.getD v 0):=by
  refine List.map_congr_left λv hv=>?_;by_cases e:s.num.getD v 0=4294967295
  ·rw[if_pos e,if_pos e,decide_eq_false (λh=>h e)];rfl
  ·have hvl:=List.mem_range.1 hv;rw[if_neg e,if_neg e,decide_eq_true e,if_pos O,h.fn v hvl (h2 v ((h1 v hvl).1 e)).1]
 rw[e1,sum_add,z6R,<-hfin]
structure DmJ (g:List (List Nat))(root:Nat)(s:Rs):Prop where
 se:s.QR=false->s.done=false/\WU g root s/\0<s.OO/\XJ g.length s=64*s.steps
 sw:s.QR=true->∃(par:Nat->Nat) (j:Nat),TrF g root (nF s.num) par/\Fnd g root s.num s.ord s.fin/\s.steps=(z0R g s.num+63) / 64+j/\1<=z0R g s.num/\z0R g s.num<=g.length+g.length*g.length/\DwI g root s.num par s.cand j/\(1<=j->∀v,SA g root v->S0 s.cand v≠4294967295)/\(s.done=false->j<=g.length)/\(s.done=true->1<=j/\j<=g.length+1/\ZJ g root (nF s.num) par (S0 s.cand))/\s.OO=0
 ls:s.num.length=g.length/\s.looked.length=g.length/\s.cand.length=g.length/\s.Uu.length=g.length/\s.ord.length=g.length
theorem DmJ.new (hg:QH g)(hr:root<g.length):DmJ g root (Rs.new g.length root):=by
 have h:=WU.new hg hr
 refine⟨λ_=>⟨rfl,h,Nat.zero_lt_one,?_⟩,(λe=>by cases e),h.nn,h.ln,by rw[h.cn];exact List.length_replicate,h.sn,h.on⟩
 have key:∀n,((List.range n).map λv=>if(Rs.new g.length root).num.getD v 0=4294967295 then 0 else(Rs.new g.length root).looked.getD v 0).sum=0:=λn=>by
  induction n with
  |zero=>rfl
  | succ n ih =>
    rw[List.range_succ,List.map_append,List.sum_append,ih];simp only[List.map_cons,List.map_nil,List.sum_cons,List.sum_nil,Nat.zero_add,Nat.add_zero];split
    ·rfl
    ·show((List.replicate g.length 0).set root 0).getD n 0=0;rw[List.getD_eq_getElem?_getD,List.getElem?_set];split
     ·split<;>rfl
     ·rw[List.getElem?_replicate];split<;>rfl
 show 0+_=0
 rw[key]
theorem zcn {par:Nat->Nat}(hg:QH g)(hr:root<g.length)(hT:TrF g root (nF num) par):DwI g root num par ((List.replicate g.length 4294967295).set root root) 0:=by
 have hn60:=hg.n
 have hc:∀v,S0 ((List.replicate g.length 4294967295).set root root) v=if v=root then root else 4294967295:=λv=>by
  rw[z7I (by rw[List.length_replicate];exact hr)];unfold Ti;split
  ·rfl
  ·show(List.replicate g.length 4294967295).getD v 4294967295=4294967295;rw[List.getD_eq_getElem?_getD,List.getElem?_replicate];split<;>rfl
 have hc':S0 ((List.replicate g.length 4294967295).set root root)=λv=>if v=root then root else 4294967295:=funext hc
 have hv:∀v,S0 ((List.replicate g.length 4294967295).set root root) v≠4294967295->v=root:=λv h=>by
  rw[hc] at h;by_cases e:v=root
  ·exact e
  ·rw[if_neg e] at h;exact absurd O h
 refine⟨by rw[List.length_set,List.length_replicate],⟨⟨by rw[hc,if_pos O],λv h1 h2=>absurd (hv v h1) h2,λv h=>by rw[hv v h];exact .refl⟩,λv x h hx=>?_,λv x h hd=>?_⟩,λv x i hi ha h hx=>?_,.inl O⟩
 ·obtain rfl:=hv v h;rw[hx.at_root];exact .refl _
 ·obtain rfl:=hv v h;by_cases e:v=x
  ·rw[e];exact .refl _
  ·exact absurd (.zero e) (hd.2 0)
 ·obtain rfl:=hv v h;exact ha.ne hx.at_root.symm
theorem DmJ.step (hg:QH g)(hr:root<g.length)(ht:∀u v,u∈OG t v↔v∈OG g u)(h:DmJ g root s)(hd:s.done=false):DmJ g root (s.step g t root):=by
 unfold Rs.step
 cases hs:s.QR with
 | true =>
   obtain⟨par,j,hT,hF,h1,h2,h3,hI,hc,h4,h5,h6⟩:=h.sw hs;obtain⟨i1,i2,i3⟩:=hI.za2 hg hT hF ht hr;rw[if_pos O];refine⟨(λe=>by cases e),λ_=>⟨par,j+1,hT,hF,by show s.steps+1=(z0R g s.num+63) / 64+(j+1);omega,h2,h3,i1,λ_=>i2,λe=>?_,λe=>?_,h6⟩,h.ls.1,h.ls.2.1,i1.n,h.ls.2.2.2⟩
   ·have hj:=h4 hd;rcases Nat.lt_or_ge j g.length with hlt|hge
    ·exact hlt
    ·exfalso;have hj1:1<=j:=by omega
     have hD:=hI.late hg hr hge (hc hj1);have:=hI.same hg hT hF ht hr hD;have e:(!(Xe t g.length s.num s.ord (s.fin-1) (s.cand,false)).2)=false:=e;rw[this] at e;cases e
   ·have e:(!(Xe t g.length s.num s.ord (s.fin-1) (s.cand,false)).2)=true:=e;have e2:(Xe t g.length s.num s.ord (s.fin-1) (s.cand,false)).2=false:=by simpa using e
    have hD:=hI.dom hg hT hF ht hr e2;have hj:=h4 hd;refine⟨ω,ω,?_⟩;show ZJ g root (nF s.num) par (S0 (Xe t g.length s.num s.ord (s.fin-1) (s.cand,false)).1)
    rw[i3 e2];exact hD
 | false =>
   obtain⟨-,hI,hh,htot⟩:=h.se hs;obtain⟨hI',hm⟩:=hI.Qa hg 64;obtain⟨m1,m2,m3⟩:=UB (g:=g) 64 (s:=s);rw[if_neg ψ];rcases hm with⟨m4,m5⟩|⟨m4,m5,m6⟩
   ·rw[if_neg ω];refine⟨λ_=>⟨by show(s.Qa g 64).done=false;rw[m3];exact hd,⟨hI'.nn,hI'.ln,hI'.cn,hI'.sn,hI'.on,hI'.st,hI'.inj,hI'.op,hI'.od,hI'.no,hI'.rt,hI'.re,hI'.ed,hI'.lk,hI'.fn,hI'.pr,hI'.ct⟩,m4,?_⟩,λe=>?_,hI'.nn,hI'.ln,by show(s.Qa g 64).cand.length=_;rw[hI'.cn];exact List.length_replicate,hI'.sn,hI'.on⟩
    ·show XJ g.length (s.Qa g 64)=64*(s.steps+1);omega
    ·have e:(s.Qa g 64).QR=true:=e;rw[m2,hs] at e;cases e
   ·rw[if_pos m4];obtain⟨hF,hmv⟩:=hI'.ended hg hr m4;obtain⟨par,hT⟩:=hI'.tree hg hr m4;have hlt:=m6 hh ψ;have htt:=hI'.total hg;have hst:=zcn (num:=(s.Qa g 64).num) hg hr hT;rw[<-hI'.cn] at hst;refine⟨(λe=>by cases e),λ_=>⟨par,0,hT,hF,?_,(by show 1<=z0R g (s.Qa g 64).num;omega),(by show z0R g (s.Qa g 64).num<=_;omega),hst,λe=>absurd e ψ,λ_=>Nat.zero_le _,λe=>?_,m4⟩,hI'.nn,hI'.ln,hst.n,hI'.sn,hI'.on⟩
    ·show s.steps+1=(z0R g (s.Qa g 64).num+63) / 64+0;omega
    ·have e:(s.Qa g 64).done=true:=e;rw[m3,hd] at e;cases e
def U7 (g t:List (List Nat))(root:Nat):Nat->Rs
 |0=>Rs.new g.length root
 |k+1=>(U7 g t root k).step g t root
structure z3l (g t:List (List Nat))(root k:Nat):Prop where
 d:(U7 g t root k).done=true
 f:∀j,j<k->(U7 g t root j).done=false
theorem z3l.eq {k k':Nat}(h:z3l g t root k)(h':z3l g t root k'):k=k':=by
 rcases Nat.lt_trichotomy k k' with e|e| e
 ·have:=h'.f k e;rw[h.d] at this;cases this
 ·exact e
 ·have:=h.f k' e;rw[h'.d] at this;cases this
theorem z5l:(s.step g t root).steps=s.steps+1:=by
 unfold Rs.step
 split
 ·rfl
 ·split<;>rfl
theorem XF:∀k,(U7 g t root k).steps=k
 |0=>rfl
 | k + 1 => by
   show((U7 g t root k).step g t root).steps=k+1;rw[z5l,XF k]
def z5H (hg:QH g)(hr:root<g.length)(ht:∀u v,u∈OG t v↔v∈OG g u):∀k,(∀j,j<k->(U7 g t root j).done=false)->DmJ g root (U7 g t root k)
 |0,_=> .new hg hr
 |k+1,h=>(z5H hg hr ht k λj hj=>h j ω).step hg hr ht (h k ω)
theorem DmJ.bound (h:DmJ g root s)(hd:s.done=false)(hg:QH g):s.steps+1<=g.length*g.length+2*g.length+10:=by
 cases hs:s.QR with
 | true =>
   obtain⟨par,j,-,-,h1,-,h3,-,-,h4,-⟩:=h.sw hs;have:=h4 hd
   omega
 | false =>
   obtain⟨-,hI,-,ht⟩:=h.se hs;have:=hI.total hg;omega
end
section
variable {g t:List (List Nat)}{root v d u:Nat}{num par f:Nat->Nat}{s:Rs}
def ZJ.zeV (h:ZJ g root num par f)(hv:SA g root v)(hu:u∈OG g v)(hur:u≠root):Ch f root v (f u):=by
 have hru:SA g root u:= .step hv hu
 obtain⟨u1,u2⟩:=h.i.fo.up u (h.c u hru) hur
 have hd:=(h.iff hru).1 (.up hur (.refl (f u)))
 refine(h.iff hv).2 ⟨hv,λj ha=>hd.2 (j+1) (.step ha hu λe=>?_)⟩
 rw[<-e] at u2
 omega
structure DmE (g:List (List Nat))(root:Nat)(cand:List Nat):Prop where
 n:cand.length=g.length
 ex:∃num par,TrF g root num par/\ZJ g root num par (S0 cand)/\∀v,SA g root v->num v<g.length
theorem z3l.e {k:Nat}(h:z3l g (Qb g) root k)(hg:QH g)(hr:root<g.length)(ht:∀u v,u∈OG (Qb g) v↔v∈OG g u):DmE g root (U7 g (Qb g) root k).cand/\(z0R g (U7 g (Qb g) root k).num+63) / 64<k/\k<=(z0R g (U7 g (Qb g) root k).num+63) / 64+g.length+1/\∀v,v<g.length->(nF (U7 g (Qb g) root k).num v≠4294967295↔SA g root v):=by
 have hj:=z5H hg hr ht k h.f
 have hst:=XF (g:=g) (t:=Qb g) (root:=root) k
 generalize hs:U7 g (Qb g) root k=s at hj hst
 have hd:s.done=true:=hs▸h.d
 have hsw:s.QR=true:=by
  cases e:s.QR with
  |true=>rfl
  |false=>have:=(hj.se e).1;rw[hd] at this;cases this
 obtain⟨par,j,hT,hF,h1,-,-,hI,-,-,h5,-⟩:=hj.sw hsw
 obtain⟨h6,h7,h8⟩:=h5 hd
 have hf:=hF.f
 exact⟨⟨hI.n,_,par,hT,h8,λv hv=>by have:=(hF.o v hv).1;omega⟩,ω,ω,hF.r⟩
theorem DmE.get {cand:List Nat}(h:DmE g root cand)(hg:QH g)(hr:root<g.length){v:Nat}(hv:v<g.length):∃c,cand[v]? =some c/\S0 cand v=c/\(c≠4294967295↔SA g root v)/\(c≠4294967295->c<g.length):=by
 obtain⟨num,par,hT,hD,-⟩:=h.ex
 have hvl:v<cand.length:=by rw[h.n];exact hv
 have hc:S0 cand v=cand[v]:=by
  show cand.getD v 4294967295=_;rw[List.getD_eq_getElem?_getD,List.getElem?_eq_getElem hvl];rfl
 refine⟨_,List.getElem?_eq_getElem hvl,hc,?_,λhne=>?_⟩
 ·rw[<-hc];exact⟨hD.i.fo.in_ v,hD.c v⟩
 ·rw[<-hc] at hne⊢;by_cases e:v=root
  ·rw[e,hD.i.fo.rt];exact hr
  ·exact(hD.i.fo.in_ _ (hD.i.fo.up v hne e).1).lt hg hr
end
theorem z4b {P:Program}{ρ:Operand->Value}{o:Oper}{c:Call}{w:World}(ho:o.op= .call c)(hc:c.callee= .builtin .recover)(ha:c.args.toList=[]):(execOp ρ o).run P w= .ok .recover w:=by
 obtain⟨callee,args,tys⟩:=c
 simp only at hc ha
 subst hc
 have:args=#[]:=Array.toList_inj.1 ha
 subst this
 simp[execOp,ho,go_sem]
def XY {P:Program}{f:FuncId}{fn:Func}{id:Nat}{ops:Array Oper}{c2:Code}{args:List Value}{e:Env}{w:World}{S:Value->World->Prop}{n d:Nat}{o:Oper}{rest:List Oper}{c:Call}
  (hf:P.funcs[f]? =some fn) (hb:fn.body=some (.seq (.region id ops false) c2)) (hnt:fn.ntmps=n) (hn:Nat.ble args.length n=true) (he:envOf 0 args=e)
  (hops:ops.toList=o::rest) (hg:o.guard=none) (hop:o.op= .call c) (hcal:c.callee= .builtin .recover) (hca:c.args.toList=[]) (hdst:o.dst=some d) (hd:Nat.blt d n=true) (ho:Rz n ops.toList=true)
  (h:RL ⟨⟨P,f,S,n,none,[],true⟩,ops.toList,[.code c2],ho⟩ rest ((d,.nilIface)::e) w):z5m P f args w S:=by
 subst hnt
 refine⟨trivial,λc0 cs hm _=>?_⟩
 let b:Frame:={(default:Frame) with fn:=f,kind:= .deferred,roundOf:=none}
 have hn':args.length<=fn.ntmps:=by simpa using hn
 let a:Act:={tmps:=args.toArray++Array.replicate (fn.ntmps-args.toArray.size) undef,defers:=[]}
 have henter:Frame.enter P f args.toArray .deferred=b.atR a [.code (.seq (.region id ops false) c2)]:=by
  simp[Frame.enter,Frame.atR,hf,hb,b,a]
 have hok:WB fn.ntmps [] e a:=by
  refine⟨by simp[a];omega,rfl,λi v hi=>?_⟩;subst he;obtain⟨-,h2⟩:=WM args 0 i v hi;simp at h2
  have hlt:i<args.length:=by
   rcases Nat.lt_or_ge i args.length with h| h
   ·exact h
   ·simp[List.getElem?_eq_none h] at h2
  have h3:args[i]=v:=by simpa[List.getElem?_eq_getElem hlt] using h2
  simp only[a,Array.getD];rw[dif_pos (by simp;omega)];simp[hlt,h3]
 have hok':=hok.put hd .nilIface
 have h0:ops[0]? =some o:=by
  rw[<-Array.getElem?_toList,hops];rfl
 have hrange:List.range ops.size=0::List.range' 1 rest.length:=by
  have:ops.size=rest.length+1:=by rw[<-Array.length_toList,hops];rfl
  rw[this,List.range_eq_range',List.range'_succ]
 -- recover
 have hgs:=stepGR_op (P:=P) (b:=b) (a:=a) (k:=[.code c2]) (cs:=c0::cs) (w:=w) (ops:=ops) (i:=0) (rest:=List.range' 1 rest.length) h0 (by simp[Region.wanted,hg])
 rw[show b.roundOf=none from rfl,Oper.semAt_none] at hgs
 have hfin:(b.atR a (.inRegion ops (0::List.range' 1 rest.length)::[.code c2])).finish .nilIface=b.atR (a.put o.dst .nilIface) (.inRegion ops (List.range' 1 rest.length)::[.code c2]):=by
  rw[Frame.finish_atR,h0];rfl
 have htr:=tryRecover_deferred (show(b.atR a (.inRegion ops (0::List.range' 1 rest.length)::[.code c2])).kind= .deferred from rfl) (c0::cs)
 have hrec:recoverD (c0::cs)=none:=by simp[recoverD,hm]
 have hstep:step P (lone (b.atR a (.inRegion ops (0::List.range' 1 rest.length)::[.code c2])) (c0::cs) w)= .next (lone (b.atR (a.put (some d) .nilIface) (.inRegion ops (List.range' 1 rest.length)::[.code c2])) (c0::cs) w):=by
  refine step_lone_go ?_;rw[<-hdst,hgs,<-hfin];simp only[Frame.atR,show b.roundOf=none from rfl] at htr⊢;simp[stepG.apply,z4b hop hcal hca,htr,hrec]
 -- the rest
 have hl:=h _ hok'
 have hl':wpOpsIn (WF none) 0 P ops (QK ⟨P,f,S,fn.ntmps,none,[],true⟩ [.code c2]) (List.range' 1 rest.length) (a.put (some d) .nilIface) w:=by
  rw[wpOpsIn_eq_wpListIn rest 1 (λj=>by
   rw[<-Array.getElem?_toList,hops,Nat.add_comm];rfl)]
  simpa using hl
 obtain⟨x,a',w',q,harr⟩:=wp_opsIn _ _ _ hl' b [.code c2] (c0::cs) O trivial (z7v _ _)
 have hland:Zs P f none true (WT S) (lone (b.atR (a.put (some d) .nilIface) (.inRegion ops (List.range' 1 rest.length)::[.code c2])) (c0::cs) w) (c0::cs):=by
  cases x with
  |normal=>exact(q b O O O (c0::cs)).of_steps (StepsIn.steps harr)
  |outgrown=>exact q.elim
  |exit id=>exact q.elim
  |goto l=>exact q.elim
  |ret=>exact q.elim
  |panic ch=>exact q.elim
 have s1:step P (lone (b.atR a [.code (.seq (.region id ops false) c2)]) (c0::cs) w)= .next (lone (b.atR a (.code (.region id ops false)::[.code c2])) (c0::cs) w):=stepR_seq
 have s2:step P (lone (b.atR a (.code (.region id ops false)::[.code c2])) (c0::cs) w)= .next (lone (b.atR a (.inRegion ops (0::List.range' 1 rest.length)::[.code c2])) (c0::cs) w):=by
  rw[<-hrange];exact stepR_region
 have hall:=hland.of_steps (.head s1 (.head s2 (.one hstep)))
 obtain⟨x,w',fr,hR,hc,hfn,hk,hg⟩:=hall
 have hcc:({c0 with mode:= .returning}:Frame)=c0:=by cases c0;simp_all
 rw[henter]
 exact⟨x,.returning,w',fr,⟨rfl,hR⟩,by rw[hcc];exact comesIn_wide.2 hc,hk,hfn,hg⟩
def Rs.vec (s:Rs):Nat->List Nat
 |0=>s.num
 |1=>s.looked
 |2=>s.cand
 |3=>s.Uu
 |_=>s.ord
def Rs.z3I (s:Rs)(j:Nat)(xs:List Nat):Rs:=match j with
 |0=>{s with num:=xs}
 |1=>{s with looked:=xs}
 |2=>{s with cand:=xs}
 |3=>{s with Uu:=xs}
 |_=>{s with ord:=xs}
theorem zbM {s:Rs}{i j:Nat}{xs:List Nat}(hi:i<5)(hj:j<5):(s.z3I j xs).vec i=if i=j then xs else s.vec i:=by
 obtain rfl|rfl|rfl|rfl|rfl:j=0\/j=1\/j=2\/j=3\/j=4:=by omega
 all_goals obtain rfl|rfl|rfl|rfl|rfl:i=0\/i=1\/i=2\/i=3\/i=4:=by omega
 all_goals rfl
def dmC (s:Rs)(g t root:Nat)(vb:Nat->Nat):List Value:=[I (s.steps:Int),I (s.fin:Int),I (s.OO:Int),.bool s.QR,.bool s.done,ptr g 0,ptr t 0,I (root:Int),ptr (vb 0) 0,ptr (vb 1) 0,ptr (vb 2) 0,ptr (vb 3) 0,ptr (vb 4) 0,.bool false,.bool false]
structure YW (Q:QY)(txt:Int->Ov)(k tk root rr:Nat)(O_:Nat->Prop)(a L:Nat)(s:Rs)(vb:Nat->Nat)(w:World):Prop where
 o:O_ rr/\∀j,j<5->O_ (vb j)
 ne:∀j,j<5->rr≠vb j/\∀i,i<5->i≠j->vb i≠vb j
 run:OE w rr (dmC s k tk root vb) 103
 vs:∀j,j<5->Vn Q txt (vb j) 4 (a+j) (s.vec j) w/\(s.vec j).length<=100
 L:L=5
theorem Tv {n:Nat}(h:n<=100):Wf n (512 / 4)=1:=by
 unfold Wf
 omega
section
variable {w w':World}{Q Q':QY}{txt txt':Int->Ov}{k tk root rr a L:Nat}{s s':Rs}{O_ S:Nat->Prop}{vb:Nat->Nat}
def YW.kp (h:YW Q txt k tk root rr O_ a L s vb w)(hk:Kp S w w')(hS:∀b,O_ b->¬S b):YW Q txt k tk root rr O_ a L s vb w':=
 ⟨h.o,h.ne,hk.On h.run (hS _ h.o.1),λj hj=>⟨(h.vs j hj).1.kp hk (hS _ (h.o.2 j hj)),(h.vs j hj).2⟩,h.L⟩
def YW.VT (h:YW Q txt k tk root rr O_ a L s vb w)(e:∀y:Int,(a:Int)<=y->y<(a:Int)+(L:Int)->txt' y=txt y):YW Q txt' k tk root rr O_ a L s vb w:=by
 have h1:=h.L
 refine⟨h.o,h.ne,h.run,λj hj=>⟨(h.vs j hj).1.VT λy e1 e2=>?_,(h.vs j hj).2⟩,h.L⟩
 rw[Tv (h.vs j hj).2] at e2
 exact e y ω ω
theorem YW.q (h:YW Q txt k tk root rr O_ a L s vb w)(hs:Q'.s=Q.s)(hl:Q'.L.length=Q.L.length):YW Q' txt k tk root rr O_ a L s vb w:=
 ⟨h.o,h.ne,h.run,λj hj=>⟨(h.vs j hj).1.q hs hl,(h.vs j hj).2⟩,h.L⟩
theorem YW.wr {ys:List Nat}{j:Nat}(h:YW Q txt k tk root rr O_ a L s vb w)(hj:j<5)(hk:Kp S w w')(hS:∀b,O_ b->¬S b)(hv:Vn Q txt' (vb j) 4 (a+j) ys w')(hl:ys.length=(s.vec j).length)(ht:∀y:Int,y<((a+j:Nat):Int)\/((a+j:Nat):Int)+(Wf ys.length (512 / 4):Int)<=y->txt' y=txt y):YW Q txt' k tk root rr O_ a L (s.z3I j ys) vb w':=by
 have h5:=h.kp hk hS
 have hn:=(h.vs j hj).2
 rw[hl,Tv hn] at ht
 refine⟨h.o,h.ne,?_,λi hi=>?_,h.L⟩
 ·have:dmC (s.z3I j ys) k tk root vb=dmC s k tk root vb:=by
   unfold Rs.z3I;split<;>rfl
  rw[this];exact h5.run
 ·rw[zbM hi hj];by_cases e:i=j
  ·subst e;rw[if_pos O];exact⟨hv,by rw[hl];exact hn⟩
  ·rw[if_neg e];refine⟨(h5.vs i hi).1.VT λy e1 e2=>ht y ?_,(h5.vs i hi).2⟩;rw[Tv (h5.vs i hi).2] at e2;omega
theorem YW.put (h:YW Q txt k tk root rr O_ a L s vb w)(hk:Kp (λb=>b=rr) w w')(hr:OE w' rr (dmC s' k tk root vb) 103)(hv:∀j,j<5->s'.vec j=s.vec j):YW Q txt k tk root rr O_ a L s' vb w':=
 ⟨h.o,h.ne,hr,λj hj=>by
  rw[hv j hj]
  exact⟨(h.vs j hj).1.kp hk (λe=>(h.ne j hj).1 e.symm),(h.vs j hj).2⟩,h.L⟩
end
def UQ (tk root:Nat):RuK Rs where
 M Q txt k rr O_ a L s w:=∃vb,YW Q txt k tk root rr O_ a L s vb w
 tm s:=s.steps
 c0:=0
 c1:=0
 kp:=λ⟨vb,h⟩ hk hS=>⟨vb,h.kp hk hS⟩
 VT:=λ⟨vb,h⟩ e=>⟨vb,h.VT e⟩
 q:=λ⟨vb,h⟩ hs hl=>⟨vb,h.q hs hl⟩
section
variable {G T:Xv}{w w':World}{Q:QY}{txt txt':Int->Ov}{K K':Nat}{X O_:Nat->Prop}{rr a L root:Nat}{vb:Nat->Nat}{s:Rs}{ys:List Nat}
def Ri.dm (h:Ri (UQ T.k root) G T Q txt K X rr O_ a L s w):∃vb,YW Q txt G.k T.k root rr O_ a L s vb w:=h.m.m
theorem YW.cells (h:YW Q txt G.k T.k root rr O_ a L s vb w):OE w rr [I (s.steps:Int),I (s.fin:Int),I (s.OO:Int),.bool s.QR,.bool s.done,ptr G.k 0,ptr T.k 0,I (root:Int),ptr (vb 0) 0,ptr (vb 1) 0,ptr (vb 2) 0,ptr (vb 3) 0,ptr (vb 4) 0,.bool false,.bool false] 103:=h.run
def zgI (gk root:Nat):RuK Rs where
 M Q txt k rr O_ a L s w:=∃vb,YW Q txt gk k root rr O_ a L s vb w
 tm s:=s.steps
 c0:=0
 c1:=0
 kp:=λ⟨vb,h⟩ hk hS=>⟨vb,h.kp hk hS⟩
 VT:=λ⟨vb,h⟩ e=>⟨vb,h.VT e⟩
 q:=λ⟨vb,h⟩ hs hl=>⟨vb,h.q hs hl⟩
theorem Ri.z7H (h:Ri (UQ T.k root) G T Q txt K X rr O_ a L s w)(hn:T.g.length<=40):Ri (zgI G.k root) T G Q txt K X rr O_ a L s w:=by
 obtain⟨vb,hv⟩:=h.dm
 have hx:=h.xk
 have br:=h.m.ne
 exact⟨⟨h.t,⟨vb,hv⟩,λb hb=> .inl (h.xr b hb),h.m.ro,λb hb=>⟨(h.nk b hb).1,(h.nk b hb).2,(br b hb).2.2.1,(br b hb).2.2.2⟩,h.UK,hn⟩,h.m.g,h.xr,⟨hx.2.2.1,hx.2.2.2.1,hx.1,hx.2.1,hx.2.2.2.2.1,hx.2.2.2.2.2⟩,λb hb=>⟨(br b hb).1,(br b hb).2.1⟩,h.m.UK⟩
theorem Ri.zdW (h:Ri (zgI G.k root) T G Q txt K X rr O_ a L s w)(hn:G.g.length<=40):Ri (UQ T.k root) G T Q txt K X rr O_ a L s w:=by
 obtain⟨vb,hv⟩:∃vb,YW Q txt G.k T.k root rr O_ a L s vb w:=h.m.m
 have hx:=h.xk
 have br:=h.m.ne
 exact⟨⟨h.t,⟨vb,hv⟩,λb hb=> .inl (h.xr b hb),h.m.ro,λb hb=>⟨(h.nk b hb).1,(h.nk b hb).2,(br b hb).2.2.1,(br b hb).2.2.2⟩,h.UK,hn⟩,h.m.g,h.xr,⟨hx.2.2.1,hx.2.2.2.1,hx.1,hx.2.1,hx.2.2.2.2.1,hx.2.2.2.2.2⟩,λb hb=>⟨(br b hb).1,(br b hb).2.1⟩,h.m.UK⟩
def Ri.z1s {j:Nat}(h:Ri (UQ T.k root) G T Q txt K X rr O_ a L s w)(hV:YW Q txt G.k T.k root rr O_ a L s vb w)(hj:j<5)(hl:ys.length=(s.vec j).length)(hK:K'<1000000000000)(hW:VcW Q txt K' (YH G T X) (vb j) 4 (a+j) ys w w'):∃txt',Ri (UQ T.k root) G T Q txt' K' X rr O_ a L (s.z3I j ys) w'/\YW Q txt' G.k T.k root rr O_ a L (s.z3I j ys) vb w'/\(∀y:Int,y<(a:Int)\/(a:Int)+(L:Int)<=y->txt' y=txt y)/\Kp (λb=>¬YH G T X b) w w':=by
 obtain⟨txt',hP,hv,hy,hk⟩:=hW
 have IB:=hV.wr hj hk (λb hb e=>e (.inl (.inl (h.xr b hb)))) hv hl hy
 have hL:=hV.L
 have hn:=(hV.vs j hj).2
 have IC:∀y:Int,y<(a:Int)\/(a:Int)+(L:Int)<=y->txt' y=txt y:=λy e=>hy y (by rw[Tv ω];omega)
 exact⟨txt',h.Zb hK hk (λb e=> .inl e) hP IC ⟨vb,IB⟩,IB,IC,hk⟩
def SI (w:World):P9 prog 42 [I 0] w λ_ w'=>w'=w:=by
 refine py (e:=[(0,_)]) func42 O ntmps42 O O$ P7 O$ Ql O$ PX O$ PQ func42 O ?_
 exact⟨_,rfl,rfl⟩
theorem Zw (h:Ri (UQ T.k root) G T Q txt K X rr O_ a L s w):P9 prog 45 [ptr rr 0] w λr w'=>r=I 0/\w'=w:=by
 obtain⟨vb,hV⟩:=h.dm
 have hR:=hV.cells
 refine py (e:=[(0,_)]) func45 O ntmps45 O O$ QB O$ Qt$ P7 O$ qV (PU U44 O O)$ OK O$ Ox O$ P7 O$ Pb O$ OL zbJ O$ qV (OB U4 O O hR O)$ OX O$ Pb O$ OL z2w O ?_
 refine qV (OB U4 O O hR O)$ PC O$ OK O$ T2 O$ Om$ QB O$ Oo func45 O ?_
 exact⟨_,rfl,rfl,rfl⟩
def YW.zbu (h:YW Q txt G.k T.k root rr O_ a L s vb w){j:Nat}(hj:j<5):w.cell? ⟨rr,0+8+j*1,none⟩=some (ptr (vb j) 0):=by
 rw[h.cells.cell]
 obtain rfl|rfl|rfl|rfl|rfl:j=0\/j=1\/j=2\/j=3\/j=4:=by omega
 all_goals rfl
theorem RS (h:Ri (UQ T.k root) G T Q txt K X rr O_ a L s w){j i x:Nat}(hj:j<5)(hi:(s.vec j)[i]? =some x):P9 prog 115 [ptr rr 0,I (j:Int),I (i:Int)] w λr w'=>r=I (x:Int)/\Ri (UQ T.k root) G T Q txt K X rr O_ a L s w'/\Kp (λb=>¬YH G T X b) w w':=by
 obtain⟨vb,hV⟩:=h.dm
 have hc:=hV.zbu hj
 have hx:=((hV.vs j hj).1.zez hi).1
 refine py (e:=[(0,_),(1,_),(2,_)]) func115 O ntmps115 O O$ qN O$ QL O$ OX O$ Pb O$ OL Vu O$ qV (yia z3B Zm O O ω)$ qV (Pc z4M O O hc)$ OC O$ OQ zg2 O (z1U h.sp h.lt h.m.g.z8u (hV.vs j hj).1 (.inl (.inl (h.xr _ (hV.o.2 j hj)))) hi) ?_
 rintro _ w1 ⟨rfl,md,aG⟩
 refine OC O$ Sw O$ Si O$ QO O$ OQ z6A O (SI _) ?_
 rintro _ w1 rfl
 refine qM O$ OC O$ qV (Ps O R7 U3 ω)$ OK O$ Oo func115 O ?_
 exact⟨_,rfl,rfl,h.read aG md,aG⟩
theorem SZ (h:Ri (UQ T.k root) G T Q txt K X rr O_ a L s w){j i x:Nat}(hK:K<=900000000000)(hj:j<5)(hi:i<(s.vec j).length)(hx:x<4294967296):P9 prog 80 [ptr rr 0,I (j:Int),I (i:Int),I (x:Int)] w λ_ w'=>∃txt',Ri (UQ T.k root) G T Q txt' (K+1) X rr O_ a L (s.z3I j ((s.vec j).set i x)) w'/\(∀y:Int,y<(a:Int)\/(a:Int)+(L:Int)<=y->txt' y=txt y)/\Kp (λb=>¬YH G T X b) w w':=by
 obtain⟨vb,hV⟩:=h.dm
 have hc:=hV.zbu hj
 refine py (e:=[(0,_),(1,_),(2,_),(3,_)]) func80 O ntmps80 O O$ Oz O$ OX O$ Pb O$ OL Vu O$ qV (yia z3B Zm O O ω)$ qV (Pc z4M O O hc)$ OX O$ qV ((PO O U3 R7 ω))$ OQ zgL O (z9d h.sp h.lt h.m.g.z8u (hV.vs j hj).1 (.inl (.inl (h.xr _ (hV.o.2 j hj)))) hi (x:=x) (by show x<2^32;omega)) ?_
 rintro _ w1 ⟨rfl,hW⟩
 obtain⟨txt1,h1,-,pW,aG⟩:=h.z1s hV hj (List.length_set ..) ω hW
 refine OQ z6A O (SI _) ?_
 rintro _ w1 rfl
 refine Oq$ PQ func80 O ?_
 exact⟨_,rfl,txt1,h1,pW,aG⟩
end
section
variable {σ:Type}{R:RuK σ}{G T:Xv}{w w':World}{Q:QY}{txt txt':Int->Ov}{K K':Nat}{X Y O_:Nat->Prop}{rr a L:Nat}{s s':σ}
def z27 {l bk bi v:Nat}(hv:v<G.g.length)(h:Ri R G T Q txt K X rr O_ a L s w)(fK:OE w bk [ptr G.k 0] 28)(rR:OE w bi [I (v:Int)] 3)(Z:Nat->Prop)(hZ:∀j,Z j->X j)
  (E:Nat->(Int->Ov)->Nat->σ->World->Prop) (F:(Int->Ov)->Nat->σ->World->Prop)
  (h0:∀w',w.heap.size<=w'.heap.size->Kp (λb=>¬X b) w w'->E 0 txt K s w')
  (hround:∀(Y:Nat->Prop) (i u:Nat) (txt':Int->Ov) (K':Nat) (s':σ) (w':World),(∀j,X j->Y j)->(∀j,Y j->X j\/w.heap.size<=j)->w.heap.size<=w'.heap.size->(OG G.g v)[i]? =some u->Ri R G T Q txt' K' Y rr O_ a L s' w'->E i txt' K' s' w'->z0W prog l [Pn u,I 0] w' λr w''=>((r= .bool true/\∃txt'' K'' s'',Ri R G T Q txt'' K'' Y rr O_ a L s'' w''/\E (i+1) txt'' K'' s'' w'')\/(r= .bool false/\∃txt'' K'' s'',Ri R G T Q txt'' K'' Y rr O_ a L s'' w''/\F txt'' K'' s'' w''))/\Kp (λj=>(¬Y j/\j≠T.rb)\/Z j) w' w''):
  P9 prog 152 [.func (.yield l) #[] #[],ptr bk 0,ptr bi 0] w λr w'=>r= .tuple #[]/\∃(Y:Nat->Prop) (txt':Int->Ov) (K':Nat) (s':σ),(∀j,X j->Y j)/\(∀j,Y j->X j\/w.heap.size<=j)/\Ri R G T Q txt' K' Y rr O_ a L s' w'/\(E (OG G.g v).length txt' K' s' w'\/F txt' K' s' w'):=by
 have dS:=h.m.n
 obtain⟨n1,n2,n3⟩:=h.ng
 have bN:∀b,X b->b<w.heap.size:=λb hb=>h.lt b (.inl (.inl hb))
 have qs:=h.lt T.rb (.inl (.inr O))
 have tA:∀j,X j->j≠T.rb:=λj hj e=>n3 (e▸hj)
 refine P9.mono (z5y ω hv h.m.g fK rR Z (λj hj=> .inl (hZ j hj))
  (λYg i w'=>w.heap.size<=w'.heap.size/\∃txt' K' s',Ri R G T Q txt' K' (λb=>Yg b/\b≠T.rb) rr O_ a L s' w'/\E i txt' K' s' w')
  (λw'=>∃Y txt' K' s',(∀j,X j->Y j)/\(∀j,Y j->X j\/w.heap.size<=j)/\Ri R G T Q txt' K' Y rr O_ a L s' w'/\F txt' K' s' w') ?_ ?_) ?_
 ·intro Yg w7 aM kr FZ ax
  have Gc:Sz G Q txt K (λb=>(Yg b/\b≠T.rb)\/b=T.rb) w7:=FZ.iff λb=>by
   by_cases e:b=T.rb
   ·exact⟨λ_=> .inr e,λ_=>aM _ (.inr e)⟩
   ·exact⟨λhb=> .inl ⟨hb,e⟩,λhb=>hb.elim And.left λe2=>absurd e2 e⟩
  refine⟨ax.size,txt,K,s,?_,h0 w7 ax.size (ax.OA λb e e2=>e (.inl e2))⟩;refine h.byG (h.m.list Gc ax λj e=>e.elim (λe=> .inl ⟨aM _ (.inl e),tA j e⟩) .inr) ax (λb e=> .inl ⟨λe2=>e (.inl e2),λe2=>e (.inr e2)⟩) (λj hj=>⟨aM _ (.inl hj),tA j hj⟩) (λj hj=>?_)$ λ_ _=>rfl;rcases kr j hj.1 with(e|e)| e
  ·exact .inl e
  ·exact absurd e hj.2
  ·exact .inr e
 ·rintro Yg i u w7 aM kr hs ⟨z7,txt7,K7,s7,h7,MI⟩;obtain⟨Y,hY⟩:∃Y:Nat->Prop,(λb=>Yg b/\b≠T.rb)=Y:=⟨_,rfl⟩;rw[hY] at h7⊢;have A7:∀j,X j->Y j:=λj hj=>by rw[<-hY];exact⟨aM _ (.inl hj),tA j hj⟩
  have A8:∀j,Y j->X j\/w.heap.size<=j:=λj hj=>by
   rw[<-hY] at hj;rcases kr j hj.1 with(e|e)| e
   ·exact .inl e
   ·exact absurd e hj.2
   ·exact .inr e
  refine z0W.mono (hround Y i u txt7 K7 s7 w7 A7 A8 z7 hs h7 MI) ?_;rintro r w8 ⟨⟨rfl,txt8,K8,s8,h8,rx⟩|⟨rfl,txt8,K8,s8,h8,Gd⟩,aP⟩
  ·have hz:=aP.size;refine .inl ⟨rfl,⟨ω,txt8,K8,s8,h8,rx⟩,aP.OA λj e=>e.imp (λe e2=>e.1 (by rw[<-hY];exact⟨e2,e.2⟩)) id⟩
  ·exact .inr ⟨rfl,Y,txt8,K8,s8,A7,A8,h8,Gd⟩
 ·rintro r w8 ⟨rfl,⟨Yg,aM,kr,-,txt8,K8,s8,h8,rx⟩|⟨Y,txt8,K8,s8,aM,kr,h8,Gd⟩⟩
  ·refine⟨rfl,_,txt8,K8,s8,λj hj=>⟨aM _ (.inl hj),tA j hj⟩,λj hj=>?_,h8,.inl rx⟩;rcases kr j hj.1 with(e|e)| e
   ·exact .inl e
   ·exact absurd e hj.2
   ·exact .inr e
  ·exact⟨rfl,Y,txt8,K8,s8,aM,kr,h8,.inr Gd⟩
end
section
variable {G T:Xv}{w w':World}{Q:QY}{txt txt':Int->Ov}{K K':Nat}{X O_:Nat->Prop}{rr a L root v:Nat}{vb:Nat->Nat}{s s':Rs}
structure DmW (G T:Xv)(Q:QY)(txt:Int->Ov)(K:Nat)(X:Nat->Prop)(rr root:Nat)(O_:Nat->Prop)(a L n:Nat)(s:Rs)(w w':World):Prop where
 ex:∃txt' K',Ri (UQ T.k root) G T Q txt' K' X rr O_ a L s w'/\K'<=K+n/\∀y:Int,y<(a:Int)\/(a:Int)+(L:Int)<=y->txt' y=txt y
 k:Kp (λb=>¬X b\/O_ b) w w'
def Ri.za8 (h:Ri (UQ T.k root) G T Q txt K X rr O_ a L s w)(hV:YW Q txt G.k T.k root rr O_ a L s vb w)(hk:Kp (λb=>b=rr) w w')(hr:OE w' rr (dmC s' G.k T.k root vb) 103)(hv:∀j,j<5->s'.vec j=s.vec j):Ri (UQ T.k root) G T Q txt K X rr O_ a L s' w':=
 h.set hk (λb e=>by rw[e];exact hV.o.1) ⟨vb,hV.put hk hr hv⟩
theorem z0G (h:Ri (UQ T.k root) G T Q txt K X rr O_ a L s w)(hK:K<=800000000000)(hv:v<s.num.length/\v<s.looked.length)(hh:s.OO<s.Uu.length):P9 prog 44 [ptr rr 0,I (v:Int)] w λ_ w'=>DmW G T Q txt K X rr root O_ a L 3 (s.push v) w w':=by
 obtain⟨vb0,ID⟩:=h.dm
 have IE:v<100:=by have:=(ID.vs 0 ψ).2;have e:(s.vec 0).length=s.num.length:=rfl;omega
 have IF:s.OO<100:=by have:=(ID.vs 3 ψ).2;have e:(s.vec 3).length=s.Uu.length:=rfl;omega
 refine py (e:=[(0,_),(1,_)]) func44 O ntmps44 O O$ Qh O$ OQ z3V O (SZ h ω (j:=0) (i:=v) (x:=4294967294) ψ hv.1 ψ) ?_
 rintro _ w1 ⟨txt1,h1,pW,aG⟩
 refine qM O$ OX O$ OQ z3V O (SZ h1 ω (j:=1) (i:=v) (x:=0) ψ hv.2 ψ) ?_
 rintro _ w2 ⟨txt2,h2,gt,am⟩
 obtain⟨vb2,qt⟩:=h2.dm
 have cJ:=qt.cells
 replace cJ:OE w2 rr [I (s.steps:Int),I (s.fin:Int),I (s.OO:Int),.bool s.QR,.bool s.done,ptr G.k 0,ptr T.k 0,I (root:Int),ptr (vb2 0) 0,ptr (vb2 1) 0,ptr (vb2 2) 0,ptr (vb2 3) 0,ptr (vb2 4) 0,.bool false,.bool false] 103:=cJ
 refine qM O$ OX O$ Pb O$ OL QV O$ OL W4 O$ qV (OB U3 O O cJ O)$ OC O$ OQ z3V O (SZ h2 ω (j:=3) (i:=s.OO) (x:=v) ψ hh ω) ?_
 rintro _ w3 ⟨txt3,h3,qp,ar⟩
 obtain⟨vb3,A9⟩:=h3.dm
 have iz:=A9.cells
 replace iz:OE w3 rr [I (s.steps:Int),I (s.fin:Int),I (s.OO:Int),.bool s.QR,.bool s.done,ptr G.k 0,ptr T.k 0,I (root:Int),ptr (vb3 0) 0,ptr (vb3 1) 0,ptr (vb3 2) 0,ptr (vb3 3) 0,ptr (vb3 4) 0,.bool false,.bool false] 103:=iz
 refine Oq$ R0 O$ Pb O$ OL QV O$ OL W4 O$ qV (OB U3 O O iz O)$ PL O$ Pb O$ OL QV O$ OL W4 O$ OJ O (Qw PH O O O iz ξ) ?_
 rintro w4 ⟨dW,aq⟩
 have h4:=h3.za8 (s':=s.push v) A9 aq dW (λj hj=>by
  obtain rfl|rfl|rfl|rfl|rfl:j=0\/j=1\/j=2\/j=3\/j=4:=by omega
  all_goals rfl)
 refine Oq$ P8.qb (e:=[]) ?_
 refine PQ func44 O ?_
 exact⟨_,rfl,⟨txt3,K+1+1+1,h4,ω,λy e=>((qp y e).trans (gt y e)).trans (pW y e)⟩,(((aG.trans am).trans ar).OA λb e=> .inl λe2=>e (.inl (.inl e2))).trans (aq.OA λb e=> .inr (by rw[e];exact A9.o.1))⟩
end
section
variable {G T:Xv}{w w':World}{Q:QY}{txt txt':Int->Ov}{K K':Nat}{X Y O_:Nat->Prop}{rr a L root v k:Nat}{vb:Nat->Nat}{s s':Rs}
def nxR (g:List (List Nat))(s:Rs)(v:Nat):Value:=match(OG g v)[s.looked.getD v 0]? with
 |none=> .tuple #[I 0,.bool false]
 |some u=> .tuple #[I (u:Int),.bool true]
def nxS (g:List (List Nat))(s:Rs)(v:Nat):Rs:=match(OG g v)[s.looked.getD v 0]? with
 |none=>s
 |some _=>s.look v
theorem z6t (h:Ri (UQ T.k root) G T Q txt K X rr O_ a L s w)(hK:K<=800000000000)(hv:v<G.g.length)(ya:s.looked.length=G.g.length)(Ge:s.looked.getD v 0<=(OG G.g v).length):P9 prog 118 [ptr rr 0,I (v:Int)] w λr w'=>r=nxR G.g s v/\∃txt' K',Ri (UQ T.k root) G T Q txt' K' X rr O_ a L (nxS G.g s v) w'/\K'<=K+1/\(∀y:Int,y<(a:Int)\/(a:Int)+(L:Int)<=y->txt' y=txt y)/\Kp (λb=>¬X b) w w':=by
 have bN:∀b,X b->b<w.heap.size:=λb hb=>h.lt b (.inl (.inl hb))
 have cx:=h.far
 obtain⟨n1,n2,n3⟩:=h.ng
 have qs:=h.lt T.rb (.inl (.inr O))
 have dS:=h.m.n
 have eK:=h.m.g.ok.gr
 obtain⟨vb,hV⟩:=h.dm
 have hR:=hV.cells
 have uF:=h.xr _ hV.o.1
 obtain⟨k,hk⟩:∃k,s.looked[v]? =some k:=⟨_,List.getElem?_eq_getElem ω⟩
 have bX:s.looked.getD v 0=k:=Wu hk
 have gG:(OG G.g v).length<=G.g.length:=eK.len (List.mem_of_getElem? (show G.g[v]? =some (OG G.g v) by unfold OG;rw[List.getElem?_eq_getElem hv];rfl))
 have ad:nxR G.g s v=match(OG G.g v)[k]? with|none=> .tuple #[I 0,.bool false]|some u=> .tuple #[I (u:Int),.bool true]:=by unfold nxR;rw[bX]
 have ae:nxS G.g s v=match(OG G.g v)[k]? with|none=>s|some _=>s.look v:=by unfold nxS;rw[bX]
 rw[ad,ae]
 rw[bX] at Ge
 refine py (e:=[(0,_),(1,_)]) func118 O ntmps118 O O$ qN O$ Oy O O (R9 O (cs:=[ptr rr 0]) O) ?_
 rintro _ w1 ⟨b2,rfl,bP,pa,ah⟩
 refine Oy O O (R9 O (cs:=[I (v:Int)]) O) ?_
 rintro _ w2 ⟨b3,rfl,dY,uG,ak⟩
 refine Oy O O (Rq (cs:=[_]) PH O) ?_
 rintro _ w3 ⟨b4,rfl,gF,Aa,ao⟩
 refine Oy O O (Rq (cs:=[_]) US O) ?_
 rintro _ w4 ⟨b5,rfl,fR,uH,aH⟩
 replace ao:OE w3 b4 [I 0] 3:=ao
 replace aH:OE w4 b5 [.bool false] 4:=aH
 have z1:=pa.size
 have z2:=uG.size
 have z3:=Aa.size
 have z4:=uH.size
 have l1:=ah.lt
 have l2:=ak.lt
 have l3:=ao.lt
 have l4:=aH.lt
 have cD:=Aa.trans uH
 have bQ:=(pa.trans uG).trans cD
 have cm:=cD.On (uG.On ah)
 have eA:=cD.On ak
 have dl:=uH.On ao
 have h4:=h.ext bQ
 refine qM O$ qV ((OB U44 O O cm O))$ qV ((OB U3 O O eA O)) ?_
 obtain⟨X0,ol⟩:∃X0:Nat->Prop,(λj=>X j\/j=b2\/j=b3\/j=b4\/j=b5)=X0:=⟨_,rfl⟩
 have Bv:∀j,X j->X0 j:=λj hj=>by rw[<-ol];exact .inl hj
 have dh:X0 b2/\X0 b3/\X0 b4/\X0 b5:=by rw[<-ol];exact⟨.inr (.inl O),.inr (.inr (.inl O)),.inr (.inr (.inr (.inl O))),.inr (.inr (.inr (.inr O)))⟩
 have rT:Ri (UQ T.k root) G T Q txt K X0 rr O_ a L s w4:=h.grow bQ (λj hj=>by rw[<-ol] at hj;exact hj.imp id λe=>by omega) Bv
 refine OQ Xj O (RS rT (j:=1) ψ hk) ?_
 rintro _ w5 ⟨rfl,h5,ai⟩
 have oQ:∀{j},X0 j->¬¬YH G T X0 j:=λhj e=>e (.inl (.inl hj))
 have dF:=ai.On cm (oQ dh.1)
 have dj:=ai.On eA (oQ dh.2.1)
 have cK:=ai.On dl (oQ dh.2.2.1)
 have aI:=ai.On aH (oQ dh.2.2.2)
 have gW:=ai.On (bQ.On hR) (oQ (Bv _ uF))
 have z5:=ai.size
 refine Oy O O (Rq (cs:=[_]) PH O) ?_
 rintro _ w6 ⟨b6,rfl,oD,aQ,aT⟩
 refine OJ O (Qw PH O O O aT ξ) ?_
 rintro w7 ⟨ji,ax⟩
 replace ji:OE w7 b6 [I (k:Int)] 3:=ji
 have z6:=aQ.size
 have z7:=ax.size
 have l6:=aT.lt
 refine qM O$ Oy O O (Rq (cs:=[_]) PH O) ?_
 rintro _ w8 ⟨b7,rfl,kF,cz,bY⟩
 refine OJ O (Qw PH O O O bY ξ) ?_
 rintro w9 ⟨je,aK⟩
 replace je:OE w9 b7 [I 0] 3:=je
 have z8:=cz.size
 have z9:=aK.size
 have l8:=bY.lt
 have mh:Ext w5 w9:=((aQ.It ax λb e=>by omega).trans cz).It aK λb e=>by omega
 have Gf:=mh.On dF
 have u5:=mh.On dj
 have tZ:=mh.On cK
 have bH:=mh.On aI
 have qI:=mh.On gW
 have iB:=aK.On (cz.On ji) ω
 have hg:=Ext.OT w9
 refine Oq$ An$ An$ R8 (λw'=>Ext w9 w') O$ qT 0 O (λ_ h=>(OB U44 O O (h.On Gf) O)) hg$ Ow 1 O (Q8 O) hg$ Ow 2 O (Pk z2p O) hg$ qT 3 O (λ_ h=>(OB U28 O O (h.On qI) O)) hg$ qT 4 O (λ_ h=>(OB U3 O O (h.On u5) O)) hg$ SH 5 O zdi O (z0C G.k v _) ?_
 rintro _ wa ⟨bk,bi,rfl,pT,vS,fK,rR,Ab⟩
 refine⟨hg.trans Ab,?_⟩
 have Bw:=hg.trans Ab
 have za:=Bw.size
 have zg:=hg.size
 have lk:=pT.lt
 have li:=vS.lt
 refine qE$ Ou$ SF (ps:=[19,20]) (p:=[]) (q:=[_,_]) O zdc ?_
 rintro l wl dT fx cH hD Rc cE dZ
 have zl:=dT.size
 have eW:Ext w5 wl:=(mh.trans Bw).trans dT
 obtain⟨X1,eX⟩:∃X1:Nat->Prop,(λj=>X0 j\/j=b6\/j=b7\/j=wa.heap.size\/j=l)=X1:=⟨_,rfl⟩
 have fd:∀j,X0 j->X1 j:=λj hj=>by rw[<-eX];exact .inl hj
 have aO:X1 b6/\X1 b7/\X1 wa.heap.size/\X1 l:=by rw[<-eX];exact⟨.inr (.inl O),.inr (.inr (.inl O)),.inr (.inr (.inr (.inl O))),.inr (.inr (.inr (.inr O)))⟩
 have eP:∀j,X j->X1 j:=λj hj=>fd j (Bv j hj)
 have fj:∀j,w.heap.size<=j->¬O_ j:=λj hj=>(cx j hj).2.2.2.2.2.2
 have Gg:Ri (UQ T.k root) G T Q txt K X1 rr O_ a L s wl:=h5.grow eW (λj hj=>by rw[<-eX] at hj;exact hj.imp id λe=>by omega) fd
 have m8:Kp (λb=>¬X b) w wl:=(bQ.kp.trans (ai.OA λb e e2=>e (.inl (.inl (Bv b e2))))).trans eW.kp
 have Gh:=eW.On dF
 have Gi:=eW.On dj
 have Gj:=eW.On cK
 have Gk:=eW.On aI
 have Gl:=(Bw.trans dT).On iB
 have Gm:=(Bw.trans dT).On je
 refine P9.mono (z27 hv Gg (dT.On pT) (dT.On vS) (λj=>j=l\/j=b4\/j=b5\/j=b7) (λj hj=>by
   rcases hj with rfl|rfl|rfl|rfl
   ·exact aO.2.2.2
   ·exact fd _ dh.2.2.1
   ·exact fd _ dh.2.2.2
   ·exact aO.2.1)
  (λi txt' K' s' w'=>Rc .ready none w'/\txt'=txt/\K'=K/\s'=s/\i<=k/\w'.heap[wa.heap.size]? =some (.deferred (some []))/\(OE w' b2 [ptr rr 0] 44/\OE w' b3 [I (v:Int)] 3/\OE w' b4 [I 0] 3/\OE w' b5 [.bool false] 4/\OE w' b6 [I (k:Int)] 3/\OE w' b7 [I (i:Int)] 3)/\Kp (λb=>¬X b) w w')
  (λtxt' K' s' w'=>Rc .done (some .ret) w'/\s'=s.look v/\K'<=K+1/\(∀y:Int,y<(a:Int)\/(a:Int)+(L:Int)<=y->txt' y=txt y)/\(∃u,(OG G.g v)[k]? =some u/\OE w' b4 [I (u:Int)] 3)/\w'.heap[wa.heap.size]? =some (.deferred (some []))/\OE w' b5 [.bool true] 4/\Kp (λb=>¬X b) w w')
  ?_ ?_) ?_
 ·intro w7 hz eC;have ce:∀{j},X1 j->¬¬X1 j:=λhj e=>e hj;exact⟨eC.rc cE dZ (ce aO.2.2.2),rfl,rfl,rfl,Nat.zero_le _,eC.heap hD (ce aO.2.2.1),⟨eC.On Gh (ce (fd _ dh.1)),eC.On Gi (ce (fd _ dh.2.1)),eC.On Gj (ce (fd _ dh.2.2.1)),eC.On Gk (ce (fd _ dh.2.2.2)),eC.On Gl (ce aO.1),eC.On Gm (ce aO.2.1)⟩,m8.trans (eC.OA λb e e2=>e (eP b e2))⟩
 ·rintro Y i u txt' K' s' w7 aM kr z7' hs h7 ⟨Ac,rfl,rfl,rfl,MJ,Gn,⟨IG,IH,Ad,kw,II,IJ⟩,mM⟩;have dB:Y l/\Y b4/\Y b5/\Y b7/\Y b2/\Y b3/\Y b6/\Y wa.heap.size:=⟨aM _ aO.2.2.2,aM _ (fd _ dh.2.2.1),aM _ (fd _ dh.2.2.2),aM _ aO.2.1,aM _ (fd _ dh.1),aM _ (fd _ dh.2.1),aM _ aO.1,aM _ aO.2.2.1⟩;have ky:∀j,X j->Y j:=λj hj=>aM j (eP j hj);have oc:u<G.g.length:=T5 eK v u (List.mem_of_getElem? hs);refine TA cE Ac O O$ QB O$ Oz O$ OK O$ run_beginRound O cE Ac ?_;rintro w8' vN aP;have h8:=h7.own aP (λj e=>by subst e;exact⟨dB.1,cx _ ω⟩);have Ae:=aP.On IG ω;have Af:=aP.On IH ω;have Ag:=aP.On Ad ω;have qu:=aP.On kw ω;have uI:=aP.On II ω;have uJ:=aP.On IJ ω;have Bx:=aP.heap Gn ω;have z8':=aP.size;have iY:Kp (λb=>¬X b) w w8':=mM.trans (aP.OA λj e e2=>by have:=bN j e2;omega);refine Ou$ P7 O$ OQ z6A O (SI _) ?_;rintro _ w8' rfl;refine Oq$ An$ qN O$ qV ((OB U3 O O uJ O))$ qV ((OB U3 O O uI O)) ?_;by_cases Gp:i=k
  ·subst Gp
   have Ah:s'.look v=s'.z3I 1 ((s'.vec 1).set v (i+1)):=by
    unfold Rs.look;rw[bX];rfl
   refine QS O$ Rf$ Oq$ P8.qb (e:=[(2,_),(3,_),(4,_),(5,_),(6,_),(7,_),(8,_),(25,_)]) ?_;refine OI O (qN O (qV ((OB U44 O O Ae O)) (qV ((OB U3 O O Af O)) (qV ((OB U3 O O uI O)) (PL O (OQ z3V O (SZ h8 ω (j:=1) (i:=v) (x:=i+1) ψ (by show v<s'.looked.length;omega) ω) ?_))))));rintro _ w9' ⟨txt9,h9,G6,dy⟩;have kz:∀{j},Y j->¬¬YH G T Y j:=λhj e=>e (.inl (.inl hj));have Gq:=dy.On Ag (kz dB.2.1);have kA:=dy.On qu (kz dB.2.2.1);have uK:=dy.rc cE vN (kz dB.1);have Ai:=dy.heap Bx (kz dB.2.2.2.2.2.2.2);have iK:Kp (λb=>¬X b) w w9':=iY.trans (dy.OA λb e e2=>e (.inl (.inl (ky b e2))));have oo:Kp (λb=>(¬Y b/\b≠T.rb)\/b=l\/b=b4\/b=b5\/b=b7) w7 w9':=(aP.OA λj e=> .inr (.inl e)).trans (dy.OA λj e=> .inl ⟨λe2=>e (.inl (.inl e2)),λe2=>e (.inl (.inr e2))⟩);have z9':=dy.size;refine qM O (OC O (qV (Ps O QA U3 ω) (OJ O (Qw PH O O O Gq ξ) ?_)));rintro wa' ⟨Gs,bD⟩;have oq:=bD.On kA ω;refine OJ O (Qw US O O O oq ξ) ?_;rintro wb' ⟨uL,cS⟩;have Gt:=cS.On Gs ω;have oE:=(h9.own bD (λj e=>by subst e;exact⟨dB.2.1,cx _ ω⟩)).own cS (λj e=>by subst e;exact⟨dB.2.2.1,cx _ ω⟩);have xK:=cS.rc cE (bD.rc cE uK ω) ω;have MK:=cS.heap (bD.heap Ai ω) ω;refine Oq$ VA cE xK ?_;intro wd jd bX;rw[<-Ah] at oE;exact⟨.inr ⟨rfl,txt9,K'+1,s'.look v,oE.own bX (λj e=>by subst e;exact⟨dB.1,cx _ ω⟩),jd,rfl,Nat.le_refl _,G6,⟨u,hs,bX.On Gt ω⟩,bX.heap MK ω,bX.On uL ω,((iK.trans (bD.OA λj e e2=>by have:=bN j e2;omega)).trans (cS.OA λj e e2=>by have:=bN j e2;omega)).trans (bX.OA λj e e2=>by have:=bN j e2;omega)⟩,((oo.trans (bD.OA λj e=> .inr (.inr (.inl e)))).trans (cS.OA λj e=> .inr (.inr (.inr (.inl e))))).trans (bX.OA λj e=> .inr (.inl e))⟩
  ·refine QS O$ Pu$ Oq$ P8.qb (e:=[(2,_),(3,_),(4,_),(5,_),(6,_),(7,_),(8,_),(25,_)]) ?_;refine T2 O (Oz O (qV (OB U3 O O uJ O) (PL O (OJ O (Qw PH O O O uJ ξ) ?_))));rintro w9' ⟨Gu,dy⟩;have h9:=h8.own dy (λj e=>by subst e;exact⟨dB.2.2.2.1,cx _ ω⟩);have uK:=dy.rc cE vN ω;refine Oq$ Om$ Sf cE uK ?_;intro wd jd bX;exact⟨.inl ⟨rfl,txt',K',s',h9.own bX (λj e=>by subst e;exact⟨dB.1,cx _ ω⟩),jd,rfl,rfl,rfl,ω,bX.heap (dy.heap Bx ω) ω,⟨bX.On (dy.On Ae ω) ω,bX.On (dy.On Af ω) ω,bX.On (dy.On Ag ω) ω,bX.On (dy.On qu ω) ω,bX.On (dy.On uI ω) ω,bX.On Gu ω⟩,(iY.trans (dy.OA λj e e2=>by have:=bN j e2;omega)).trans (bX.OA λj e e2=>by have:=bN j e2;omega)⟩,((aP.OA λj e=> .inr (.inl e)).trans (dy.OA λj e=> .inr (.inr (.inr (.inr e))))).trans (bX.OA λj e=> .inr (.inl e))⟩
 ·rintro v' wz ⟨rfl,Y,txtz,Kz,sz,aM,kr,hz,⟨Aj,rfl,rfl,rfl,MJ,Ak,⟨IG,IH,Ad,kw,II,IJ⟩,dr⟩|⟨Aj,rfl,ML,pL,⟨u,hu,Ad⟩,Ak,kw,dr⟩⟩
  ·refine⟨_,_,Aj,ξ,λwy dR=>?_⟩;have zz:=dr.size;have zy:=dR.size;have uM:=dR.On Ad ω;have mj:=dR.On kw ω;have qa:=dR.heap Ak ω;rw[List.getElem?_eq_none ω];refine Om (qN O (OJ O (Qw PH O O O uM ξ) ?_));rintro wx ⟨Gv,kj⟩;have Gw:=kj.On mj ω;refine OJ O (Qw US O O O Gw ξ) ?_;rintro wv ⟨Gx,kk⟩;have Gy:=kk.On Gv ω;have MM:=kk.heap (kj.heap qa ω) ω;have eL:Kp (λk=>k=wa.heap.size) wv (So [.mk wa.heap.size] wv):=Qi wv wa.heap.size (.deferred none);have uN:=eL.On Gy ω;have uO:=eL.On Gx ω;have cC:Kp (λk=>k=l\/k=b4\/k=b5\/k=wa.heap.size) wz (So [.mk wa.heap.size] wv):=(((dR.OA λj e=> .inl e).trans (kj.OA λj e=> .inr (.inl e))).trans (kk.OA λj e=> .inr (.inr (.inl e)))).trans (eL.OA λj e=> .inr (.inr (.inr e)));refine Oq (Vj ξ (Wy MM) func118 (.cell1 U3 O O ((uN).cell _) (.cell1 U4 O O ((uO).cell _) .nil)) ?_);exact⟨_,rfl,rfl,txtz,Kz,(hz.own cC (λj e=>⟨by rcases e with rfl|rfl|rfl|rfl;exact aM _ aO.2.2.2;exact aM _ (fd _ dh.2.2.1);exact aM _ (fd _ dh.2.2.2);exact aM _ aO.2.2.1,cx j ω⟩)).less (λj hj=>aM j (eP j hj)) h.xk h.xr,Nat.le_add_right _ _,λ_ _=>rfl,dr.trans (cC.OA λj e e2=>by have:=bN j e2;omega)⟩
  ·refine⟨_,_,Aj,ξ,λwy dR=>?_⟩;have zz:=dr.size;have zy:=dR.size;have uM:=dR.On Ad ω;have mj:=dR.On kw ω;have qa:=dR.heap Ak ω;have eL:Kp (λk=>k=wa.heap.size) wy (So [.mk wa.heap.size] wy):=Qi wy wa.heap.size (.deferred none);have uN:=eL.On uM ω;have uO:=eL.On mj ω;have cC:Kp (λk=>k=l\/k=wa.heap.size) wz (So [.mk wa.heap.size] wy):=(dR.OA λj e=> .inl e).trans (eL.OA λj e=> .inr e);rw[hu];refine Vj ξ (Wy qa) func118 (.cell1 U3 O O ((uN).cell _) (.cell1 U4 O O ((uO).cell _) .nil)) ?_;exact⟨_,rfl,rfl,txtz,Kz,(hz.own cC (λj e=>⟨by rcases e with rfl|rfl;exact aM _ aO.2.2.2;exact aM _ aO.2.2.1,cx j ω⟩)).less (λj hj=>aM j (eP j hj)) h.xk h.xr,ML,pL,dr.trans (cC.OA λj e e2=>by have:=bN j e2;omega)⟩
end
section
variable {G T:Xv}{w w':World}{Q:QY}{txt:Int->Ov}{K:Nat}{X O_:Nat->Prop}{rr a L root v k:Nat}{vb:Nat->Nat}{s s':Rs}
def Y3 {s s':Rs}(h0:s'.num=s.num)(h1:s'.looked=s.looked)(h2:s'.cand=s.cand)(h3:s'.Uu=s.Uu)(h4:s'.ord=s.ord):∀j,j<5->s'.vec j=s.vec j:=λj hj=>by
 obtain rfl|rfl|rfl|rfl|rfl:j=0\/j=1\/j=2\/j=3\/j=4:=by omega
 ·exact h0
 ·exact h1
 ·exact h2
 ·exact h3
 ·exact h4
theorem z5U (h:Ri (UQ T.k root) G T Q txt K X rr O_ a L s w)(hI:WU G.g root s)(hh:0<s.OO)(hK:K<=700000000000):P9 prog 82 [ptr rr 0] w λ_ w'=>DmW G T Q txt K X rr root O_ a L 5 (s.move G.g) w w':=by
 have dS:=h.m.n
 have eK:=h.m.g.ok.gr
 have Oc:=hI.fh
 have rA:=hI.nn
 have ya:=hI.ln
 have j9:=hI.sn
 have vK:=hI.on
 obtain⟨vb,hV⟩:=h.dm
 have hR:=hV.cells
 obtain⟨v,hv⟩:∃v,s.Uu[s.OO-1]? =some v:=⟨_,List.getElem?_eq_getElem ω⟩
 have Al:s.Uu.getD (s.OO-1) 0=v:=Wu hv
 obtain⟨v1,v2⟩:=hI.st (s.OO-1) ω
 rw[Al] at v1 v2
 have Ge:=(hI.lk v v1 ω).1
 have vT:s.move G.g=match(OG G.g v)[s.looked.getD v 0]? with
  |none=>s.WW v
  |some u=>if s.num.getD u 0=4294967295 then(s.look v).push u else s.look v:=by
  unfold Rs.move;rw[Al]
  try (cases (OG G.g v)[s.looked.getD v 0]?<;>rfl)
 rw[vT]
 refine py (e:=[(0,_)]) func82 O ntmps82 O O$ Qh O$ Pb O$ OL QV O$ OL W4 O$ qV (OB U3 O O hR O)$ Ra O ?_
 rw[show(s.OO:Int)-1=((s.OO-1:Nat):Int) by omega]
 refine OQ Xj O (RS h (j:=3) ψ hv) ?_
 rintro _ w1 ⟨rfl,h1,aG⟩
 refine QL O$ OX O$ OQ zg9 O (z6t h1 ω v1 ya Ge) ?_
 rintro _ w2 ⟨rfl,txt2,K2,h2,sk,gt,am⟩
 have bj:Kp (λb=>¬X b\/O_ b) w w2:=(aG.OA λb e=> .inl λe2=>e (.inl (.inl e2))).trans (am.OA λb e=> .inl e)
 cases hc:(OG G.g v)[s.looked.getD v 0]? with
 | none =>
   have e1:nxR G.g s v= .tuple #[I 0,.bool false]:=by unfold nxR;rw[hc]
   have e2:nxS G.g s v=s:=by unfold nxS;rw[hc]
   rw[e2] at h2;rw[e1];obtain⟨vb2,qt⟩:=h2.dm;have cJ:=qt.cells;refine OC O$ Sw O$ Qd O$ Ou$ P7 O$ qV ((S1 O)) ?_;rw[show(!false)=true from rfl];refine OK O (OI O (Qh O (OC O (Pb O (OL QV O (OL z0E O (qV (OB U3 O O cJ O) (OQ z3V O (SZ h2 ω (j:=0) (i:=v) (x:=s.fin) ψ (by show v<s.num.length;omega) ω) ?_))))))));rintro _ w3 ⟨txt3,h3,qp,ar⟩;obtain⟨vb3,A9⟩:=h3.dm;have iz:OE w3 rr [I (s.steps:Int),I (s.fin:Int),I (s.OO:Int),.bool s.QR,.bool s.done,ptr G.k 0,ptr T.k 0,I (root:Int),ptr (vb3 0) 0,ptr (vb3 1) 0,ptr (vb3 2) 0,ptr (vb3 3) 0,ptr (vb3 4) 0,.bool false,.bool false] 103:=A9.cells;refine Oq$ P8.qb (e:=[(0,_),(2,_)]) ?_;refine Qh O (Pb O (OL QV O (OL z0E O (qV (OB U3 O O iz O) (OC O (OQ z3V O (SZ h3 ω (j:=4) (i:=s.fin) (x:=v) ψ (by show s.fin<s.ord.length;omega) ω) ?_))))));rintro _ w4 ⟨txt4,h4,oX,aq⟩;obtain⟨vb4,uP⟩:=h4.dm;have dW:OE w4 rr [I (s.steps:Int),I (s.fin:Int),I (s.OO:Int),.bool s.QR,.bool s.done,ptr G.k 0,ptr T.k 0,I (root:Int),ptr (vb4 0) 0,ptr (vb4 1) 0,ptr (vb4 2) 0,ptr (vb4 3) 0,ptr (vb4 4) 0,.bool false,.bool false] 103:=uP.cells;refine qM O (OC O (Pb O (OL QV O (OL z0E O (qV (OB U3 O O dW O) (PL O (Pb O (OL QV O (OL z0E O (OJ O (Qw PH O O O dW ξ) ?_))))))))));rintro w5 ⟨gW,ai⟩;replace gW:OE w5 rr [I (s.steps:Int),I ((s.fin:Int)+1),I (s.OO:Int),.bool s.QR,.bool s.done,ptr G.k 0,ptr T.k 0,I (root:Int),ptr (vb4 0) 0,ptr (vb4 1) 0,ptr (vb4 2) 0,ptr (vb4 3) 0,ptr (vb4 4) 0,.bool false,.bool false] 103:=gW;refine Oq (R0 O (Pb O (OL QV O (OL W4 O (qV (OB U3 O O gW O) (Ra O (Pb O (OL QV O (OL W4 O (OJ O (Qw PH O O O gW ξ) ?_))))))))));rintro w6 ⟨fC,aJ⟩;have kB:Kp (λj=>j=rr) w4 w6:=ai.trans aJ;replace fC:OE w6 rr [I (s.steps:Int),I ((s.fin:Int)+1),I ((s.OO:Int)-1),.bool s.QR,.bool s.done,ptr G.k 0,ptr T.k 0,I (root:Int),ptr (vb4 0) 0,ptr (vb4 1) 0,ptr (vb4 2) 0,ptr (vb4 3) 0,ptr (vb4 4) 0,.bool false,.bool false] 103:=fC;rw[show(s.OO:Int)-1=((s.OO-1:Nat):Int) by omega] at fC;have h6:=h4.za8 (s':=s.WW v) uP kB fC (Y3 O O O O O);refine Oq$ P8.qb (e:=[]) ?_;refine Om$ PQ func82 O ?_
   exact⟨_,rfl,⟨txt4,K2+1+1,h6,ω,λy e=>((oX y e).trans (qp y e)).trans (gt y e)⟩,(bj.trans ((ar.trans aq).OA λb e=> .inl λe2=>e (.inl (.inl e2)))).trans (kB.OA λb e=> .inr (by rw[e];exact uP.o.1))⟩
 | some u =>
   have e1:nxR G.g s v= .tuple #[I (u:Int),.bool true]:=by unfold nxR;rw[hc]
   have e2:nxS G.g s v=s.look v:=by unfold nxS;rw[hc]
   rw[e2] at h2;rw[e1];have oc:u<G.g.length:=T5 eK v u (List.mem_of_getElem? hc);obtain⟨x,hx⟩:∃x,s.num[u]? =some x:=⟨_,List.getElem?_eq_getElem ω⟩;refine OC O$ Sw O$ Qd O$ Ou$ P7 O$ qV ((S1 O)) ?_;rw[show(!true)=false from rfl];refine OK O (Ox O (Qh O (OQ Xj O (RS h2 (j:=0) (i:=u) (x:=x) ψ hx) ?_)));rintro _ w3 ⟨rfl,h3,ar⟩;have bU:=bj.trans (ar.OA λb e=> .inl λe2=>e (.inl (.inl e2)));have Am:s.num.getD u 0=x:=Wu hx;dsimp only;rw[Am];by_cases e:x=4294967295
   ·rw[if_pos e]
    have nH:s.fin+s.OO<G.g.length:=by
     have h1:=hI.ct;have h2:VV G.g.length (λv=>s.num.getD v 0≠4294967295)<VV G.g.length (λ_=>True):=ZU (λ_ _ _=>trivial) oc (λh=>h (by rw[Am];exact e)) trivial;have h3:VV G.g.length (λ_=>True)<=G.g.length:=z2Q;omega
    refine QS O$ Rf$ OK O$ P8.qb (e:=[(0,_),(3,_),(56,_)]) ?_;refine OI O (Oz O (OX O (OQ zin O (z0G h3 ω ⟨by show u<s.num.length;omega,by show u<(s.looked.set v _).length;rw[List.length_set];omega⟩ (by show s.OO<s.Uu.length;omega)) ?_)));rintro _ w4 hW;obtain⟨⟨txt4,K4,h4,Gz,oX⟩,aq⟩:=hW;refine Oq$ Om$ PQ func82 O ?_;exact⟨_,rfl,⟨txt4,K4,h4,ω,λy e=>(oX y e).trans (gt y e)⟩,bU.trans aq⟩
   ·rw[if_neg e];refine QS O$ Pu$ OK O$ P8.qb (e:=[(0,_),(3,_),(56,_)]) ?_;refine T2 O$ Om$ PQ func82 O ?_;exact⟨_,rfl,⟨txt2,K2,h3,ω,gt⟩,bU⟩
end
section
variable {G T:Xv}{w w':World}{Q:QY}{txt:Int->Ov}{K:Nat}{X O_:Nat->Prop}{rr a L root v k p q c:Nat}{vb:Nat->Nat}{s:Rs}
def z09 {l:List Nat}{v x:Nat}(h:l[v]? =some x):S0 l v=x:=by
 show l.getD v 4294967295=x
 rw[List.getD_eq_getElem?_getD,h];rfl
theorem z5M (h:Ri (UQ T.k root) G T Q txt K X rr O_ a L s w)(hN:zeB (SA G.g root) (nF s.num) root)(hF:Fo (SA G.g root) (nF s.num) root (S0 s.cand))(hr:root<G.g.length)(rA:s.num.length=G.g.length)(oY:s.cand.length=G.g.length)(hp:S0 s.cand p≠4294967295)(hq:S0 s.cand q≠4294967295)(hm:UN (nF s.num) (S0 s.cand) (2*G.g.length) p q=some c):P9 prog 117 [ptr rr 0,I (p:Int),I (q:Int)] w λr w'=>r=I (c:Int)/\Ri (UQ T.k root) G T Q txt K X rr O_ a L s w'/\Kp (λb=>¬YH G T X b) w w':=by
 have dS:=h.m.n
 have eK:=h.m.g.ok.gr
 obtain⟨vb,hV⟩:=h.dm
 have hR:=hV.cells
 refine py (e:=[(0,_),(1,_),(2,_)]) func117 O ntmps117 O O$ QB O$ z2b$ P7 O$ Pb O$ OL z2p O$ qV (OB U28 O O hR O)$ OQ z8F O (Wm h.m.g) ?_
 rintro _ w ⟨rfl,rfl⟩
 refine qV (X5 O O ω)$ OK O$ An$ z1Z$ Qt ?_
 rw[show(2:Int)*(G.g.length:Int)=((2*G.g.length:Nat):Int) by omega]
 refine Rw (α:=Nat×Nat×Nat) ((2*G.g.length,p,q)) (λy=>[(0,ptr rr 0),(1,I (y.2.1:Int)),(2,I (y.2.2:Int)),(7,I (y.1:Int))]) (λy w'=>UN (nF s.num) (S0 s.cand) y.1 y.2.1 y.2.2=some c/\S0 s.cand y.2.1≠4294967295/\S0 s.cand y.2.2≠4294967295/\Ri (UQ T.k root) G T Q txt K X rr O_ a L s w'/\Kp (λb=>¬YH G T X b) w w'/\y.1<=2*G.g.length) (λy=>y.1) ?hI ?hround
 case hI=>exact⟨hm,hp,hq,h,Kp.refl _ _,Nat.le_refl _⟩
 case hround=>
  rintro⟨k,p,q⟩ w1 ⟨hm,hp,hq,h1,aG,kU⟩ ih;dsimp only at hm hp hq kU ih⊢
  try dsimp only
  refine An$ Qh O ?_;by_cases e:p=q
  ·subst e
   have hc:p=c:=by
    cases k with
    |zero=>unfold UN at hm;rw[if_pos O] at hm;exact Rh hm
    |succ k=>unfold UN at hm;rw[if_pos O] at hm;exact Rh hm
   subst hc;refine Ql O$ Pu$ Oq$ Ox O$ OD O$ P7 O$ OK O$ Oo func117 O ?_;exact⟨_,rfl,rfl,h1,aG⟩
  ·obtain⟨k',rfl⟩:∃k',k=k'+1:=by
    cases k with
    |zero=>unfold UN at hm;rw[if_neg e] at hm;cases hm
    |succ k=>exact⟨k,rfl⟩
   unfold UN at hm;rw[if_neg e] at hm;have rp:=hF.in_ p hp;have rq:=hF.in_ q hq;have lp:=rp.lt eK hr;have lq:=rq.lt eK hr;obtain⟨x,hx⟩:∃x,s.num[p]? =some x:=⟨_,List.getElem?_eq_getElem ω⟩;obtain⟨y,hy⟩:∃y,s.num[q]? =some y:=⟨_,List.getElem?_eq_getElem ω⟩;obtain⟨x2,ae⟩:∃x,s.cand[p]? =some x:=⟨_,List.getElem?_eq_getElem ω⟩;obtain⟨y2,gt⟩:∃x,s.cand[q]? =some x:=⟨_,List.getElem?_eq_getElem ω⟩;have ex:nF s.num p=x:=Wu hx;have ey:nF s.num q=y:=Wu hy;have ex2:=z09 ae;have ey2:=z09 gt;have tp:=hN.top p rp;have tq:=hN.top q rq;have ipq:=hN.inj p q rp rq;have upp:=hF.up p hp;have upq:=hF.up q hq;rw[ex,ey,ex2,ey2] at hm;rw[ex] at tp ipq upp;rw[ey] at tq ipq upq;rw[ex2] at upp;rw[ey2] at upq;refine Ql O$ Rf$ Oq$ OI O$ Ot$ Ou$ Pz O$ Ra O ?_;rw[show((k'+1:Nat):Int)-1=(k':Int) by omega];refine QO O (Qv O (Pu (PX O (An (Qh O (OQ Xj O (RS h1 (j:=0) (i:=p) (x:=x) ψ hx) ?_))))));rintro _ w2 ⟨rfl,h2,am⟩;refine OX O (OQ Xj O (RS h2 (j:=0) (i:=q) (x:=y) ψ hy) ?_);rintro _ w3 ⟨rfl,h3,ar⟩;by_cases aN:x<y
   ·rw[if_pos aN] at hm;have pu:p≠root:=λe=>by subst e;omega
    refine Qv O (Rf (Oq (OI O (Qh O (OQ Xj O (RS h3 (j:=2) (i:=p) (x:=x2) ψ ae) ?_)))));rintro _ w4 ⟨rfl,h4,aq⟩;refine OK O$ OD O ?_;exact(ih (k',x2,q) _ ⟨hm,(upp pu).1,hq,h4,((aG.trans am).trans ar).trans aq,by show k'<=_;omega⟩ (by show k'<k'+1;omega)).qb
   ·rw[if_neg aN] at hm
    have tz:q≠root:=λe2=>by
     subst e2;exact e (ipq ω)
    refine Qv O (Pu (PX O (Oz O (OX O (OQ Xj O (RS h3 (j:=2) (i:=q) (x:=y2) ψ gt) ?_)))));rintro _ w4 ⟨rfl,h4,aq⟩;refine OK O$ Om ?_;exact(ih (k',p,y2) _ ⟨hm,hp,(upq tz).1,h4,((aG.trans am).trans ar).trans aq,by show k'<=_;omega⟩ (by show k'<k'+1;omega)).qb
end
section
variable {g:List (List Nat)}{root n c p:Nat}{num cand:List Nat}{par f:Nat->Nat}{A:Nat->Prop}
def FdI.pre (hT:TrF g root (nF num) par)(hI:DsI g root (nF num) par (S0 cand))(hn:nF num root<n)(ps:List Nat):FdI root (S0 cand) (ps.foldl (meS n num cand) 4294967295) (λq=>False\/q∈ps):=FdI.all hT hI hn (.inl ⟨rfl,λ_ h=>h.elim⟩)
theorem FdI.ok (h:FdI root f c A)(hc:c≠4294967295):f c≠4294967295:=by
 rcases h with h| h
 ·exact absurd h.1 hc
 ·exact h.1
def FdI.le (h:FdI root (S0 cand) c A):c=4294967295\/c<cand.length:=by
 rcases h with h| h
 ·exact .inl h.1
 ·right
  rcases Nat.lt_or_ge c cand.length with e| e
  ·exact e
  ·refine absurd ?_ h.1;show cand.getD c 4294967295=_;rw[List.getD_eq_getElem?_getD,List.getElem?_eq_none e];rfl
def z9W (hp:S0 cand p=4294967295):meS n num cand c p=c:=if_pos hp
theorem z8X (hp:S0 cand p≠4294967295):meS n num cand 4294967295 p=p:=by
 unfold meS
 rw[if_neg hp,if_pos O]
def z9A (hT:TrF g root (nF num) par)(hI:DsI g root (nF num) par (S0 cand))(hn:nF num root<n)(hc:S0 cand c≠4294967295)(hp:S0 cand p≠4294967295)(hcn:c≠4294967295):∃c',UN (nF num) (S0 cand) (2*n) c p=some c'/\meS n num cand c p=c':=by
 obtain⟨c',h1,-⟩:=z0K hT.n hI.fo (2*n) c p hc hp ω
 refine⟨c',h1,?_⟩
 unfold meS
 rw[if_neg hp,if_neg hcn,h1];rfl
end
section
variable {G T:Xv}{w w':World}{Q:QY}{txt txt':Int->Ov}{K K':Nat}{X Y O_:Nat->Prop}{rr a L root v k j:Nat}{vb:Nat->Nat}{s s':Rs}{par:Nat->Nat}
theorem z4F (h:Ri (UQ T.k root) G T Q txt K X rr O_ a L s w)(hK:K<=700000000000)(hT:TrF G.g root (nF s.num) par)(hF:Fnd G.g root s.num s.ord s.fin)(hD:DwI G.g root s.num par s.cand j)(hr:root<G.g.length)(lh:∀u v,u∈OG T.g v↔v∈OG G.g u)(G5:T.g.length=G.g.length)(rA:s.num.length=G.g.length)(vK:s.ord.length=G.g.length):P9 prog 81 [ptr rr 0] w λr w'=>r= .bool (Xe T.g G.g.length s.num s.ord (s.fin-1) (s.cand,false)).2/\DmW G T Q txt K X rr root O_ a L 60 {s with cand:=(Xe T.g G.g.length s.num s.ord (s.fin-1) (s.cand,false)).1} w w':=by
 have dS:=h.m.n
 have qv:T.g.length<=40:=by omega
 have eK:=h.m.g.ok.gr
 have GA:=h.t.ok.gr
 have mR:=hF.t
 have Od:=hF.f
 have bN:∀b,X b->b<w.heap.size:=λb hb=>h.lt b (.inl (.inl hb))
 obtain⟨n1,n2,n3⟩:=h.ng
 have cx:=h.far
 have Bt:=h.lt G.rb (.inr O)
 have qs:=h.lt T.rb (.inl (.inr O))
 obtain⟨vb,hV⟩:=h.dm
 have hR:=hV.cells
 have uF:=h.xr _ hV.o.1
 refine py (e:=[(0,_)]) func81 O ntmps81 O O$ qN O$ Oy O O (R9 O (cs:=[ptr rr 0]) O) ?_
 rintro _ w1 ⟨b1,rfl,bK,ad,ah⟩
 have z1:=ad.size
 have l1:=ah.lt
 obtain⟨X0,ol⟩:∃X0:Nat->Prop,(λj=>X j\/j=b1)=X0:=⟨_,rfl⟩
 have eP:∀j,X j->X0 j:=λj hj=>by rw[<-ol];exact .inl hj
 have dh:X0 b1:=by rw[<-ol];exact .inr O
 have h1:Ri (UQ T.k root) G T Q txt K X0 rr O_ a L s w1:=h.grow ad (λj hj=>by rw[<-ol] at hj;exact hj.imp id λe=>by omega) eP
 have fI:=h1.xk
 have uQ:=h1.xr
 have nK:∀b,X0 b->b<w1.heap.size:=λb hb=>h1.lt b (.inl (.inl hb))
 have i7:=ad.On hR
 refine OK O$ An$ qN O$ qV ((OB U44 O O ah O))$ Pb O$ OL QV O$ OL z0E O$ qV ((OB U3 O O i7 O))$ Ra O$ OK O$ Ou ?_
 rw[show(s.fin:Int)-2=((s.fin-1:Nat):Int)-1 by omega]
 obtain⟨D,IK⟩:∃D,Xe T.g G.g.length s.num s.ord (s.fin-1) (s.cand,false)=D:=⟨_,rfl⟩
 rw[IK]
 refine z8K (α:=(Nat×(List Nat×Bool))×List Dfr) (((s.fin-1,(s.cand,false)),[])) (λy=>y.2) O (λy=>[(1,ptr b1 0),(2,.bool y.1.2.2),(3,I ((y.1.1:Int)-1))]) (λy w'=>y.1.1<=s.fin-1/\Xe T.g G.g.length s.num s.ord y.1.1 y.1.2=D/\DwK G.g root s.num par y.1.2.1 j y.1.1/\(∃txt' K',Ri (UQ T.k root) G T Q txt' K' (λb=>X0 b\/ .mk b∈y.2) rr O_ a L {s with cand:=y.1.2.1} w'/\K'+y.1.1<=K+(s.fin-1)/\∀y:Int,y<(a:Int)\/(a:Int)+(L:Int)<=y->txt' y=txt y)/\OE w' b1 [ptr rr 0] 44/\Kp (λb=>¬X b) w w'/\MkN w1.heap.size y.2 w'/\w1.heap.size<=w'.heap.size) (λy=>y.1.1) (by repeat (first|exact Sub.nil|refine Sub.cons O ?_)) ?hI ?hround
 case hI=>exact⟨Nat.le_refl _,IK,⟨hD.n,by
   have:=DsK.begin hT hD.i hD.p;rw[show s.fin-1=nF s.num root by omega]
   exact this,hD.c⟩,⟨txt,K,h1.less (λj hj=>hj.elim id (λe=>by cases e)) ⟨.inl fI.1,.inl fI.2.1,.inl fI.2.2.1,.inl fI.2.2.2.1,.inl fI.2.2.2.2.1,.inl fI.2.2.2.2.2⟩ (λb hb=> .inl (uQ b hb)),Nat.le_refl _,λ_ _=>rfl⟩,ah,ad.kp,MkN.nil _ _,Nat.le_refl _⟩
 case hround =>
  rintro⟨⟨m,p⟩,ms⟩ w2 ⟨hm,Bz,vU,⟨txt2,K2,h2,sk,gt⟩,ak,am,gH,mK⟩ ih;dsimp only at hm Bz vU h2 sk gH ih⊢
  have IL:∀D,.mk D∈ms->¬X0 D:=λD hD e=>by
   have:=gH.lo D hD;have:=nK D e;omega
  try dsimp only
  refine Pz O ?_;rcases Nat.eq_zero_or_pos m with zP|zP
  ·subst zP;refine TE O$ Pu$ Oq$ Ox O$ OD O$ P7 O$ OK O ?_;have Oe:∀D,.mk D∈ms->D≠b1:=λD hD e=>IL D hD (e▸dh);have eL:=z0D ms w2;have h3:=h2.own eL (λj e=>⟨.inr e,by have:=gH.lo j e;have:=cx j ω;exact this⟩);refine z4j gH.nd gH.m func81 O ?_;rw[show Xe T.g G.g.length s.num s.ord 0 p=p from rfl] at Bz;subst Bz;exact⟨_,rfl,rfl,⟨txt2,K2,h3.less (λj hj=> .inl (eP j hj)) h.xk h.xr,ω,gt⟩,(am.OA λb e=> .inl e).trans (eL.OA λb e=> .inl λe2=>by have:=gH.lo b e;have:=bN b e2;omega)⟩
  ·obtain⟨k,rfl⟩:∃k,m=k+1:=⟨m-1,ω⟩;rw[show((k+1:Nat):Int)-1=(k:Int) by omega];refine TE O$ Rf ?_;obtain⟨fw,kK⟩:=hF.d k ω;obtain⟨v,hv⟩:∃v,s.ord[k]? =some v:=⟨_,List.getElem?_eq_getElem ω⟩;have Al:s.ord.getD k 0=v:=Wu hv;obtain⟨cand,bb⟩:=p;have gC:=DwK.one (b:=bb) eK hT hF lh (k:=k) ω vU hr
   have kW:dsV T.g G.g.length s.num s.ord (cand,bb) k=if S0 cand v=dsC T.g G.g.length s.num cand v then(cand,bb) else(cand.set v (dsC T.g G.g.length s.num cand v),true):=by
    unfold dsV;rw[Al]
   rw[Al] at fw kK;have iI:v<G.g.length:=fw.lt eK hr;have MN:v<T.g.length:=by omega
   have qw:Xe T.g G.g.length s.num s.ord k (dsV T.g G.g.length s.num s.ord (cand,bb) k)=D:=Bz;obtain⟨d1,d2,d3⟩:=gC;have oY:=vU.n;dsimp only at oY;have IM:nF s.num root<G.g.length:=by omega
   have du:=λps=>FdI.pre (n:=G.g.length) hT vU.k.i IM ps;refine Oq (OI O (Ot (Qt (qN O (qV (OB U44 O O ak O) (OC O (OQ Xj O (RS h2 (j:=4) (i:=k) (x:=v) ψ hv) ?_)))))));rintro _ w3 ⟨rfl,h3,ar⟩;have z3:=ar.size;have ao:=ar.On ak (λe=>e (.inl (.inl (.inl dh))));have oV:=gH.kp ar (λD hD e=>e (.inl (.inl (.inr hD))));have bU:Kp (λb=>¬X b) w w3:=am.trans (ar.OA λb e e2=>e (.inl (.inl (.inl (eP b e2)))));refine QL O$ Oy O O (Rq (cs:=[_]) PH O) ?_;rintro _ w4 ⟨b5,rfl,fR,aC,aH⟩;refine OJ O (Qw PH O O O aH ξ) ?_;rintro w5 ⟨aD,ai⟩;replace aD:OE w5 b5 [I ((4294967295:Nat):Int)] 3:=aD;have z4:=aC.size;have z5:=ai.size;have l4:=aH.lt;have bF:Ext w3 w5:=aC.It ai λb e=>by omega
   have dF:=bF.On ao;have h5:=h3.ext bF;have qg:=oV.kp bF.kp (S:=λ_=>False) (λ_ _ e=>e);obtain⟨vb5,uR⟩:=h5.dm;have gW:=uR.cells;refine Oq$ An$ qN O$ qV ((OB U44 O O dF O))$ Pb O$ OL zcM O$ qV ((OB U28 O O gW O))$ OC O$ OQ zdi O (z0C T.k v _) ?_;rintro _ w6 ⟨bk,bi,rfl,pT,vS,fK,rR,aQ⟩;have z6:=aQ.size;refine Oq$ Ou$ SF (ps:=[27,28]) (p:=[]) (q:=[_,_]) O zdc ?_;rintro l wl dT fx cH MO Rc cE dZ;have zl:=dT.size;have eW:=aQ.trans dT;obtain⟨X1,eX⟩:∃X1:Nat->Prop,(λj=>(X0 j\/ .mk j∈ms)\/j=b5\/j=w6.heap.size\/j=l)=X1:=⟨_,rfl⟩;have fd:∀j,(X0 j\/ .mk j∈ms)->X1 j:=λj hj=>by rw[<-eX];exact .inl hj
   have aO:X1 b5/\X1 w6.heap.size/\X1 l:=by rw[<-eX];exact⟨.inr (.inl O),.inr (.inr (.inl O)),.inr (.inr (.inr O))⟩
   have ot:∀j,X0 j->X1 j:=λj hj=>fd j (.inl hj);have uS:∀j,X j->X1 j:=λj hj=>ot j (eP j hj);have uT:∀D,.mk D∈ms->X1 D:=λD hD=>fd D (.inr hD)
   have rV:∀j,w.heap.size<=j->j≠T.k/\j≠T.x/\j≠G.k/\j≠G.x/\j≠1/\j≠2/\¬O_ j:=λj hj=>by
    obtain⟨q1,q2,q3,q4,q5,q6,q7⟩:=cx j hj;exact⟨q3,q4,q1,q2,q5,q6,q7⟩
   have EC:Ri (UQ T.k root) G T Q txt2 K2 (λb=>(X0 b\/ .mk b∈ms)\/b=b5) rr O_ a L {s with cand:=cand} w5:=h3.grow bF (λj hj=>hj.imp id λe=>by omega) (λj hj=> .inl hj);have Gg:Ri (UQ T.k root) G T Q txt2 K2 X1 rr O_ a L {s with cand:=cand} wl:=EC.grow eW (λj hj=>by rw[<-eX] at hj;rcases hj with e|e|e;exact .inl (.inl e);exact .inl (.inr e);exact .inr ω) (λj hj=>by rw[<-eX];exact hj.imp id .inl);have uU:=Gg.z7H qv;have m8:Kp (λb=>¬X b) w wl:=bU.trans (bF.trans eW).kp;have GB:=eW.On dF;have GC:=eW.On aD;have vD:=qg.kp eW.kp (S:=λ_=>False) (λ_ _ e=>e);have kC:∀D,.mk D∈ms->D≠l/\D≠b5/\D≠b1:=λD hD=>⟨λe=>by have:=oV.hi D hD;omega,λe=>by have:=oV.hi D hD;omega,λe=>IL D hD (e▸dh)⟩
   refine P9.mono (z27 MN uU (dT.On pT) (dT.On vS) (λj=>j=l\/j=b5) (λj hj=>by
     rcases hj with rfl|rfl
     ·exact aO.2.2
     ·exact aO.1)
    (λi txt' K' s' w'=>Rc .ready none w'/\txt'=txt2/\K'=K2/\s'={s with cand:=cand}/\w'.heap[w6.heap.size]? =some (.deferred (some []))/\(OE w' b1 [ptr rr 0] 44/\OE w' b5 [I ((((OG T.g v).take i).foldl (meS G.g.length s.num cand) 4294967295:Nat):Int)] 3)/\MkN w1.heap.size ms w'/\Kp (λb=>¬X b) w w')
    (λ_ _ _ _=>False) ?_ ?_) ?_
   ·intro w7 hz eC;have ce:∀{j},X1 j->¬¬X1 j:=λhj e=>e hj;exact⟨eC.rc cE dZ (ce aO.2.2),rfl,rfl,rfl,eC.heap MO (ce aO.2.1),⟨eC.On GB (ce (ot _ dh)),eC.On GC (ce aO.1)⟩,vD.kp eC (λD hD e=>e (uT D hD)),m8.trans (eC.OA λb e e2=>e (uS b e2))⟩
   ·rintro Y i u txt' K' s' w7 aM kr z7' hs h7 ⟨Ac,rfl,rfl,rfl,Gn,⟨GD,kw⟩,EI,mM⟩;have dB:Y l/\Y b5/\Y b1/\Y w6.heap.size:=⟨aM _ aO.2.2,aM _ aO.1,aM _ (ot _ dh),aM _ aO.2.1⟩;have vV:∀D,.mk D∈ms->Y D:=λD hD=>aM _ (uT D hD);have ky:∀j,X j->Y j:=λj hj=>aM j (uS j hj);have oc:u<G.g.length:=by have:=T5 GA v u (List.mem_of_getElem? hs);omega
    have gY:((OG T.g v).take (i+1)).foldl (meS G.g.length s.num cand) 4294967295=meS G.g.length s.num cand (((OG T.g v).take i).foldl (meS G.g.length s.num cand) 4294967295) u:=by
     rw[PA hs,List.foldl_append];rfl
    rw[gY];have mv:=du ((OG T.g v).take i);have eR:=mv.le;obtain⟨c,hc⟩:∃c,((OG T.g v).take i).foldl (meS G.g.length s.num cand) 4294967295=c:=⟨_,rfl⟩;rw[hc] at kw mv eR⊢;obtain⟨x,hx⟩:∃x,cand[u]? =some x:=⟨_,List.getElem?_eq_getElem ω⟩;have dJ:=z09 hx;refine TA cE Ac O O$ QB O$ Oz O$ OK O$ run_beginRound O cE Ac ?_;rintro w8 vN aP;have h8:=(h7.own aP (λj e=>by subst e;exact⟨dB.1,rV _ ω⟩)).zdW dS;have Ao:=aP.On GD ω;have qu:=aP.On kw ω;have MP:=EI.kp aP (λD hD e=>(kC D hD).1 e);have Bx:=aP.heap Gn ω;have z8:=aP.size;have iY:Kp (λb=>¬X b) w w8:=mM.trans (aP.OA λj e e2=>by have:=bN j e2;omega);refine Ou$ P7 O$ OQ z6A O (SI _) ?_;rintro _ w8 rfl;refine Oq (Ou (qN O (qV ((OB U44 O O Ao O)) (OC O (qV (Ps O QA U3 ω) (OQ Xj O (RS h8 (j:=2) (i:=u) (x:=x) ψ hx) ?_))))));rintro _ w9 ⟨rfl,h9,aK⟩;have kz:∀{j},Y j->¬¬YH G T Y j:=λhj e=>e (.inl (.inl hj));have qx:=aK.On Ao (kz dB.2.2.1);have kA:=aK.On qu (kz dB.2.1);have mc:=MP.kp aK (λD hD e=>kz (vV D hD) e);have Ai:=aK.heap Bx (kz dB.2.2.2);have uK:=aK.rc cE vN (kz dB.1);have iK:Kp (λb=>¬X b) w w9:=iY.trans (aK.OA λb e e2=>e (.inl (.inl (ky b e2))));have oo:Kp (λb=>(¬Y b/\b≠G.rb)\/b=l\/b=b5) w7 w9:=(aP.OA λj e=> .inr (.inl e)).trans (aK.OA λj e=> .inl ⟨λe2=>e (.inl (.inl e2)),λe2=>e (.inr e2)⟩);by_cases ku:x=4294967295
    ·have MQ:meS G.g.length s.num cand c u=c:=z9W (by rw[dJ];exact ku);rw[MQ];refine QS O$ Rf$ OK O$ P8.qb (e:=[(1,_),(2,_),(5,_),(6,_),(36,_)]) ?_;refine OI O$ Ot$ Om$ Om$ Sf cE uK ?_;intro wd jd bX;exact⟨.inl ⟨rfl,txt',K',_,(h9.own bX (λj e=>by subst e;exact⟨dB.1,cx _ ω⟩)).z7H qv,jd,rfl,rfl,rfl,bX.heap Ai ω,⟨bX.On qx ω,bX.On kA ω⟩,mc.kp bX (λD hD e=>(kC D hD).1 e),iK.trans (bX.OA λj e e2=>by have:=bN j e2;omega)⟩,oo.trans (bX.OA λj e=> .inr (.inl e))⟩
    ·have uV:S0 cand u≠4294967295:=by rw[dJ];exact ku
     refine QS O$ Pu$ OK O$ P8.qb (e:=[(1,_),(2,_),(5,_),(6,_),(36,_)]) ?_;refine Ox O$ qN O$ qV (OB U3 O O kA O) ?_;by_cases qy:c=4294967295
     ·subst qy;rw[z8X uV];refine QS O (Rf (OK O (OI O (R0 O (qV (Ps O QA U3 ω) (OJ O (Qw PH O O O kA ξ) ?_))))));rintro wa ⟨oq,bD⟩;have ha:=h9.own bD (λj e=>by subst e;exact⟨dB.2.1,cx _ ω⟩);have GE:=bD.rc cE uK ω;refine Oq$ Om$ Om$ Sf cE GE ?_;intro wd jd bX;exact⟨.inl ⟨rfl,txt',K',_,(ha.own bX (λj e=>by subst e;exact⟨dB.1,cx _ ω⟩)).z7H qv,jd,rfl,rfl,rfl,bX.heap (bD.heap Ai ω) ω,⟨bX.On (bD.On qx ω) ω,bX.On oq ω⟩,(mc.kp bD (λD hD e=>(kC D hD).2.1 e)).kp bX (λD hD e=>(kC D hD).1 e),(iK.trans (bD.OA λj e e2=>by have:=bN j e2;omega)).trans (bX.OA λj e e2=>by have:=bN j e2;omega)⟩,(oo.trans (bD.OA λj e=> .inr (.inr e))).trans (bX.OA λj e=> .inr (.inl e))⟩
     ·obtain⟨c',mz,dQ⟩:=z9A hT vU.k.i IM (mv.ok qy) uV qy;rw[dQ];refine QS O (Pu (OK O (Ox O (Oz O (qV ((OB U44 O O qx O)) (qV ((OB U3 O O kA O)) (OC O (qV (Ps O QA U3 ω) (OQ zfM O (z5M h9 hT.n vU.k.i.fo hr rA oY (mv.ok qy) uV mz) ?_)))))))));rintro _ wa ⟨rfl,ha,bD⟩;have GF:=bD.On qx (kz dB.2.2.1);have oq:=bD.On kA (kz dB.2.1);have MR:=mc.kp bD (λD hD e=>kz (vV D hD) e);have MS:=bD.heap Ai (kz dB.2.2.2);have GE:=bD.rc cE uK (kz dB.1);have GG:Kp (λb=>¬X b) w wa:=iK.trans (bD.OA λb e e2=>e (.inl (.inl (ky b e2))));have GH:Kp (λb=>(¬Y b/\b≠G.rb)\/b=l\/b=b5) w7 wa:=oo.trans (bD.OA λj e=> .inl ⟨λe2=>e (.inl (.inl e2)),λe2=>e (.inr e2)⟩);refine OJ O (Qw PH O O O oq ξ) ?_;rintro wb ⟨uL,cS⟩;have hb:=ha.own cS (λj e=>by subst e;exact⟨dB.2.1,cx _ ω⟩);have xK:=cS.rc cE GE ω;refine Oq$ Om$ Om$ Sf cE xK ?_;intro wd jd bX;exact⟨.inl ⟨rfl,txt',K',_,(hb.own bX (λj e=>by subst e;exact⟨dB.1,cx _ ω⟩)).z7H qv,jd,rfl,rfl,rfl,bX.heap (cS.heap MS ω) ω,⟨bX.On (cS.On GF ω) ω,bX.On uL ω⟩,(MR.kp cS (λD hD e=>(kC D hD).2.1 e)).kp bX (λD hD e=>(kC D hD).1 e),(GG.trans (cS.OA λj e e2=>by have:=bN j e2;omega)).trans (bX.OA λj e e2=>by have:=bN j e2;omega)⟩,(GH.trans (cS.OA λj e=> .inr (.inr e))).trans (bX.OA λj e=> .inr (.inl e))⟩
   ·rintro v' wz ⟨rfl,Y,txtz,Kz,sz,aM,kr,hz,⟨Aj,rfl,rfl,rfl,Ak,⟨GD,kw⟩,MT,dr⟩|MU⟩
    ·refine⟨_,_,Aj,ξ,λwy dR=>?_⟩;rw[List.take_length] at kw;have IN:(OG T.g v).foldl (meS G.g.length s.num cand) 4294967295=dsC T.g G.g.length s.num cand v:=rfl;rw[IN] at kw;have i8:=(du (OG T.g v)).le;rw[IN] at i8;obtain⟨dc,GI⟩:∃dc,dsC T.g G.g.length s.num cand v=dc:=⟨_,rfl⟩;rw[GI] at kw i8 kW;have zz:=dr.size;have zy:=dR.size;have Ap:=dR.On GD ω;have mj:=dR.On kw ω;have qa:=dR.heap Ak ω;have MV:=MT.kp dR (λD hD e=>(kC D hD).1 e);have dB:Y l/\Y b5/\Y b1/\Y w6.heap.size:=⟨aM _ aO.2.2,aM _ aO.1,aM _ (ot _ dh),aM _ aO.2.1⟩;have vV:∀D,.mk D∈ms->Y D:=λD hD=>aM _ (uT D hD);have ky:∀j,X j->Y j:=λj hj=>aM j (uS j hj);have hy:=(hz.own dR (λj e=>by subst e;exact⟨dB.1,rV _ ω⟩)).zdW dS;have GJ:Kp (λb=>¬X b) w wy:=dr.trans (dR.OA λj e e2=>by have:=bN j e2;omega);obtain⟨x,hx⟩:∃x,cand[v]? =some x:=⟨_,List.getElem?_eq_getElem ω⟩;have dJ:=z09 hx;rw[dJ] at kW;have hg:=Ext.OT wy;have jD:∀{j},Y j->¬¬YH G T Y j:=λhj e=>e (.inl (.inl hj));refine Om (An (R8 (λw'=>Kp (λb=>¬YH G T Y b) wy w') O (qT 0 O (λ_ hS=>(OB U44 O O (hS.On Ap (jD dB.2.2.1)) O)) (hg.kp) (OR 1 O O (hg.kp) (qT 3 O (λ_ hS=>(OB U3 O O (hS.On mj (jD dB.2.1)) O)) (hg.kp) (SH 2 O Xj O (RS (hy.ext hg) (j:=2) (i:=v) (x:=x) ψ hx) ?_))))));rintro _ we ⟨rfl,he,qz⟩;refine⟨hg.kp.trans qz,?_⟩;have jy:Kp (λb=>¬YH G T Y b) wy we:=hg.kp.trans qz;have Aq:Kp (λb=>¬X b) w we:=GJ.trans (jy.OA λb e e2=>jD (ky b e2) e);have uW:=jy.On Ap (jD dB.2.2.1);have GK:=jy.On mj (jD dB.2.1);have IP:=jy.heap qa (jD dB.2.2.2);have IQ:=MV.kp jy (λD hD e=>jD (vV D hD) e)
     have ze:w6.heap.size<we.heap.size:=by
      have:=jy.size;have:=hy.lt _ (.inl (.inl dB.2.2.2));omega
     have vQ:=qg.kp (aQ.kp (S:=λ_=>False)) (λ_ _=>id)
     have zV:∀j,(X0 j\/ .mk j∈(.mk w6.heap.size::ms))->Y j:=λj hj=>by
      rcases hj with e| e
      ·exact aM _ (ot _ e)
      ·rcases List.mem_cons.1 e with e| e
       ·cases e;exact dB.2.2.2
       ·exact vV j e
     have IR:(X0 G.k\/ .mk G.k∈(.mk w6.heap.size::ms))/\(X0 G.x\/ .mk G.x∈(.mk w6.heap.size::ms))/\(X0 T.k\/ .mk T.k∈(.mk w6.heap.size::ms))/\(X0 T.x\/ .mk T.x∈(.mk w6.heap.size::ms))/\(X0 1\/ .mk 1∈(.mk w6.heap.size::ms))/\(X0 2\/ .mk 2∈(.mk w6.heap.size::ms)):=⟨.inl fI.1,.inl fI.2.1,.inl fI.2.2.1,.inl fI.2.2.2.1,.inl fI.2.2.2.2.1,.inl fI.2.2.2.2.2⟩;by_cases Am:x=dc
     ·rw[if_pos Am] at kW;rw[kW] at qw d1;refine Ow 4 O (yne O O) (hg.kp.trans qz)$ TK$ qE$ T2 O$ Om$ R0 O$ Ra O$ OK O ?_;exact(ih ((k,(cand,bb)),.mk w6.heap.size::ms) we ⟨by show k<=s.fin-1;omega,qw,d1,⟨txtz,Kz,he.less zV IR (λb hb=> .inl (uQ b hb)),by show Kz+k<=_;omega,gt⟩,uW,Aq,vQ.cons ω IQ IP ze,ω⟩ (by show k<k+1;omega)).qb
     ·rw[if_neg Am] at kW;rw[kW] at qw d1;refine Ow 4 O (yne O O) (hg.kp.trans qz) (TH (qE (OI O (qN O (qV ((OB U44 O O uW O)) (OC O (qV ((OB U3 O O GK O)) (OQ z3V O (SZ he ω (j:=2) (i:=v) (x:=dc) ψ (by show v<cand.length;omega) (by rcases i8 with h|h;exact h▸ψ;exact Nat.lt_trans h (by rw[oY];omega))) ?_))))))));rintro _ wf ⟨txtf,hf,MW,cC⟩;have GL:=cC.On uW (jD dB.2.2.1);have MX:=cC.heap IP (jD dB.2.2.2);have MY:=IQ.kp cC (λD hD e=>jD (vV D hD) e);have zf:=cC.size;have u7:Kp (λb=>¬X b) w wf:=Aq.trans (cC.OA λb e e2=>jD (ky b e2) e);refine Oq$ Oz O$ OK O$ Om$ R0 O$ Ra O$ OK O ?_;exact(ih ((k,(cand.set v dc,true)),.mk w6.heap.size::ms) wf ⟨by show k<=s.fin-1;omega,qw,d1,⟨txtf,Kz+1,hf.less zV IR (λb hb=> .inl (uQ b hb)),by show Kz+1+k<=_;omega,λy e=>(MW y e).trans (gt y e)⟩,GL,u7,vQ.cons ω MY MX ω,ω⟩ (by show k<k+1;omega)).qb
    ·exact MU.elim
end
section
variable {g:List (List Nat)}
def Z7 {u v:Nat}(h:QH g):u∈OG (Qb g) v↔v∈OG g u:=by
 have hm:∀x y,y∈OG g x->x<g.length/\y<g.length:=λx y hy=>by
  unfold OG at hy;by_cases e:x<g.length
  ·rw[List.getElem?_eq_getElem e] at hy;exact⟨e,h.lt _ (List.getElem_mem e) y hy⟩
  ·rw[List.getElem?_eq_none ω] at hy;cases hy
 by_cases hv:v<g.length
 ·have e:OG (Qb g) v=(List.range g.length).filter λx=>decide (v∈OG g x):=by
   show((Qb g)[v]?.getD [])=_;rw[Z6 g hv];rfl
  rw[e,List.mem_filter,List.mem_range];exact⟨λe=>of_decide_eq_true e.2,λe=>⟨(hm u v e).1,decide_eq_true e⟩⟩
 ·have e:OG (Qb g) v=[]:=by
   show((Qb g)[v]?.getD [])=_;rw[List.getElem?_eq_none (by rw[RF];omega)];rfl
  rw[e];exact⟨λe=>(by cases e),λe=>absurd (hm u v e).2 hv⟩
end
section
variable {P:Program}{e:Env}{w:World}{t t' ty:TypeId}{d:Option Tmp}{x:Operand}{pos:String}{aft:Array Edge}{g:Option (Nat×Bool)}
def zgj {ms:Array (String×TypeId)}(ht:P.underlying t=some (.interface ms))(hx:look e x=some .nilIface):Y P e ⟨d,.binOp .eql t x (.const .nilIface) t',ty,pos,aft,g⟩ (.bool true) w w:=fun ρ hρ=>by
 have h1:(Op.equal t .nilIface .nilIface).run P w= .ok true w:=by
  have hA:∀n,(Op.equalIn (n+1) t .nilIface .nilIface).run P w= .ok true w:=λn=>by simp[Op.equalIn,run_underlying ht]
  exact hA 9999
 have h2:eqGuard .eql t x (.const .nilIface) .nilIface .nilIface=pure ():=by cases x<;>rfl
 have h3:binOp .eql t .nilIface .nilIface=(do pure (.bool (<-Op.equal t .nilIface .nilIface))):=rfl
 have h4:ρ (.const .nilIface)= .nilIface:=hρ _ _ O
 simp only[execOp,hρ _ _ hx,h4,h2,h3,pure_bind,Sem.run_bind,h1,Result.andThen,Sem.run_pure]
end
def Rs.go (g t:List (List Nat))(root:Nat)(s:Rs):Rs:=
 if s.QR then {s with cand:=(Xe t g.length s.num s.ord (s.fin-1) (s.cand,false)).1,done:= !(Xe t g.length s.num s.ord (s.fin-1) (s.cand,false)).2}
 else if(s.Qa g 64).OO=0 then {s.Qa g 64 with QR:=true,cand:=(s.Qa g 64).cand.set root root}
 else s.Qa g 64
section
variable {G T:Xv}{w w':World}{Q:QY}{txt txt':Int->Ov}{K K':Nat}{X O_:Nat->Prop}{rr a L root v k j:Nat}{vb:Nat->Nat}{s s':Rs}{par:Nat->Nat}
theorem z8G {g t:List (List Nat)}:(s.go g t root).steps=s.steps:=by
 unfold Rs.go
 have h1:=(UB (g:=g) 64 (s:=s)).1
 split
 ·rfl
 ·split
  ·exact h1
  ·exact h1
theorem z3P {g t:List (List Nat)}:s.step g t root={s.go g t root with steps:=s.steps+1}:=by
 unfold Rs.step Rs.go
 split
 ·rfl
 ·split
  ·rfl
  ·rfl
theorem z5D (h:Ri (UQ T.k root) G T Q txt K X rr O_ a L s w)(hJ:DmJ G.g root s)(hd:s.done=false)(ht:T.g=Qb G.g)(hr:root<G.g.length)(hK:K<=600000000000):P9 prog 47 [ptr rr 0] w λ_ w'=>DmW G T Q txt K X rr root O_ a L 400 (s.go G.g T.g root) w w':=by
 have dS:=h.m.n
 have eK:=h.m.g.ok.gr
 have lh:∀u v,u∈OG T.g v↔v∈OG G.g u:=λu v=>by rw[ht];exact Z7 eK
 have G5:T.g.length=G.g.length:=by rw[ht];exact RF _
 obtain⟨ln0,ln1,ln2,ln3,ln4⟩:=hJ.ls
 obtain⟨vb,hV⟩:=h.dm
 have hR:=hV.cells
 refine py (e:=[(0,_)]) func47 O ntmps47 O O$ Pz O$ Pb O$ OL QV O$ OL zb8 O$ qV (OB U4 O O hR O)$ Oq ?_
 cases uU:s.QR with
 | true =>
   obtain⟨par,j,hT,hF,-,-,-,hI,-⟩:=hJ.sw uU
   have GM:s.go G.g T.g root={s with cand:=(Xe T.g G.g.length s.num s.ord (s.fin-1) (s.cand,false)).1,done:= !(Xe T.g G.g.length s.num s.ord (s.fin-1) (s.cand,false)).2}:=by
    unfold Rs.go;rw[if_pos uU]
   rw[GM];refine OI O (Qh O (OQ zjb O (z4F h ω hT hF hI hr lh G5 ln0 ln4) ?_));rintro _ w1 ⟨rfl,hW⟩;obtain⟨⟨txt1,K1,h1,AM,pW⟩,aG⟩:=hW;obtain⟨vb1,uX⟩:=h1.dm;have i7:=uX.cells;refine qV ((S1 O)) (Pb O (OL QV O (OL z2I O (OJ O (Qw US O O O i7 ξ) ?_))));rintro w2 ⟨cJ,am⟩;have h2:=h1.za8 (s':={s with cand:=(Xe T.g G.g.length s.num s.ord (s.fin-1) (s.cand,false)).1,done:= !(Xe T.g G.g.length s.num s.ord (s.fin-1) (s.cand,false)).2}) uX am cJ (Y3 O O O O O);refine Oq$ Oo func47 O ?_
   exact⟨_,rfl,⟨txt1,K1,h2,ω,pW⟩,aG.trans (am.OA λb e=> .inr (by rw[e];exact uX.o.1))⟩
 | false =>
   obtain⟨-,hI,hh,-⟩:=hJ.se uU;refine T2 O$ An$ QB O$ Ou$ RP (λe' w'=>e'=[(0,ptr rr 0)]/\(∃txt' K',Ri (UQ T.k root) G T Q txt' K' X rr O_ a L (s.Qa G.g 64) w'/\K'<=K+5*64/\∀y:Int,y<(a:Int)\/(a:Int)+(L:Int)<=y->txt' y=txt y)/\Kp (λb=>¬X b\/O_ b) w w') ?hk$ λhk=>?IS
   case hk=>
    rintro e' w1 ⟨rfl,⟨txt1,K1,h1,AM,pW⟩,aG⟩;obtain⟨kh,-⟩:=WU.Qa eK 64 hI;have GN:(s.Qa G.g 64).cand.length=G.g.length:=by rw[kh.cn];exact List.length_replicate
    have GO:(s.Qa G.g 64).QR=false:=(UB (g:=G.g) 64 (s:=s)).2.1.trans uU
    have GM:s.go G.g T.g root=if(s.Qa G.g 64).OO=0 then {s.Qa G.g 64 with QR:=true,cand:=(s.Qa G.g 64).cand.set root root} else s.Qa G.g 64:=by
     unfold Rs.go;rw[uU];rfl
    rw[GM];obtain⟨s1,dN⟩:∃s1,s.Qa G.g 64=s1:=⟨_,rfl⟩;rw[dN] at h1 GN GO⊢;obtain⟨vb1,uX⟩:=h1.dm;have i7:=uX.cells;refine P7 O$ Pb O$ OL QV O$ OL W4 O$ qV (OB U3 O O i7 O) ?_;by_cases rJ:s1.OO=0
    ·rw[if_pos rJ];refine QS O (Rf (Oq (OI O (P7 O (Pb O (OL QV O (OL zb8 O (OJ O (Qw US O O O i7 ξ) ?_))))))));rintro w2 ⟨cJ,am⟩;have h2:=h1.za8 (s':={s1 with QR:=true}) uX am cJ (Y3 O O O O O);obtain⟨vb2,qt⟩:=h2.dm;have Ar:=qt.cells;have hg:=Ext.OT w2;refine Oq (R8 (λw'=>Kp (λb=>¬YH G T X b) w2 w') O (OR 0 O O (hg.kp) (OR 1 O O (hg.kp) (Ow 2 O (Q8 O) (hg.kp) (Ow 3 O (Pk z7p O) (hg.kp) (qT 4 O (λ_ hS=>OB U3 O O (hS.On Ar (λe=>e (.inl (.inl (h2.xr _ qt.o.1))))) O) (hg.kp) (OR 5 O O (hg.kp) (Ow 6 O (Q8 O) (hg.kp) (Ow 7 O (Pk z7p O) (hg.kp) (qT 8 O (λ_ hS=>OB U3 O O (hS.On Ar (λe=>e (.inl (.inl (h2.xr _ qt.o.1))))) O) (hg.kp) (SH 9 O z3V O (SZ (h2.ext hg) ω (j:=2) (i:=root) (x:=root) ψ (by show root<s1.cand.length;omega) ω) ?_)))))))))));rintro _ w3 ⟨txt3,h3,qp,ar⟩;refine⟨hg.kp.trans ar,?_⟩;refine qE$ PQ func47 O ?_;exact⟨_,rfl,⟨txt3,K1+1,h3,ω,λy e=>(qp y e).trans (pW y e)⟩,(aG.trans (am.OA λb e=> .inr (by rw[e];exact uX.o.1))).trans ((hg.kp.trans ar).OA λb e=> .inl λe2=>e (.inl (.inl e2)))⟩
    ·rw[if_neg rJ];refine QS O$ Pu$ PX O$ PQ func47 O ?_;exact⟨_,rfl,⟨txt1,K1,h1,ω,pW⟩,aG⟩
   case IS=>
    refine Rw (α:=Nat×Rs) ((0,s)) (λy=>[(0,ptr rr 0),(2,I (y.1:Int))]) (λy w'=>y.1<=64/\Rs.Qa G.g (64-y.1) y.2=s.Qa G.g 64/\WU G.g root y.2/\(∃txt' K',Ri (UQ T.k root) G T Q txt' K' X rr O_ a L y.2 w'/\K'<=K+5*y.1/\∀y:Int,y<(a:Int)\/(a:Int)+(L:Int)<=y->txt' y=txt y)/\Kp (λb=>¬X b\/O_ b) w w') (λy=>64-y.1) ?hI ?hround
    case hI=>exact⟨Nat.zero_le _,rfl,hI,⟨txt,K,h,Nat.le_refl _,λ_ _=>rfl⟩,Kp.refl _ _⟩
    case hround=>
     rintro⟨i,s2⟩ w2 ⟨hi,vT,cA,⟨txt2,K2,h2,sk,gt⟩,am⟩ ih;dsimp only at hi vT cA h2 sk ih⊢;obtain⟨vb2,qt⟩:=h2.dm;have cJ:=qt.cells
     try dsimp only
     refine Pz O ?_;by_cases MZ:i<64
     ·have qA:(if 0<s2.OO then(s2.move G.g).Qa G.g (64-(i+1)) else s2)=s.Qa G.g 64:=by
       rw[<-vT,show 64-i=(64-(i+1))+1 by omega];rfl
      refine Qv O$ Rf$ OX O$ Pb O$ OL QV O$ OL W4 O$ qV (OB U3 O O cJ O) ?_;by_cases BA:0<s2.OO
      ·rw[if_pos BA] at qA;refine Qr O (Rf (QQ O (Oq (OI O (Ot (Qt (R0 O (OQ ziM O (z5U h2 cA BA ω) ?_))))))));rintro _ w3 ⟨⟨txt3,K3,h3,Of,qp⟩,ar⟩;obtain⟨ye,-⟩:=cA.move eK BA;refine Oq$ Om$ R0 O$ PL O$ OK O ?_;exact(ih (i+1,s2.move G.g) _ ⟨by show i+1<=64;omega,qA,ye,⟨txt3,K3,h3,by show K3<=K+5*(i+1);omega,λy e=>(qp y e).trans (gt y e)⟩,am.trans ar⟩ (by show 64-(i+1)<64-i;omega)).qb
      ·rw[if_neg BA] at qA;subst qA;refine Qr O$ Pu$ QQ O$ Oq$ Ox O$ OD O ?_;exact(hk _ _ ⟨rfl,⟨txt2,K2,h2,ω,gt⟩,am⟩).qb
     ·have dt:64-i=0:=by omega
      rw[dt,show Rs.Qa G.g 0 s2=s2 from rfl] at vT;subst vT;refine Qv O$ Pu$ OC O$ QI$ QI$ QI$ PC O$ Oq$ Ox O$ OD O ?_;exact(hk _ _ ⟨rfl,⟨txt2,K2,h2,ω,gt⟩,am⟩).qb
end
end Go.Proofs.YtbihggbffaigjaaGreatDoor
