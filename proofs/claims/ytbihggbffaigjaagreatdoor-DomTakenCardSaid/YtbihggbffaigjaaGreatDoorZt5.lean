/- Merged by program. -/
import Derived.Test.YtbihggbffaigjaaGreatDoorZt4
set_option linter.all false
set_option maxRecDepth 1000000
set_option maxHeartbeats 16000000
namespace Go.Proofs.YtbihggbffaigjaaGreatDoor
open Go Go.RowKit Go.Proofs.Tryz
variable {A A' A2:Arc}{E:List (Nat×Nat)}{F X:Nat->Prop}{H L W:List Bool}{P:Program}{V V' V2:Nat->Value×Value}{a b b5 bytes c cap fb gb gi i j k m o p pb z:Nat}{aft:Array Edge}{ca ks mp:Value}{cs:List Value}{el kt t t' ty:TypeId}{f:Fm}{g:List (List Nat)}{kv:List (Int×Value)}{nm:String}{s:PU}{w w' w2:World}{y:Operand}
theorem z2A (n:Nat):QO (List.replicate n false)=0:=by
 rw[<-X4,Rl];simp
theorem z5p (b:List Bool)(k:Nat):QO (b++List.replicate k false)=QO b*2^k:=by
 rw[T7,z2A,y0b,y1f]
theorem z3r (b:List Bool)(k:Nat):QO (List.replicate k false++b)=QO b:=by
 rw[T7,z2A];simp
theorem z2k {D:List Bool}(d:m<=D.length+a)(e:m<=D.length+b):(D++List.replicate a false).take m=(D++List.replicate b false).take m:=by
 rw[y2o,y2o,y2M,y2M,y0B ω,y0B ω]
def wdB (H:List Bool)(a:Nat):List Bool:=List.replicate (a%8) false++(H.drop a++List.replicate 64 false).take (64-a%8)
def z9H (H:List Bool)(a:Nat):(wdB H a).length=64:=by
 unfold wdB
 rw[y01,y0b,y0d,y01,y0b]
 omega
theorem zaE {fq n:Nat}(u:8*fq<H.length)(v:n=min 8 ((H.length+7) / 8-fq)):
  Qo (((Qw H).drop fq).take n)++List.replicate (64-8*n) false=(H.drop (8*fq)++List.replicate 64 false).take 64:=by
 obtain⟨z,d,q,r⟩:=Tt H
 rw[VK,UM,d,y1i ω]
 have l:(H.drop (8*fq)).length=H.length-8*fq:=y08
 generalize H.drop (8*fq)=D at l
 rcases y0a n 8 with h| h
 ·have e:8*n=D.length+z:=ω
  rw[y0z (by rw[y01,y0b];omega),y06,y2P];rw[z2k (a:=64) (b:=z+(64-8*n)) ω ω,y0z (by rw[y01,y0b];omega)]
 ·have e:n=8:=ω
  subst e;rw[show 64-8*8=0 from rfl,y2K,y0o];exact z2k ω ω
def zac (l:W.length=64){d:Nat}(n:d<=64):QO W%2^(64-d)=QO (List.replicate d false++W.drop d):=by
 have e:=T7 (W.take d) (W.drop d)
 rw[y1e,y08,l] at e
 have h:=Se (W.drop d)
 rw[y08,l] at h
 rw[z3r,e,y1B,Nat.add_mul_mod_self_right,y0e h]
def zbD (e:a<H.length):List.replicate (a%8) false++((H.drop (8*(a / 8))++List.replicate 64 false).take 64).drop (a%8)=wdB H a:=by
 unfold wdB
 congr 1
 have d:a%8<=(H.drop (8*(a / 8))).length:=by rw[y08];omega
 rw[y1r,y1i d,y0G,show 8*(a / 8)+a%8=a by omega]
theorem zcf {r:Nat}(e:a<H.length)(h:a / 8*8+64=H.length+r):∃q,QO (wdB H a)=q*2^r:=by
 have d:(H.drop a).length=H.length-a:=y08
 refine⟨QO (List.replicate (a%8) false++H.drop a),?_⟩
 rw[<-z5p]
 congr 1
 unfold wdB
 rw[y06,z2k (a:=64) (b:=r) ω ω,y0z (by rw[y01,y0b];omega)]
theorem zaV {d:Nat}(l:d<=64):18446744073709551615 / 2^d=2^(64-d)-1:=by
 have n:0<2^d:=y0y d
 have e:2^64=2^d*2^(64-d):=by rw[<-y0I,show d+(64-d)=64 by omega]
 have q:0<2^(64-d):=y0y _
 have h:18446744073709551615=(2^d-1)+2^d*(2^(64-d)-1):=by
  rw[Nat.mul_sub,<-e,y0p];have r:2^d<=2^64:=y0t ψ l;omega
 rw[h,y2i _ _ n,y2h ω,y0k]
def z9F {b:List Bool}(h:b.length=64):QO b<18446744073709551616:=by
 have:=Se b
 rw[h] at this
 exact this
def zh0 (l:List Nat)(f:Fm)(d:f.high=12+(Qw (Tx f.width l)).length){n:Nat}(h:o+n<=(Qw (hiB f.width 0 0 l)).length):((ZV l f).drop (f.high+o)).take n=((Qw (hiB f.width 0 0 l)).drop o).take n:=by
 unfold ZV
 exact piece (by rw[y01,show Qw (Qu 32 f.n++Qu 64 f.u)=Qw (Uj f) from rfl,VX,d]) h
theorem WS.high {l:List Nat}(d:WS l f z):f.high=12+(Qw (Tx f.width l)).length:=by
 unfold Fm.high
 rw[QP,VR,d.n]
theorem WS.bits {l:List Nat}(d:WS l f z):f.bits=(hiB f.width 0 0 l).length:=by
 rw[z2i f.width d.nof d.last]
 rw[d.fe]
 show(z+1-1) / _+_=_
 rw[y1h]
 rfl
theorem z8E {u:Value}{l:List Nat}(N:WS l f z)(R:Src t u (ZV l f))(hI:R.inv X w)(hX:∀k,X k->k<w.heap.size){x b3 B v0:Nat}(p:X x)(o:X b3)(b:X B)(c:B≠x/\B≠b3)(hB:Q8 w x (elC f t u) 293)(U:Q8 w b3 [ptr x 0] 156)(aW:Q8 w B [Qi v0] 39)(ha:a<f.bits):
  Qx prog 247 [I (a:Int),ptr b3 0,ptr B 0] w λr w'=>r=I 0/\R.inv X w'/\Kp (λk=>¬X k\/k=B) w w'/\Q8 w' B [Qi (QO (wdB (hiB f.width 0 0 l) a))] 39:=by
 have aw:=N.len
 obtain⟨xL,yI⟩:=N.size_le
 have s:=N.small
 have o4:=Fm.Yq s
 have fI:=s.2.2
 have F:=N.bits
 have yK:=N.high
 have g8:(Qw (hiB f.width 0 0 l)).length=(f.bits+7) / 8:=by rw[QP,F]
 replace hB:Q8 w x [I (f.n:Int),Qi f.u,I (f.width:Int),I (f.bits:Int),.iface t u] 293:=hB
 refine py (e:=[(0,_),(1,_),(2,_)]) func247 O ntmps247 O O<|qN O<|RZ O<|qV (zgJ O O ω)<|Sb O<|qV (Q0 z3h O O U O)<|QC O<|Qf TC O<|Qf z06 O<|qV (Q0 U3 O O hB O)<|Ra O<|qV (Yx O O ω)<|Q4 O<|qV (Yx O O ω) ?_
 refine SA O ?_
 rw[show((f.bits:Int)+7) / 8-((a / 8*8:Nat):Int) / 8=(((f.bits+7) / 8-a / 8:Nat):Int) by omega]
 refine qV (ymi O O) ?_
 rw[show min (8:Int) (((f.bits+7) / 8-a / 8:Nat):Int)=((min 8 ((f.bits+7) / 8-a / 8):Nat):Int) by omega]
 obtain⟨n,V⟩:∃n,n=min 8 ((f.bits+7) / 8-a / 8):=⟨_,O⟩
 rw[<-V]
 have hg:=Ext.Qm w
 refine Qe O<|It<|Sq (λw'=>Kp (λk=>¬X k) w w') O<|qT 0 O (λ_ G=>(Q0 z3h O O (G.PO U (λe=>e o)) O)) hg.kp<|PV 1 O (Rs O) hg.kp<|PV 2 O (QE z4g O) hg.kp<|qT 3 O (λ_ G=>(Q0 z3a O O (G.PO hB (λe=>e p)) O)) hg.kp<|qT 4 O (λ_ G=>(Q0 z3h O O (G.PO U (λe=>e o)) O)) hg.kp<|PV 5 O (Rs O) hg.kp<|PV 6 O (QE TC O) hg.kp<|Ql 9 O O hg.kp<|PV 10 O (Yx O O ω) hg.kp<|Ql 12 O O hg.kp<|qT 7 O (λ_ G=>QB (news:=fmC f) z00 O Ux O ((G.PO hB (λe=>e p)).cells (n:=4) O) O) hg.kp ?_
 refine PV 13 O (zim O) hg.kp<|Ql 14 O O hg.kp<|TQ 8 O zfn O (z5i f s _) ?_
 rintro _ w1⟨rfl,j⟩
 refine⟨(hg.trans j).kp,?_⟩
 have C:=hg.trans j
 refine PV 11 O (W7 O O ω) ((hg.trans j).kp) ?_
 rw[show(f.high:Int)+((a / 8*8:Nat):Int) / 8=((f.high+a / 8:Nat):Int) by omega]
 have kH:=R.ext hI C (λk J=> .inl J)
 have eE:∀k,X k->k<w1.heap.size:=λk J=>by have:=hX k J;have:=C.size;omega
 have uq:a / 8+n<=(Qw (hiB f.width 0 0 l)).length:=by rw[g8];omega
 have ur:f.high+a / 8+n<=(ZV l f).length:=by
  rw[aw];have e:f.size=f.Wa+4*((f.n+63) / 64):=rfl;have e2:f.Wa=f.high+(f.bits+7) / 8:=rfl;omega
 have jL:=zh0 l f yK uq
 have o5:=zaE (H:=hiB f.width 0 0 l) (fq:=a / 8) (n:=n) ω (by rw[<-F];exact V)
 refine qO 15<|XH (i:=15) O O O (yci R.cr R.mr O O) (R.rd (f.high+a / 8) n kH eE ur) ?_
 rintro _ w2⟨rfl,cH,D⟩
 refine⟨C.kp.trans D,?_⟩
 rw[jL]
 have Z:Kp (λk=>¬X k) w w2:=C.kp.trans D
 have ak:=Z.PO hB (λe=>e p)
 have de:=Z.PO U (λe=>e o)
 have u3:=Z.PO aW (λe=>e b)
 have Ew:(((Qw (hiB f.width 0 0 l)).drop (a / 8)).take n).length=n:=by rw[y0d,y08];omega
 generalize ((Qw (hiB f.width 0 0 l)).drop (a / 8)).take n=pt at o5 Ew
 refine Ql 16 O O (C.kp.trans D)<|PV 17 O (SH O O) (C.kp.trans D)<|PV 18 O (SH O O) (C.kp.trans D)<|PV 19 O (SG O) (C.kp.trans D)<|PV 20 O (SG O) (C.kp.trans D)<|qE<|QA.qb (e:=[(0,_),(1,_),(2,_),(4,_),(5,_),(6,_),(7,_),(8,_)]) ?_
 refine Qz O<|Qj z9y O (Y7 pt ω w2) ?_
 rintro _ w3⟨rfl,K⟩
 refine Q4 O<|qV (WB O O ω)<|SA O ?_
 rw[show(64:Int)-8*(n:Int)=((64-8*n:Nat):Int) by omega]
 refine qV (Sz (64-8*n) (2^(64-8*n)) O O ω O) ?_
 have g:=z5p (Qo pt) (64-8*n)
 rw[o5] at g
 have M4:((hiB f.width 0 0 l).drop (8*(a / 8))++List.replicate 64 false).take 64=((hiB f.width 0 0 l).drop (8*(a / 8))++List.replicate 64 false).take 64:=rfl
 obtain⟨Q,yL⟩:∃Q,Q=((hiB f.width 0 0 l).drop (8*(a / 8))++List.replicate 64 false).take 64:=⟨_,O⟩
 have yM:Q.length=64:=by rw[yL,y0d,y01,y0b];omega
 have A:=zbD (H:=hiB f.width 0 0 l) (a:=a) ω
 rw[<-yL] at g A
 have P:=zac yM (d:=a%8) ω
 rw[A] at P
 have o7:=z9F yM
 rw[<-g,y0e o7]
 refine Qc O (S0 Uw O O O (K.PO u3) ξ) ?_
 rintro y⟨Y,T⟩
 replace Y:Q8 y B [Qi (QO Q)] 39:=Y
 have aJ:=T.PO (K.PO ak) (λe=>c.1 e.symm)
 have cY:=T.PO (K.PO de) (λe=>c.2 e.symm)
 have mX:=R.own (R.ext cH K (λk J=> .inl J)) T (λk e=>by rw[e];exact b)
 have v:=Ext.Qm y
 refine PR<|It<|Qp [6] (λw'=>Ext y w') y00 O<|qL 0 O (λ_ h=>Q0 SK O O (h.PO Y) O) v<|R1 1 O O v<|R1 2 O O v<|Qs 3 O (YS O O ω) v ?_
 rw[show(a:Int)-((a / 8*8:Nat):Int)=((a%8:Nat):Int) by omega]
 refine Qs 4 O (Vl (m:=18446744073709551615) (a%8) (2^(a%8)) O O (by show a%8<=64;omega) O) v ?_
 rw[zaV (d:=a%8) ω]
 have M5:2^(64-a%8)<=2^64:=y0t ψ ω
 refine Qs 5 O (VY O O ω ω) v ?_
 rw[y13,P]
 refine U0 [6]<|qO 6<|QQ (i:=6) O O (S0 Uw O O O (v.PO Y) ξ) ?_
 rintro w5⟨M,S⟩
 refine⟨trivial,?_⟩
 replace M:Q8 w5 B [Qi (QO (wdB (hiB f.width 0 0 l) a))] 39:=M
 have aG:=S.PO (v.PO aJ) (λe=>c.1 e.symm)
 have cB:=S.PO (v.PO cY) (λe=>c.2 e.symm)
 have W:=R.own (R.ext mX v (λk J=> .inl J)) S (λk e=>by rw[e];exact b)
 have L:Kp (λk=>¬X k\/k=B) w w5:=(((Z.PZ λk e=> .inl e).trans K.kp).trans (T.PZ λk e=> .inr e)).trans (v.kp.trans (S.PZ λk e=> .inr e))
 have Ey:=z9F (z9H (hiB f.width 0 0 l) a)
 refine qE<|QV O<|Ra O<|qV (Q0 z3h O O cB O)<|QC O<|Qf TC O<|Qf z06 O<|qV (Q0 U3 O O aG O)<|SA O<|Qe O<|QA.qb (e:=[(2,_),(4,_),(8,_),(9,_)]) ?_
 refine Qz O<|RR O<|PR<|Qa O (λh0=>?_)<|λh0=>?_
 ·obtain⟨r,hr⟩:∃r,a / 8*8+64=f.bits+r:=⟨a / 8*8+64-f.bits,ω⟩;obtain⟨q,hq⟩:=zcf (H:=hiB f.width 0 0 l) (a:=a) (r:=r) ω ω;rw[show((a / 8*8:Nat):Int)+64-(f.bits:Int)=(r:Int) by omega];have hp:=y0y r
  have yN:QO (wdB (hiB f.width 0 0 l) a) / 2^r*2^r%18446744073709551616=QO (wdB (hiB f.width 0 0 l) a):=by
   rw[y0e (y1R (y1F _ _) Ey),hq,Nat.mul_div_cancel _ hp]
  refine PY O (qV (Q0 SK O O M O) (Q4 O (qV (Vl r (2^r) O O (by show r<=64;omega) O) ?_)));refine Q4 O (qV (Sz r (2^r) O O ω O) ?_);rw[yN];refine Qc O (S0 Uw O O O M ξ) ?_;rintro w6⟨kI,E⟩;refine qM O<|Q4 O<|Qe O<|PQ func247 O ?_;exact⟨_,O,O,R.own W E (λk e=>by rw[e];exact b),L.trans (E.PZ λk e=> .inr e),kI⟩
 ·refine PS<|Qz O<|Qe O<|PQ func247 O ?_;exact⟨_,O,O,W,L,M⟩
def z6F:∀{W:List Bool} {k p:Nat},SO W k=some p->∃z r,W=List.replicate z false++true::r
 |true::W,k,p,h=>⟨0,W,rfl⟩
 | false :: W, k, p, h => by
   simp only[SO,y1S] at h;obtain⟨q,d,-⟩:=h;obtain⟨z,r,e⟩:=z6F d
   exact⟨z+1,r,by rw[e,y19];rfl⟩
 |[],k,p,h=>by simp[SO] at h
theorem z8y (z:Nat)(r:List Bool)(k:Nat):SO (List.replicate z false++true::r) (k+1)=SO (List.replicate (z+1) false++r) k:=by
 rw[VO,VO,SO,y28]
 congr 1
 funext j;show j+1+z=j+(z+1);omega
theorem zam (z:Nat)(r:List Bool):SO (List.replicate z false++true::r) 0=some z:=by
 rw[VO,SO];simp
def z86 (z:Nat)(r:List Bool):R6 (QO (List.replicate z false++true::r))=r.length+1:=by
 rw[Z6]
 have:=Se r
 exact z9z ω (by rw[y1J];omega)
theorem z3D (n:Nat):(List.replicate n false).count true=0:=by
 rw[List.count_replicate];rfl
theorem z3P (H:List Bool)(a:Nat):(wdB H a).count true=((H.drop a).take (64-a%8)).count true:=by
 unfold wdB
 rw[y36,z3D,y0k,y2o,y36,y2M,z3D];omega
def ze8 (h:W.length=64):(Qu 64 (QO W)).count true=W.count true:=by
 have:=z2T W
 rw[h] at this
 rw[this]
def zdN {q:Nat}(h:SO (H.drop a) k=some q)(d:k<(wdB H a).count true):SO (wdB H a) k=some (a%8+q):=by
 rw[z3P] at d
 have e:=XY ((H.drop a).take (64-a%8)) ((H.drop a).drop (64-a%8)) k
 rw[y1e,if_pos d,h] at e
 unfold wdB
 rw[VO,y2o,XY,if_pos d,<-e]
 show some (q+a%8)=_
 rw[y1B]
theorem zbB {q:Nat}(h:SO (H.drop a) k=some q)(r:(wdB H a).count true<=k):64-a%8<=q/\SO (H.drop (a / 8*8+64)) (k-(wdB H a).count true)=some (q-(64-a%8)):=by
 rw[z3P] at r⊢
 have e:=XY ((H.drop a).take (64-a%8)) ((H.drop a).drop (64-a%8)) k
 rw[y1e,if_neg ω,h] at e
 obtain⟨p,d,l⟩:=y1S.1 e.symm
 have n:=(z1L d).1
 rw[y08] at n
 rw[y0d,y0B ω] at l
 rw[y0G,show a+(64-a%8)=a / 8*8+64 by omega] at d
 exact⟨ω,by rw[d];congr 1;omega⟩
theorem zaO {u:Value}{l:List Nat}(g:WS l f z)(R:Src t u (ZV l f))(hI:R.inv X w)(hX:∀k,X k->k<w.heap.size){x:Nat}(m:X x)(hB:Q8 w x (elC f t u) 293){q:Nat}(aI:k<=1000000)(hq:SO ((hiB f.width 0 0 l).drop p) k=some q):
  Qx prog 239 [ptr x 0,I (p:Int),I (k:Int)] w λr w'=>r= .tuple #[I ((p+q:Nat):Int),I 0]/\R.inv X w'/\Kp (λj=>¬X j) w w':=by
 have bU:=g.bits
 have fI:=g.small.2.2
 have dh:=hX x m
 refine py (e:=[(0,_),(1,_),(2,_)]) func239 O ntmps239 O O<|qN O<|PX O O (Sy O (cs:=[ptr x 0]) O) ?_
 rintro _ w1⟨b3,rfl,ev,ad,au⟩
 refine Tq O<|Sb O<|PX O O (SE (cs:=[_]) Uw O) ?_
 rintro _ w2⟨d,rfl,gV,c,M⟩
 have z1:=ad.size
 have z2:=c.size
 have l3:=au.lt
 have l8:=M.lt
 have Z:=ad.trans c
 have cH:R.inv (λj=>X j\/j=b3\/j=d) w2:=R.ext hI Z (λj B=>by rcases B with e|e|e;exact .inl e;exact .inr ω;exact .inr ω)
 replace M:Q8 w2 d [Qi 0] 39:=M
 refine qM O<|qV (ymf (first:=[]) (caps:=[.tmp 3,.tmp 8]) O O)<|Qe O<|QV O<|Qe O<|PT<|SN (α:=Nat×Nat×Nat×Nat) (p,k,q,0) (λy=>[(2,I (y.2.1:Int)),(3,ptr b3 0),(8,ptr d 0),(9,.func (.func 247) #[] #[ptr b3 0,ptr d 0]),(10,I (y.1:Int))]) (λy w'=>R.inv (λj=>X j\/j=b3\/j=d) w'/\Kp (λj=>¬X j) w w'/\w2.heap.size<=w'.heap.size/\Q8 w' x (elC f t u) 293/\Q8 w' b3 [ptr x 0] 156/\Q8 w' d [Qi y.2.2.2] 39/\SO ((hiB f.width 0 0 l).drop y.1) y.2.1=some y.2.2.1/\y.1+y.2.2.1=p+q/\y.2.1<=1000000) (λy=>f.bits-y.1) ?hI ?hround
 case hI=>exact⟨cH,Z.kp,y04 _,Z.PO hB,c.PO au,M,hq,O,aI⟩
 case hround =>
  rintro⟨a,U,F,v4⟩ w4 ⟨mX,aq,IW,K,T,dQ,S,DO,yO⟩ ih;dsimp only at mX aq IW K T dQ S DO yO;have yP:=(z1L S).1;rw[y08] at yP;have BS:a<f.bits:=ω
  have EA:∀j,(X j\/j=b3\/j=d)->j<w4.heap.size:=λj B=>by
   rcases B with e|e| e
   ·have:=hX j e;omega
   ·omega
   ·omega
  have fx:Q8 w4 x [I (f.n:Int),Qi f.u,I (f.width:Int),I (f.bits:Int),.iface t u] 293:=K
  try dsimp only
  refine QV O<|qV (Q0 z3h O O T O)<|QC O<|Qf TC O<|Qf z06 O<|qV (Q0 U3 O O fx O)<|RT O<|PR<|Qa O (λh0=>?_)<|λh0=>?_
  ·refine PS (RU (It (RK O (S5 O O (SQ zjg O O) (z8E g R mX EA (.inl m) (.inr (.inl O)) (.inr (.inr O)) ⟨ω,ω⟩ K T dQ BS) ?_))));rintro _ P⟨rfl,mc,N,Q⟩;have z5:=N.size;have cR:Kp (λj=>¬X j) w P:=aq.An N (λj B=>by rcases B with e|e;exact .inr (λh=>e (.inl h));exact .inl ω);have aG:=N.PO K (λe=>by rcases e with e|e;exact e (.inl m);omega);have cB:=N.PO T (λe=>by rcases e with e|e;exact e (.inr (.inl O));omega);have J:=z9H (hiB f.width 0 0 l) a;have yR:=z9F J;have wT:=ze8 J;have pp:=λh=>zdN (H:=hiB f.width 0 0 l) S h;have V:=λh=>zbB (H:=hiB f.width 0 0 l) S h
   generalize wdB (hiB f.width 0 0 l) a=W at J yR wT pp V Q
   have f7:W.count true<=64:=by rw[<-J];exact List.count_le_length
   refine RZ O<|RI O<|Ri O<|It<|qN O<|qV (Q0 SK O O Q O)<|Qj zki O (zdf (QO W) yR P) ?_;rintro _ P⟨rfl,rfl⟩;rw[wT];refine Sb O<|Qq O<|zle O<|PR<|Qa O (λh1=>?_)<|λh1=>?_
   ·obtain⟨eg,dv⟩:=V ω;refine RK O<|SA O<|Qe O<|Q7 O<|Sv O ?_;rw[show(U:Int)-((W.count true:Nat):Int)=((U-W.count true:Nat):Int) by omega];refine qV (zgJ O O ω)<|Ra O<|Qe O ?_;rw[show((a / 8*8:Nat):Int)+64=((a / 8*8+64:Nat):Int) by omega];exact(ih (a / 8*8+64,U-W.count true,F-(64-a%8),QO W) _ ⟨mc,cR,ω,aG,cB,Q,dv,by dsimp only;omega,by dsimp only;omega⟩ (by dsimp only;omega)).qb
   ·have pn:=pp ω;refine PS<|RU<|SN (α:=List Bool×Nat) (W,U) (λy=>[(2,I (y.2:Int)),(8,ptr d 0),(10,I (a:Int))]) (λy w'=>R.inv (λj=>X j\/j=b3\/j=d) w'/\Kp (λj=>¬X j) w w'/\Q8 w' d [Qi (QO y.1)] 39/\y.1.length=64/\SO y.1 y.2=some (a%8+F)/\y.2<=1000000) (λy=>y.2) ?hI ?hround
    case hI=>exact⟨mc,cR,Q,J,pn,yO⟩
    case hround=>
     rintro⟨W6,s⟩ w6 ⟨E,b,G,A,C,EB⟩ o;dsimp only at E b G A C EB;obtain⟨Y,r,rfl⟩:=z6F C;have yS:=z86 Y r;have M6:=Z6 Y r;have qB:=Se r;have yT:=z9F A;rw[y01,y0b,y02] at A
     try dsimp only
     refine QV O<|RR O<|PR<|Qa O (λh2=>?_)<|λh2=>?_
     ·obtain⟨D,rfl⟩:∃D,s=D+1:=⟨s-1,ω⟩;rw[z8y] at C;have v:=Ext.Qm w6;refine PS (RU (Qp [6] (λw'=>Ext w6 w') y00 O (qL 0 O (λ_ h=>Q0 SK O O (h.PO G) O) v (qL 1 O (λ_ h=>Q0 SK O O (h.PO G) O) v (RM (i:=2) y00 (S2 (i:=2) O O O (yc zfW O) (zbX _ yT _) ?_))))));rintro _ w7⟨rfl,rfl⟩;refine⟨v,?_⟩;rw[yS];refine Qs 3 O (YS O O ω) v ?_;rw[show(63:Int)-((64-(r.length+1):Nat):Int)=(r.length:Int) by omega];refine Qs 4 O (Sz r.length (2^r.length) O O ω O) v ?_;have g8:2^r.length<=2^63:=y0t ψ ω;rw[show 1*2^r.length%18446744073709551616=2^r.length by rw[y0O];exact y0e ω];rw[M6];refine Qs 5 O (zlD ω qB O O O) v (U0 [6] (qO 6 (QQ (i:=6) O O (S0 Uw O O O (v.PO G) ξ) ?_)));rintro w8⟨L,aQ⟩;refine⟨trivial,?_⟩;replace L:Q8 w8 d [Qi (QO r)] 39:=L;refine qE<|PN<|Sv O<|SA O<|Qe O ?_;rw[show((D+1:Nat):Int)-1=(D:Int) by omega];refine(o (List.replicate (Y+1) false++r,D) _ ⟨R.own (R.ext E v (λj B=> .inl B)) aQ (λj e=> .inr (.inr e)),(b.trans v.kp).An aQ (λj e=> .inl ω),?_,?_,C,by dsimp only;omega⟩ (by dsimp only;omega)).qb
      ·dsimp only;rw[z3r];exact L
      ·dsimp only;rw[y01,y0b];omega
     ·have EC:s=0:=ω
      subst EC;rw[zam] at C;have Pa:Y=a%8+F:=SJ C;refine Q7 O (Qz O (qV (zgJ O O ω) (qV (Q0 SK O O G O) (Qj zfW O (zbX _ yT _) ?_))));rintro _ w7⟨rfl,rfl⟩;rw[yS];refine Ra O ?_;rw[show((a / 8*8:Nat):Int)+((64-(r.length+1):Nat):Int)=((p+q:Nat):Int) by omega];refine Rw O<|PQ func239 O ?_;exact⟨_,O,O,R.ext E (Ext.refl _) (λj B=> .inl (.inl B)),b⟩
  ·omega
theorem zdg (l:List Nat)(f:Fm)(e:f.Wa=12+(Qw (Tx f.width l)).length+(Qw (hiB f.width 0 0 l)).length)(q:(Qw (Tl f.width l)).length=4):((ZV l f).drop f.Wa).take 4=Qw (Tl f.width l):=by
 have h:=piece (A:=Qw (Qu 32 f.n++Qu 64 f.u)++Qw (Tx f.width l)++Qw (hiB f.width 0 0 l)) (B:=Qw (Tl f.width l)) (C:=[]) (off:=f.Wa) (n:=4) (o:=0) (by rw[y01,y01,show Qw (Qu 32 f.n++Qu 64 f.u)=Qw (Uj f) from rfl,VX,e];omega) ω
 have d:((Qw (Tl f.width l)).drop 0).take 4=Qw (Tl f.width l):=by rw[y0U];exact y0z ω
 rw[y0o] at h
 exact h.trans d
theorem zdD {l:List Nat}{y:Nat}(h:l[0]? =some y)(v:y<4294967296):QO (Qo (Qw (Tl k l)))=y / 2^k/\(Qw (Tl k l)).length=4:=by
 obtain⟨r,rfl⟩:∃r,l=y::r:=by
  cases l with
  |nil=>simp at h
  |cons a r=>simp at h;subst h;exact⟨r,O⟩
 have n:Tl k (y::r)=Qu 32 (y / 2^k):=rfl
 obtain⟨z,d,e,u⟩:=Tt (Qu 32 (y / 2^k))
 rw[bitsN_length] at e
 have q:z=0:=ω
 rw[n,d,q,y2K,y0o,Rl,QP,bitsN_length]
 have:=y0P y (2^k)
 exact⟨y0e ω,O⟩
theorem z44 {u:Value}{l:List Nat}(d:WS l f z)(R:Src t u (ZV l f))(hI:R.inv X w)(U:∀k,X k->k<w.heap.size){x:Nat}(G:X x)(hB:Q8 w x (elC f t u) 293){v:Nat}(J:l[i]? =some v):
  Qx prog 228 [ptr x 0,I (i:Int)] w λr w'=>r= .tuple #[Qi v,I 0]/\R.inv X w'/\Kp (λj=>¬X j) w w':=by
 have dp:=(y0l.1 J).1
 have c:=d.len
 have jN:=d.n2
 have qa:=d.n
 have xm:=d.zb
 have wR:f.width<=30:=by rw[d.fe];exact z0A ω
 have ut:=d.small
 have s:∀j y k Y,l[j]? =some y->l[k]? =some Y->j<=k->y<=Y:=λj y k Y o q qC=>by
  obtain⟨a1,a2⟩:=y0l.1 o;obtain⟨b1,b2⟩:=y0l.1 q;rcases y0a j k with h| h
  ·have:=y1C.1 d.nof j k a1 b1 h
   rwa [a2,b2] at this
  ·have e:j=k:=Nat.le_antisymm qC h;subst e;rw[o] at q;cases q;exact y04 _
 have IK:v<=z:=s i v _ z J d.last ω
 obtain⟨C,N⟩:∃y,l[0]? =some y:=⟨_,y07 ω⟩
 have L:C<=v:=s 0 C i v N J (y03 _)
 obtain⟨P,io⟩:=zdD (k:=f.width) N ω
 have V:=zdg l f (by
  have e:f.Wa=f.high+(f.bits+7) / 8:=rfl
  rw[e,d.high,QP (hiB f.width 0 0 l),d.bits]) io
 have m:=z2F f.width l 0 0 0 C d.nof N (λy _=>y03 _)
 have F:=z2F f.width l 0 0 i v d.nof J (λy _=>y03 _)
 simp only[y1f,y2W] at m F
 have M:=z0M (hiB f.width 0 0 l) 0 (C / 2^f.width) i m
 rw[y0k,F] at M
 have Z:C / 2^f.width<=v / 2^f.width:=y1N L
 have A:f.Wa+4<=(ZV l f).length:=by
  rw[c];have e:f.size=f.Wa+4*((f.n+63) / 64):=rfl;rw[e,qa];omega
 have ia:f.Wa<=40000000:=by have:=d.size_le.1;rw[c] at A;omega
 replace hB:Q8 w x [I (f.n:Int),Qi f.u,I (f.width:Int),I (f.bits:Int),.iface t u] 293:=hB
 refine py (e:=[(0,_),(1,_)]) func228 O ntmps228 O O<|qN O<|Rw O<|RU<|Qz O<|qV (Rm z3h O O)<|Qe O<|PW O<|Qz O<|RT O<|QW<|Qq O<|Q4 O<|QC O ?_
 refine Qf TC O<|Qf z0e O<|qV (Q0 U3 O O hB O)<|UL O<|QW<|R0 O<|Qe O<|Us O<|PN<|It ?_
 have hg:=Ext.Qm w
 refine Sq (λw'=>Kp (λk=>¬X k) w w') O<|Ql 0 O O hg.kp<|PV 1 O (Rs O) hg.kp<|PV 2 O (QE z4g O) hg.kp<|qT 3 O (λ_ h=>Q0 z3a O O (h.PO hB (λe=>e G)) O) hg.kp<|Ql 4 O O hg.kp<|PV 5 O (Rs O) hg.kp<|PV 6 O (QE TC O) hg.kp<|Ql 9 O O hg.kp<|PV 10 O (Yx O O ω) hg.kp<|PV 11 O (WB O O ω) hg.kp<|qT 7 O (λ_ hS=>QB (news:=fmC f) z00 O Ux O ((hS.PO hB (λe=>e G)).cells (n:=4) O) O) hg.kp<|PV 13 O (zim O) hg.kp<|Ql 14 O O hg.kp ?_
 refine TQ 8 O zfB O (z6g f ut _) ?_
 rintro _ w1⟨rfl,Q⟩
 refine⟨(hg.trans Q).kp,?_⟩
 have B:=hg.trans Q
 have kH:=R.ext hI B (λk q=> .inl q)
 have eE:∀k,X k->k<w1.heap.size:=λk q=>by have:=U k q;have:=B.size;omega
 refine PV 12 O (W7 O O ω) ((hg.trans Q).kp) ?_
 rw[show(f.Wa:Int)+4*((i:Int) / 64)=((f.Wa:Nat):Int) by omega]
 refine qO 15<|XH (i:=15) O O O (yci R.cr R.mr O O) (R.rd f.Wa 4 kH eE A) ?_
 rintro _ w2⟨rfl,cH,D⟩
 refine⟨B.kp.trans D,?_⟩
 rw[V]
 have eF:Kp (λk=>¬X k) w w2:=B.kp.trans D
 refine Ql 16 O O (B.kp.trans D)<|PV 17 O (SH O O) (B.kp.trans D)<|PV 18 O (SH O O) (B.kp.trans D)<|PV 19 O (SG O) (B.kp.trans D)<|PV 20 O (SG O) (B.kp.trans D)<|qE<|QA.qb (e:=[(0,_),(1,_),(4,_),(5,_),(6,_),(7,_)]) ?_
 refine QV O<|RI O<|Ri O<|RK O<|Qj z9y O (Y7 (Qw (Tl f.width l)) ω w2) ?_
 rintro _ E⟨rfl,b⟩
 rw[P]
 have S:Kp (λk=>¬X k) w E:=eF.trans b.kp
 have yU:=R.ext cH b (λk q=> .inl q)
 have pj:∀k,X k->k<E.heap.size:=λk q=>by have:=U k q;have:=S.size;omega
 have au:=S.PO hB (λe=>e G)
 have W:C / 2^f.width<=C:=y0P _ _
 have Ma:v / 2^f.width<=v:=y0P _ _
 have p:v / 2^f.width*2^f.width%18446744073709551616 |||v%2^f.width=v:=by
  have h1:=y1F v (2^f.width);rw[y0e ω,y0E,<-y24 (y0Y _ (y0y _))];exact y2b v (2^f.width)
 have i7:v%2^f.width<=v:=Nat.mod_le _ _
 generalize Mb:v / 2^f.width=K at M Z Ma p
 generalize C / 2^f.width=yq at M Z W
 refine qV (QU O SK U3 ω)<|Q4 O<|qV (yre O O ω) ?_
 rw[show(i:Int)%64=(i:Int) by omega]
 refine Qj zkJ O (zaO d R yU pj G au (k:=i) ω M) ?_
 rintro _ w4⟨rfl,mX,aq⟩
 rw[show yq+(K+i-yq)=K+i by omega]
 have T:=S.trans aq
 have H:∀k,X k->k<w4.heap.size:=λk q=>by have:=U k q;have:=T.size;omega
 have aJ:=T.PO hB (λe=>e G)
 refine Q4 O<|Tr O<|Rw O<|QV O<|RI O<|Ri O<|RK O<|Qj zjw O (zaM d R mX H G aJ J) ?_
 rintro _ w5⟨rfl,mc,ai⟩
 have g:=T.trans ai
 have a:=g.PO hB (λe=>e G)
 have BP:=d.u
 refine Q4 O<|Tr O<|Rw O<|QA.qb (e:=[(0,_),(1,_),(4,_),(5,_),(7,_),(8,_),(9,_)]) ?_
 refine QV O<|RI O<|Ri O<|RK O<|SA O ?_
 rw[show((K+i:Nat):Int)-(i:Int)=(K:Int) by omega]
 refine qV (Rz O U3 SK ω)<|Q4 O<|QC O<|Qf TC O<|Qf UD O<|qV (Q0 U3 O O a O)<|qV (Sz f.width (2^f.width) O O ω O)<|Q4 O ?_
 have BT:=y0Y (K*2^f.width) (show 0<18446744073709551616 by decide)
 refine qV (z2G O O ω ω) ?_
 rw[p]
 refine Qe O<|It<|RK O<|RT O<|QW<|Qq O<|Q4 O<|QC O<|Qf TC O<|Qf zf1 O<|qV (Q0 SK O O a O)<|UL O<|QW<|R0 O ?_
 refine PR<|QA.qb (e:=[(4,_),(5,_),(10,_),(93,_)]) ?_
 refine Us O<|Qz O<|Rw O<|PQ func228 O ?_
 exact⟨_,O,O,mc,g⟩
def zd9 (a b:PU)(w:World)(d:(a++b).length<=100000000000):Qx prog 150 [S (a++b),S a] w λu w'=>u= .bool true/\w'=w:=by
 rw[y01] at d
 have h:(a++b).length=a.length+b.length:=y01
 have ht:(a++b).take a.length=a:=y34
 refine py (e:=[(0,_),(1,_)]) func150 O ntmps150 O O<|qN O<|RZ O<|qV (Wb U9 O)<|Q4 O<|qV (Wb U9 O)<|UL O<|SD<|Qq O<|Q4 O<|qV (Wb U9 O)<|qV (z3p U9 O O ω)<|Q4 O ?_
 rw[ht]
 refine qV (zlv O O)<|SD<|Sh O<|Qe O<|PQ func150 O ?_
 exact⟨_,O,O,O⟩
def zdA (a b:PU)(w:World)(h:(a++b).length<=100000000000):Qx prog 202 [S (a++b),S a] w λu w'=>u= .tuple #[S b,.bool true]/\w'=w:=by
 have l:(a++b).length=a.length+b.length:=y01
 have d:(a++b).drop a.length=b:=y2V
 refine py (e:=[(0,_),(1,_)]) func202 O ntmps202 O O<|qN O<|Rw O<|It<|RK O<|Qj zi5 O (zd9 a b w h) ?_
 rintro _ w⟨rfl,rfl⟩
 refine qV (Tf O)<|Ri O<|RK O<|qV (Wb U9 O)<|qV (z1l U9 O O ω) ?_
 rw[d]
 refine Rw O<|PQ func202 O ?_
 exact⟨_,O,O,O⟩
def z7A (a b:PU)(w:World)(d:(a++b).length<=100000000000):Qx prog 170 [S (a++b),S a] w λu w'=>u= .tuple #[S b,.bool true]/\w'=w:=by
 refine py (e:=[(0,_),(1,_)]) func170 O ntmps170 O O<|qN O<|Tq O<|Sb O<|Qq O<|Qj zk8 O (zdA a b w d) ?_
 rintro _ w⟨rfl,rfl⟩
 refine Tr O<|Rw O<|PQ func170 O ?_
 exact⟨_,O,O,O⟩
theorem Uh {r b6 b7:Nat}(h:Va w r s a)(B:Q8 w b6 [ptr r 0] 289)(K:Q8 w b7 [.bool false] 4)(l:b6≠r/\b7≠r/\b6≠b7)(n v:Nat)(R:n<=64)(S:v<2^n)(Z:v<=134217728)(rest:List Bool)(C:(Qo s).drop a=Qu n v++rest):
  Qx prog 172 [I (n:Int),ptr b6 0,ptr b7 0] w λu w'=>u=I (v:Int)/\Va w' r s (a+n)/\Q8 w' b6 [ptr r 0] 289/\Q8 w' b7 [.bool false] 4/\Kp (λk=>k=r\/k=b7) w w':=by
 have Y:a+n<=8*s.length:=by
  have e:=congrArg List.length C;rw[y08,bitsT_length,y01,bitsN_length] at e;have:=h.2.1;omega
 have G:QO (((Qo s).drop a).take n)=v:=by
  rw[C,y1c ξ,Rl];exact y0e S
 refine py (e:=[(0,_),(1,_),(2,_)]) func172 O ntmps172 O O<|qN O<|Sb O<|qV (Q0 VS O O B O)<|Q4 O<|Qj z66 O (WT h n R) ?_
 rintro U w1 N
 have T:U= .tuple #[Qi v,I 0]/\Va w1 r s (a+n)/\Kp (λk=>k=r) w w1:=by
  rcases N with⟨-,e,d,Q⟩|⟨e,-,-⟩
  ·rw[G] at e;exact⟨e,d,Q⟩
  ·omega
 obtain⟨rfl,d,q⟩:=T
 have D:=q.PO K l.2.1
 have J:=q.PO B l.1
 refine Q4 O<|Tr O<|Tq O<|Sb O<|qV (Q0 U4 O O D O)<|Qq O<|RI O<|R0 O<|Qq O<|RR O<|QW<|R0 O<|Qc O (S0 Wu O O O D ξ) ?_
 rintro w2⟨M,x⟩
 refine qM O<|Q4 O<|qV (VY O O ω ω) ?_
 rw[show v&&&268435455=v from(y13 v 28).trans (y0e ω)]
 refine qV (QU O SK U3 ω)<|Qe O<|PQ func172 O ?_
 exact⟨_,O,O,⟨x.PO d.1 (λe=>l.2.1 e.symm),d.2⟩,x.PO J l.2.2,M,(q.PZ λk e=> .inl e).trans (x.PZ λk e=> .inr e)⟩
def Uo {s:List Bool}{n v:Nat}{rest:List Bool}(h:s.drop a=Qu n v++rest):s.drop (a+n)=rest:=by
 rw[<-y0G,h,y10 ξ]
theorem zeP (h:PHd):Qo (Qw (SB (hdL h)))=Qu 32 h.n++(Qu 32 h.m++(Qu 8 h.p.Qt++(Qu 8 h.p.chain++(Qu 8 h.p.interval++(Qu 8 h.p.zeta++(Qu 32 h.p.most++(Qu 64 h.bits++[]))))))):=by
 obtain⟨z,d,l,q⟩:=Tt (SB (hdL h))
 have r:=VU h
 have e:z=0:=ω
 rw[d,e,y2K,y0o]
 rfl
theorem zb0 (h:PHd)(t:h.RN)(w:World):Qx prog 141 [S (hdT h)] w λu w'=>u= .tuple #[hdV h,I 0]/\Ext w w':=by
 obtain⟨g1,g2,g3,g4,g5⟩:=id t
 obtain⟨q1,q2,q3⟩:=id g5
 obtain⟨r1,r2,r3,r4⟩:=id q1
 have a0:h.p.Qt<=16:=r1
 have a1:h.p.interval<=64:=by
  have:h.p.interval=0\/2<=h.p.interval/\h.p.interval<=64:=r2;omega
 have a2:h.p.zeta<=16:=r4
 have Mc:=Yk h
 have M:=zeP h
 rw[show Qo (Qw (SB (hdL h)))=(Qo (Qw (SB (hdL h)))).drop 0 from y0U.symm] at M
 have g8:(Qw (SB (hdL h))).length=24:=by rw[QP,VU]
 refine py (e:=[(0,_)]) func141 O ntmps141 O O<|qN O<|PX O O (SE (cs:=[_,_,_,_,_,_,_,_]) Vd O) ?_
 rintro _ w1⟨b2,rfl,bR,c,g⟩
 refine RZ O<|S5 O O (yc (args:=[.tmp 11,.const (Value.string (⟨#[119,116,108,49]⟩))]) zkw O) (z7A z9D (Qw (SB (hdL h))) _ (by rw[show z9D++Qw (SB (hdL h))=hdT h from rfl];omega)) ?_
 rintro _ w1⟨rfl,rfl⟩
 refine Q4 O<|Tr O<|Rw O<|QV O<|qV (Tf O)<|Qq O<|qV (Wb U9 O)<|RT O<|QW<|R0 O<|Ri O<|Qz O ?_
 generalize Qw (SB (hdL h))=pt at M g8
 refine Qj z9n O (Yi pt ω w1) ?_
 rintro _ w2⟨r,rfl,Y,f,cP⟩
 refine PX O O (SE (cs:=[_]) z3M O) ?_
 rintro _ w3⟨b6,rfl,oY,T,aU⟩
 refine Qc O (S0 z3M O O O aU ξ) ?_
 rintro w4⟨N,U⟩
 replace N:Q8 w4 b6 [ptr r 0] 289:=N
 refine qM O<|PX O O (SE (cs:=[_]) Wu O) ?_
 rintro _ w5⟨b7,rfl,lu,D,cd⟩
 refine Qc O (S0 Wu O O O cd ξ) ?_
 rintro v⟨Q,B⟩
 replace Q:Q8 v b7 [.bool false] 4:=Q
 have z1:=c.size
 have z2:=f.size
 have z3:=T.size
 have z4:=U.size
 have z5:=D.size
 have lr:=Y.1.lt
 have l6:=N.lt
 have l2:=g.lt
 have uv:=B.PO (D.PO N) ω
 have fN:Va v r pt 0:=⟨B.PO (D.PO (U.PO (T.PO Y.1) ω)) ω,Y.2⟩
 have bh:Ext w1 v:=(((f.trans T).An U (λi e=>ω)).trans D).An B (λi e=>ω)
 refine qM O<|qV (ymf (first:=[]) (caps:=[.tmp 6,.tmp 7]) O O)<|RZ O<|S5 O O (SQ z1c O O) (Uh fN uv Q ⟨ω,ω,ω⟩ 32 h.n ψ ω ω _ M) ?_
 rintro _ v0⟨rfl,EH,yW,yX,A⟩
 have E:=Uo M
 refine Q4 O<|S5 O O (SQ z1c O O) (Uh EH yW yX ⟨ω,ω,ω⟩ 32 h.m ψ ω ω _ E) ?_
 rintro _ v1⟨rfl,V,zi,zj,W⟩
 have X:=Uo E
 refine qV (To (cs:=[_,_,_,_,_,_,_,_]) Vd O zfk O O)<|PX O O (SE (cs:=[_,_,_,_,_,_,_,_]) Vd O) ?_
 rintro _ w7⟨G,rfl,ny,o,j⟩
 have a4:=A.size
 have a5:=W.size
 have z7:=o.size
 have z6:=B.size
 have l9:=j.lt
 refine Qc O (QX (news:=[I (h.n:Int),I (h.m:Int),I 0,I 0,I 0,I 0,I 0,I 0]) Vd O O O O j ξ) ?_
 rintro x⟨Z,aQ⟩
 replace Z:Q8 x G [I (h.n:Int),I (h.m:Int),I 0,I 0,I 0,I 0,I 0,I 0] 153:=Z
 have l7:=Q.lt
 have J:Ext v1 x:=o.An aQ (λi e=>ω)
 have wo:Va x r pt (0+32+32):=⟨J.PO V.1,V.2⟩
 have iR:=J.PO zi
 have EI:=J.PO zj
 have pe:Kp (λk=>k=r\/k=b7) v x:=(A.trans W).trans J.kp
 refine PR<|QA.qb (e:=[(2,_),(3,_),(7,_),(8,_),(9,_)]) ?_
 refine Qz O<|S5 O O (SQ z1c O O) (Uh wo iR EI ⟨ω,ω,ω⟩ 8 h.p.Qt ψ ω ω _ X) ?_
 rintro _ v2⟨rfl,EJ,zn,zo,EK⟩
 have zp:=Uo X
 refine Q4 O<|S5 O O (SQ z1c O O) (Uh EJ zn zo ⟨ω,ω,ω⟩ 8 h.p.chain ψ ω ω _ zp) ?_
 rintro _ v3⟨rfl,EL,zr,zt,EM⟩
 have zu:=Uo zp
 refine Q4 O<|S5 O O (SQ z1c O O) (Uh EL zr zt ⟨ω,ω,ω⟩ 8 h.p.interval ψ ω ω _ zu) ?_
 rintro _ v4⟨rfl,EN,zv,zw,EO⟩
 have zx:=Uo zu
 refine Q4 O<|S5 O O (SQ z1c O O) (Uh EN zv zw ⟨ω,ω,ω⟩ 8 h.p.zeta ψ ω ω _ zx) ?_
 rintro _ v5⟨rfl,EP,zC,zD,EQ⟩
 have F:=Uo zx
 refine Q4 O<|S5 O O (SQ z1c O O) (Uh EP zC zD ⟨ω,ω,ω⟩ 32 h.p.most ψ ω ω _ F) ?_
 rintro _ v6⟨rfl,H,zH,zI,ER⟩
 have L:=Uo F
 have y:Kp (λk=>k=r\/k=b7) x v6:=(((EK.trans EM).trans EO).trans EQ).trans ER
 have ES:=y.PO Z ω
 refine qV (To (cs:=[_,_,_,_,_]) SV O zee O O)<|Qf ZG O<|Qc O (QX (news:=WC h.p) SV O O O O ES ξ) ?_
 rintro z⟨a,C⟩
 replace a:Q8 z G [I (h.n:Int),I (h.m:Int),I (h.p.Qt:Int),I (h.p.chain:Int),I (h.p.interval:Int),I (h.p.zeta:Int),I (h.p.most:Int),I 0] 153:=a
 have rL:Va z r pt (0+32+32+8+8+8+8+32):=⟨C.PO H.1 ω,H.2⟩
 have iS:=C.PO zH ω
 have ET:=C.PO zI ω
 refine qM O<|Q4 O<|S5 O O (SQ z1c O O) (Uh rL iS ET ⟨ω,ω,ω⟩ 64 h.bits ψ ω ω _ L) ?_
 rintro _ v7⟨rfl,Md,IZ,zK,P⟩
 have Me:=Uo L
 have EU:=P.PO a ω
 refine Qf Wn O<|Qc O (S0 R8 O O O EU ξ) ?_
 rintro d⟨K,b⟩
 replace K:Q8 d G (hdC h) 153:=K
 have zM:=b.PO zK ω
 have zN:Kp (λk=>k=r\/k=b7\/k=G) v d:=((((pe.trans y).PZ λk e=>ω).trans (C.PZ λk e=>ω)).trans (P.PZ λk e=>ω)).trans (b.PZ λk e=>ω)
 have s:Ext w1 d:=bh.An zN (λk e=>ω)
 refine PR<|It<|qN O<|qV (Q0 U4 O O zM O)<|Q4 O<|qV (QB (news:=hdC h) z0k O Vd O (K.cells (n:=8) O) O)<|Qj zc6 O (Zk h t _) ?_
 rintro _ a3⟨rfl,R⟩
 refine RI O<|R0 O<|PR<|QA.qb (e:=[(2,_),(3,_),(9,_),(51,_)]) ?_
 refine Us O<|qN O<|qV (QB (news:=hdC h) z0k O Vd O ((R.PO K).cells (n:=8) O) O) ?_
 have zO:=(s.trans R).PO g
 refine Qc O (QX (news:=hdC h) Vd O O O O zO ξ) ?_
 rintro q⟨l,br⟩
 replace l:Q8 q b2 (hdC h) 153:=l
 replace l:Q8 q b2 [I (h.n:Int),I (h.m:Int),I (h.p.Qt:Int),I (h.p.chain:Int),I (h.p.interval:Int),I (h.p.zeta:Int),I (h.p.most:Int),I (h.bits:Int)] 153:=l
 refine Qe O<|Qy func141 (.cell z0k O Vd O (Q8.cells (n:=8) l (news:=[_,_,_,_,_,_,_,_]) O) O (.tmp O .nil)) ?_
 exact⟨_,O,O,((c.trans s).trans R).An br (λk e=>ω)⟩
theorem zbw (h:PHd)(B:h.RN)(M:h.n<=500)(w:World):Qx prog 142 [hdV h] w λu w'=>u= .tuple #[I ((28+(h.bits+7) / 8+(Vf (h.n+1) (h.bits+1)).size:Nat):Int),I 0]/\Ext w w':=by
 obtain⟨N,Q,R,g4,S⟩:=id B
 have C:=z4v (n:=h.n+1) (u:=h.bits+1) ω ω ω ω
 have G:(Vf (h.n+1) (h.bits+1)).size<=40000000:=by
  have T:=Fm.Yq C;obtain⟨U,Y,Z⟩:=C;unfold Fm.size Fm.Wa;omega
 refine py (e:=[(0,_)]) func142 O ntmps142 O O<|qN O<|PX O O (Sy O (cs:=hdC h) O) ?_
 rintro _ w1⟨b1,rfl,K,D,d⟩
 replace d:Q8 w1 b1 [I (h.n:Int),I (h.m:Int),I (h.p.Qt:Int),I (h.p.chain:Int),I (h.p.interval:Int),I (h.p.zeta:Int),I (h.p.most:Int),I (h.bits:Int)] 153:=d
 refine Rw O<|It<|qN O<|qV (QB (news:=hdC h) z0k O Vd O (d.cells (n:=8) O) O)<|Qj zc6 O (Zk h B _) ?_
 rintro _ w2⟨rfl,r⟩
 have l:=r.PO d
 refine RZ O<|RI O<|Ri O<|qN O<|Qf Vs O<|qV (Q0 U3 O O l O)<|Ra O<|Qf Wn O<|qV (Q0 U3 O O l O)<|qV (Rz O U3 SK ω) ?_
 rw[show(h.n:Int)+1=((h.n+1:Nat):Int) by omega]
 refine Qj zkE O (z8c (h.n+1) h.bits ω ω ω _) ?_
 rintro _ a⟨rfl,x⟩
 have J:=x.PO l
 refine Q4 O<|qV (SH (v:=I ((Vf (h.n+1) (h.bits+1)).size:Int)) O O)<|qV (SH (v:=I 0) O O) ?_
 generalize (Vf (h.n+1) (h.bits+1)).size=q at G
 refine Tq O<|Sb O<|Qf Wn O<|qV (Q0 U3 O O J O)<|Ra O<|qV (Yx O O ω)<|Ra O<|Q4 O<|Ra O<|Q4 O<|Rw O<|QA.qb (e:=[(2,_),(3,_)]) ?_
 refine PQ func142 O (⟨_,O,?_,(D.trans r).trans x⟩)
 show Value.tuple #[I (28+((h.bits:Int)+7) / 8+(q:Int)),I 0]= .tuple #[I ((28+(h.bits+7) / 8+q:Nat):Int),I 0]
 rw[show(28:Int)+((h.bits:Int)+7) / 8+(q:Int)=((28+(h.bits+7) / 8+q:Nat):Int) by omega]
section
variable {e:Env}{d:Option Nat}{pos:String}{g:Option (Nat×Bool)}{x:Operand}
theorem z73 {f:FuncId}{l:String}{u:Value}(h:methT P t l=some f):(nilAhead (P.types.size+Made.depth) t u l).run P w= .ok (some false) w:=by
 rw[show P.types.size+Made.depth=P.types.size+(Made.depth-1)+1 from rfl]
 unfold methT at h
 split at h<;>try cases h
 rename_i i hi
 split at h<;>try cases h
 rename_i m C
 split at h<;>try cases h
 rename_i f' pr q r
 have v:i.methods.find? (·.name==l)=some m:=by rw[<-C,Array.find?_toList]
 unfold nilAhead
 split at h<;>try cases h
 ·rename_i el n
  cases pr<;>simp at h;subst h;simp[UY hi,v,q,followBlind,r]
 ·rename_i D B n
  cases pr<;>simp at h;subst h;simp only[y09,UY hi,y0H,v,q,followBlind,y05,r,run_underlying n];cases D<;>first|exact absurd rfl (B _)|rfl
def zkW {h:TypeDesc}{v:Value}(ht:P.underlying t=some h)(l:∀ms,h≠ .interface ms)(n:look e x=some v):Y P e ⟨d,.makeInterface t x,ty,pos,aft,g⟩ (.iface t v) w w:=fun ρ q=>by
 simp only[execOp,q _ _ n,Instr.makeInterface,y09,run_underlying ht,y0H]
 cases h<;>first|rfl|exact(l _ rfl).elim
def ymm {v:Value}(h:look e x=some v):Y P e ⟨d,.makeFunc (.method nm) #[x] #[],ty,pos,aft,g⟩ (.func (.method nm) #[v] #[]) w w:=fun ρ l=>by
 simp[execOp,l _ _ h,Instr.makeFunc]
def zlp {f:FuncId}{tx:TypeId}{v:Value}(h:methT P tx nm=some f)(n:look e x=some (.func (.method nm) #[.iface tx v] #[])):Y P e ⟨d,.nilCheck x,ty,pos,aft,g⟩ (.func (.method nm) #[.iface tx v] #[]) w w:=fun ρ q=>by
 have l:=z73 (w:=w) (u:=v) h
 have r:(program).run P w= .ok P w:=rfl
 simp[execOp,q _ _ n,r,l]
end
def z1e (t:TypeId)(u:Value)(a n:Nat):Value:= .agg #[.iface t u,I (a:Int),I (n:Int)]
theorem z6t (t:TypeId)(u:Value)(a n:Nat)(w:World):Qx prog 293 [z1e t u a n] w λv w'=>v=I (n:Int)/\Ext w w':=by
 unfold z1e
 refine py (e:=[(0,_)]) func293 O ntmps293 O O<|qN O<|PX O O (Sy O (cs:=[.iface t u,I (a:Int),I (n:Int)]) O) ?_
 rintro _ w1⟨b1,rfl,q,h,l⟩
 refine Sb O<|Qf z4G O<|qV (Q0 U3 O O l O)<|Qe O<|PQ func293 O ?_
 exact⟨_,O,O,h⟩
theorem z7x {u:Value}{T:PU}(R:Src t u T)(a n:Nat)(M:a+n<=T.length)(K:T.length<=100000000000)(off m:Nat)(D:R.inv X w)(G:∀k,X k->k<w.heap.size)(h:off+m<=n):
  Qx prog 294 [z1e t u a n,I (off:Int),I (m:Int)] w λv w'=>v= .tuple #[S ((((T.drop a).take n).drop off).take m),I 0]/\R.inv X w'/\Kp (λk=>¬X k) w w':=by
 have e:(((T.drop a).take n).drop off).take m=(T.drop (a+off)).take m:=by
  rw[y1r,y1z,y0G,show min m (n-off)=m by omega]
 rw[e]
 unfold z1e
 refine py (e:=[(0,_),(1,_),(2,_)]) func294 O ntmps294 O O<|qN O<|PX O O (Sy O (cs:=[.iface t u,I (a:Int),I (n:Int)]) O) ?_
 rintro _ w1⟨b1,rfl,J,q,l⟩
 refine Rw O<|QV O<|RT O<|Qq O<|RT O<|QW<|R0 O<|Qq O<|Qf z4G O<|qV (Q0 U3 O O l O)<|RR O<|QW<|R0 O<|Qq O ?_
 refine Qf z4G O<|qV (Q0 U3 O O l O)<|Q4 O<|SA O<|RR O<|QW<|R0 O<|PR<|QA.qb (e:=[(1,_),(2,_),(3,_),(6,_),(7,_),(27,_)]) ?_
 refine Us O<|qN O<|Qf zet O<|qV (Q0 z3a O O l O)<|Qf zeN O<|qV (Q0 U3 O O l O)<|Q4 O<|Ra O<|Q4 O ?_
 rw[show(a:Int)+(off:Int)=((a+off:Nat):Int) by omega]
 refine S5 O O (yci R.cr R.mr O O) (R.rd (a+off) m (R.ext D q (λk r=> .inl r)) (λk r=>by have:=G k r;have:=q.size;omega) ω) ?_
 rintro _ w2⟨rfl,C,B⟩
 refine Tr O<|Rw O<|PQ func294 O ?_
 exact⟨_,O,O,C,q.kp.trans B⟩
def zfG {t:TypeId}{u:Value}{T:PU}(R:Src t u T)(a n:Nat)(B:PU)(q:a+n<=T.length)(l:T.length<=100000000000)(hB:(T.drop a).take n=B):Src 249 (z1e t u a n) B where
 inv:=R.inv
 fl:=293
 fr:=294
 cl:=zit
 cr:=zkx
 ml:=y00
 mr:=y00
 ext:=R.ext
 step:=R.step
 len:=fun {X w} h=>by
  have e:B.length=n:=by rw[<-hB,y0d,y08];omega
  rw[e];exact z6t t u a n w
 rd:=fun {X w} off m h hX ho=>by
  have e:B.length=n:=by rw[<-hB,y0d,y08];omega
  rw[<-hB];exact z7x R a n q l off m h hX ω
def Xl (p:RE)(g:List (List Nat))(E:List (Nat×Nat)):PHd:=⟨g.length,Rb g,p,(RP p g E g.length).length⟩
def pfm (p:RE)(g:List (List Nat))(E:List (Nat×Nat)):Fm:=Vf (g.length+1) ((RP p g E g.length).length+1)
structure Ud (p:RE)(g:List (List Nat))(E:List (Nat×Nat)):Prop where
 RN:p.RN
 gr:Sg g
 n1:1<=g.length
 pk:zd8 p g E
section
variable {p:RE}
def Ud.head (h:Ud p g E):(Xl p g E).RN:=by
 have l:=h.gr.n
 have e:=h.pk.bits
 have d:=Ve h.gr g.length
 rw[y0L] at d
 exact⟨h.n1,(by show g.length<=_;omega),(by show Rb g<=_;omega),(by show(RP p g E g.length).length<=_;omega),h.RN⟩
theorem Ud.ef (h:Ud p g E):WS (XF p g E g.length) (pfm p g E) (RP p g E g.length).length:=by
 have l:=h.gr.n
 have e:=h.pk.bits
 have d:=z4l p g E g.length
 refine⟨ω,ω,z9A p g E g.length,?_,ω,?_⟩
 ·rw[d,y1h];exact z1P p g E (y04 g.length)
 ·rw[d];rfl
def Xy (p:RE)(g:List (List Nat))(E:List (Nat×Nat)):Nat:=28+((RP p g E g.length).length+7) / 8
theorem Ud.len (h:Ud p g E):(YQ p g E).length=Xy p g E+(pfm p g E).size:=by
 unfold YQ Xy
 rw[y01,y01,Yk,QP]
 have:=h.ef.len
 show _+(ZV (XF p g E g.length) (pfm p g E)).length=_
 rw[this]
def Ud.small (h:Ud p g E):(YQ p g E).length<=50000000/\40<=(YQ p g E).length:=by
 have e:=h.ef.size_le
 have d:=h.len
 have l:=h.pk.bits
 unfold Xy at d
 omega
theorem zew:((YQ p g E).drop 0).take 28=hdT (Xl p g E):=by
 unfold YQ
 rw[y0U,y06,<-Yk (Xl p g E)]
 exact y34
theorem Ud.index (h:Ud p g E):((YQ p g E).drop (Xy p g E)).take (pfm p g E).size=ZV (XF p g E g.length) (pfm p g E):=by
 have d:(hdT (Xl p g E)++Qw (RP p g E g.length)).length=Xy p g E:=by
  rw[y01,Yk,QP];rfl
 have e:=h.ef.len
 unfold YQ
 show((hdT (Xl p g E)++Qw (RP p g E g.length)++ZV (XF p g E g.length) (pfm p g E)).drop _).take _=_
 rw[<-d,y2V,<-e,y0L]
theorem zeC (h:Ud p g E)(a n:Nat)(d:8*(a+n)<=(RP p g E g.length).length+7):((YQ p g E).drop (28+a)).take n=((Qw (RP p g E g.length)).drop a).take n:=by
 unfold YQ
 exact piece (by rw[Yk]) (by rw[QP];omega)
end
def gwC (h:PHd)(t:TypeId)(u:Value)(x:Nat):List Value:=[I (h.n:Int),I (h.m:Int),I (h.p.Qt:Int),I (h.p.chain:Int),I (h.p.interval:Int),I (h.p.zeta:Int),I (h.p.most:Int),I (h.bits:Int),.iface t u,ptr x 0]
theorem z8I {u:Value}{p:RE}(D:Ud p g E)(R:Src t u (YQ p g E))(r:R.inv X w)(hX:∀k,X k->k<w.heap.size):
  Qx prog 107 [.iface t u] w λv w'=>∃k x,v= .tuple #[ptr k 0,I 0]/\Q8 w' k (gwC (Xl p g E) t u x) 158/\Q8 w' x (elC (pfm p g E) 249 (z1e t u (Xy p g E) (pfm p g E).size)) 293/\w.heap.size<=x/\w.heap.size<=k/\x≠k/\R.inv (λj=>X j\/j=x\/j=k) w'/\Kp (λj=>¬X j) w w':=by
 have T:=D.len
 obtain⟨eg,dv⟩:=D.small
 have hn:=D.gr.n
 have cf:=D.n1
 have rQ:=D.pk.bits
 have hg:=Ext.Qm w
 have V:=D.head
 have EV:(Xl p g E).bits=(RP p g E g.length).length:=rfl
 have Pb:Xy p g E=28+((Xl p g E).bits+7) / 8:=rfl
 have Pc:(Xl p g E).n=g.length:=rfl
 refine py (e:=[(0,_)]) func107 O ntmps107 O O<|qN O<|Rw O<|QV O<|qV (zfr z3a O O)<|Ri O<|It<|Sq (λw'=>R.inv X w'/\Kp (λk=>¬X k) w w') O<|Ql 0 O O (⟨R.ext r hg (λk d=> .inl d),hg.kp⟩)<|Ql 1 O O (⟨R.ext r hg (λk d=> .inl d),hg.kp⟩)<|PV 4 O (ymm O) (⟨R.ext r hg (λk d=> .inl d),hg.kp⟩)<|PV 5 O (zlp R.mr O) (⟨R.ext r hg (λk d=> .inl d),hg.kp⟩)<|Ql 6 O O (⟨R.ext r hg (λk d=> .inl d),hg.kp⟩)<|qO 2 ?_
 refine XH (i:=2) O O O (yci R.cl R.ml O O) (R.len (R.ext r hg (λk d=> .inl d))) ?_
 rintro _ w1⟨rfl,J⟩
 refine⟨⟨R.ext r (hg.trans J) (λk d=> .inl d),(hg.trans J).kp⟩,?_⟩
 have q:=hg.trans J
 rw[T]
 refine PV 3 O (ymi O O) (⟨R.ext r (hg.trans J) (λk d=> .inl d),(hg.trans J).kp⟩) ?_
 rw[show min (28:Int) ((Xy p g E+(pfm p g E).size:Nat):Int)=((28:Nat):Int) by omega]
 have kH:=R.ext r q (λk d=> .inl d)
 have s:∀k,X k->k<w1.heap.size:=λk d=>by have:=hX k d;have:=q.size;omega
 refine qO 7<|XH (i:=7) O O O (yci R.cr R.mr O O) (R.rd 0 28 kH s ω) ?_
 rintro _ w2⟨rfl,C,B⟩
 refine⟨⟨C,q.kp.trans B⟩,?_⟩
 rw[zew]
 have y:Kp (λk=>¬X k) w w2:=q.kp.trans B
 have fm:∀k,X k->k<w2.heap.size:=λk d=>by have:=s k d;have:=B.size;omega
 refine Ql 8 O O (⟨C,q.kp.trans B⟩)<|PV 9 O (SH O O) (⟨C,q.kp.trans B⟩)<|PV 10 O (SH O O) (⟨C,q.kp.trans B⟩)<|PV 11 O (SG O) (⟨C,q.kp.trans B⟩)<|PV 12 O (SG O) (⟨C,q.kp.trans B⟩)<|qE<|QV O<|RI O<|Ri O<|Qz O<|Qj zj0 O (zb0 (Xl p g E) V w2) ?_
 rintro _ w3⟨rfl,o⟩
 refine Q4 O<|qV (SH (v:=hdV (Xl p g E)) O O)<|qV (SH (v:=I 0) O O)<|PX O O (SE (cs:=[_,_,_,_,_,_,_,_]) Vd O) ?_
 rintro _ w4⟨b6,rfl,oY,aD,aU⟩
 refine Qc O (QX (news:=hdC (Xl p g E)) Vd O O O O aU ξ) ?_
 rintro W⟨M,ai⟩
 replace M:Q8 W b6 (hdC (Xl p g E)) 153:=M
 have bK:Ext w3 W:=aD.An ai (λi e=>ω)
 have iI:=o.trans bK
 refine Qe O<|QA.qb (e:=[(0,_),(2,_),(3,_),(5,_),(6,_)]) ?_
 refine QV O<|RI O<|Ri O<|It<|qN O<|qV (QB (news:=hdC (Xl p g E)) z0k O Vd O (M.cells (n:=8) O) O)<|Qj zko O (zbw (Xl p g E) V (by show g.length<=_;omega) _) ?_
 rintro _ w6⟨rfl,f⟩
 have A:=iI.trans f
 have P:=R.ext C A (λk d=> .inl d)
 have uv:=f.PO M
 refine Q4 O<|qV (SH (v:=I ((Xy p g E+(pfm p g E).size:Nat):Int)) O O)<|qV (SH (v:=I 0) O O)<|Tq O<|RZ O<|RI O<|QW<|Qq O<|Q4 O<|S5 O O (yci R.cl R.ml O O) (R.len P) ?_
 rintro _ w7⟨rfl,Z⟩
 rw[T]
 have EW:=A.trans Z
 have N:=Z.PO uv
 refine RI O<|QW<|R0 O ?_
 replace N:Q8 w7 b6 [I ((Xl p g E).n:Int),I ((Xl p g E).m:Int),I ((Xl p g E).p.Qt:Int),I ((Xl p g E).p.chain:Int),I ((Xl p g E).p.interval:Int),I ((Xl p g E).p.zeta:Int),I ((Xl p g E).p.most:Int),I ((Xl p g E).bits:Int)] 153:=N
 refine Ri O<|qN O<|Qf Wn O<|qV (Q0 U3 O O N O)<|Ra O<|qV (Yx O O ω)<|Ra O ?_
 rw[show 28+((((Xl p g E).bits:Nat):Int)+7) / 8=(Xy p g E:Int) by omega]
 refine Qe O<|QA.qb (e:=[(0,_),(2,_),(3,_),(5,_),(6,_),(9,_)]) ?_
 refine RK O<|Q4 O ?_
 have L:=R.ext P Z (λk d=> .inl d)
 refine S5 O O (yci R.cl R.ml O O) (R.len L) ?_
 rintro _ w8⟨rfl,U⟩
 rw[T]
 have K:=EW.trans U
 have Et:=R.ext L U (λk d=> .inl d)
 have F:=U.PO N
 have c:=K.size
 refine Q4 O<|SA O ?_
 rw[show((Xy p g E+(pfm p g E).size:Nat):Int)-(Xy p g E:Int)=((pfm p g E).size:Int) by omega]
 refine qV (To (cs:=[_,_,_]) zi8 O zk6 O O)<|qV (zkW zc5 (λ_ h=>by cases h) rfl) ?_
 have a0:=F.lt
 have Mf:=R.ext (Y:=λk=>X k\/k=b6) C K (λk d=>d.imp id λe=>by have:=o.size;omega)
 have mB:∀k,(X k\/k=b6)->k<w8.heap.size:=λk d=>by
  rcases d with d| e
  ·have:=fm k d;have:=K.size;omega
  ·omega
 refine Qj zkj O (z7i D.ef (zfG R (Xy p g E) (pfm p g E).size (ZV (XF p g E g.length) (pfm p g E)) ω ω D.index) (X:=λk=>X k\/k=b6) Mf mB) ?_
 rintro _ b⟨x,rfl,a,hx,jQ,S⟩
 have H:=S.PO F (λhh=>hh (.inr O))
 have EX:Kp (λk=>¬X k) w2 b:=K.kp.trans (S.PZ λk d e=>d (.inl e))
 have z9:=S.size
 refine Q4 O<|qV (SH (v:=ptr x 0) O O)<|qV (SH (v:=I 0) O O)<|Rw O<|RU<|Qz O<|RI O<|Qe O<|PW O<|It ?_
 have l:=Ext.Qm b
 refine Sq (λw'=>Ext b w') O<|Ql 0 O O l<|PV 2 O (QE Vs O) l<|qT 3 O (λ_ h=>Q0 U3 O O (h.PO H) O) l<|PV 4 O (W7 O O ω) l<|TQ 1 O zia O (za2 (l.PO a)) ?_
 rintro _ a2⟨rfl,rfl⟩
 refine⟨l,?_⟩
 rw[show(pfm p g E).n=(Xl p g E).n+1 from rfl]
 refine PV 5 O (yne O O) l<|PV 6 O (SG O) l<|qE<|QA.qb (e:=[(0,_),(2,_),(3,_),(6,_),(10,_),(69,_)]) ?_
 have iw:=l.PO H
 have zP:=l.PO a
 refine Qa O (λz=>?_)<|λz=>?_
 ·exact absurd ω z
 ·refine PS<|PN<|qN O<|qV (QB (news:=hdC (Xl p g E)) z0k O Vd O (Q8.cells (n:=8) iw O) O)<|Qq O<|qV (To (cs:=[_,_,_,_,_,_,_,_,_,_]) zkL O zi4 O O)<|PX O O (Sy O (cs:=gwC (Xl p g E) t u x) O) ?_;rintro _ a3⟨k,rfl,d,aX,aZ⟩;refine Rw O<|PQ func107 O ?_;have Q:=l.trans aX;have a4:=y.size;have c:=K.size;have a5:=l.size;have a1:=zP.lt;refine⟨_,O,k,x,O,aZ,Q.PO a,ω,ω,ω,R.ext jQ Q (λj G=>?_),(y.trans EX).trans Q.kp⟩;rcases G with G|G|G
  ·exact .inl (.inl (.inl G))
  ·exact .inl (.inr G)
  ·exact .inr ω
structure W5 {t:TypeId}{u:Value}{p:RE}{g:List (List Nat)}{E:List (Nat×Nat)}(R:Src t u (YQ p g E))(k x:Nat)(X:Nat->Prop)(w:World):Prop where
 ok:Ud p g E
 PO:Q8 w k (gwC (Xl p g E) t u x) 158
 ix:Q8 w x (elC (pfm p g E) 249 (z1e t u (Xy p g E) (pfm p g E).size)) 293
 xk:X k
 xx:X x
 inv:R.inv X w
 lt:∀j,X j->j<w.heap.size
 x1:X 1
 x2:X 2
 gam:Q8 w 1 (Tu .gamma) 314
 una:Q8 w 2 (Tu .unary) 314
section
variable {u:Value}{p:RE}{R:Src t u (YQ p g E)}{x:Nat}{Y S:Nat->Prop}
def W5.grow (h:W5 R k x X w)(d:Ext w w')(q:∀j,Y j->X j\/(w.heap.size<=j/\j<w'.heap.size))(l:∀j,X j->Y j):W5 R k x Y w':=
 ⟨h.ok,d.PO h.PO,d.PO h.ix,l _ h.xk,l _ h.xx,R.ext h.inv d (λj n=>(q j n).imp id And.left),λj n=>by
  rcases q j n with e| e
  ·have:=h.lt j e;have:=d.size;omega
  ·exact e.2,l _ h.x1,l _ h.x2,d.PO h.gam,d.PO h.una⟩
def W5.ext (h:W5 R k x X w)(e:Ext w w'):W5 R k x X w':=h.grow e (λj d=> .inl d) λj d=>d
def W5.less (h:W5 R k x Y w)(e:∀j,X j->Y j)(q:X k)(r:X x)(l:X 1)(n:X 2):W5 R k x X w:=
 ⟨h.ok,h.PO,h.ix,q,r,R.ext h.inv (Ext.refl w) (λj d=> .inl (e j d)),λj d=>h.lt j (e j d),l,n,h.gam,h.una⟩
theorem W5.step (h:W5 R k x X w)(d:Kp S w w')(l:∀j,S j->X j/\j≠k/\j≠x/\j≠1/\j≠2)(r:∀j,Y j->X j\/(w.heap.size<=j/\j<w'.heap.size))(q:∀j,X j->Y j):W5 R k x Y w':=
 ⟨h.ok,d.PO h.PO (λe=>(l _ e).2.1 O),d.PO h.ix (λe=>(l _ e).2.2.1 O),q _ h.xk,q _ h.xx,R.step h.inv d (λj n=>(l j n).1) (λj n=>(r j n).imp id And.left),λj n=>by
  rcases r j n with e| e
  ·have:=h.lt j e;have:=d.size;omega
  ·exact e.2,q _ h.x1,q _ h.x2,d.PO h.gam (λe=>(l _ e).2.2.2.1 O),d.PO h.una (λe=>(l _ e).2.2.2.2 O)⟩
def W5.own (h:W5 R k x X w)(d:Kp S w w')(l:∀j,S j->X j/\j≠k/\j≠x/\j≠1/\j≠2):W5 R k x X w':=
 ⟨h.ok,d.PO h.PO (λe=>(l _ e).2.1 O),d.PO h.ix (λe=>(l _ e).2.2.1 O),h.xk,h.xx,R.own h.inv d (λj n=>(l j n).1),λj n=>by have:=h.lt j n;have:=d.size;omega,h.x1,h.x2,d.PO h.gam (λe=>(l _ e).2.2.2.1 O),d.PO h.una (λe=>(l _ e).2.2.2.2 O)⟩
def W5.src (h:W5 R k x X w)(d:Kp (λj=>¬X j) w w')(l:R.inv X w'):W5 R k x X w':=
 ⟨h.ok,d.PO h.PO (λe=>e h.xk),d.PO h.ix (λe=>e h.xx),h.xk,h.xx,l,λj n=>by have:=h.lt j n;have:=d.size;omega,h.x1,h.x2,d.PO h.gam (λe=>e h.x1),d.PO h.una (λe=>e h.x2)⟩
def W5.R2 (R:Src t u (YQ p g E))(h:Ud p g E):Src 249 (z1e t u (Xy p g E) (pfm p g E).size) (ZV (XF p g E g.length) (pfm p g E)):=
 zfG R (Xy p g E) (pfm p g E).size _ (by have:=h.len;omega) (by have:=h.small;omega) h.index
theorem W5.cells (h:W5 R k x X w):Q8 w k [I ((Xl p g E).n:Int),I ((Xl p g E).m:Int),I ((Xl p g E).p.Qt:Int),I ((Xl p g E).p.chain:Int),I ((Xl p g E).p.interval:Int),I ((Xl p g E).p.zeta:Int),I ((Xl p g E).p.most:Int),I ((Xl p g E).bits:Int),.iface t u,ptr x 0] 158:=h.PO
def zdJ (h:W5 R k x X w):Qx prog 37 [ptr k 0] w λv w'=>v=I (g.length:Int)/\w'=w:=by
 have hB:=h.cells
 refine py (e:=[(0,_)]) func37 O ntmps37 O O<|RY O<|QV O<|qV (Rm U28 O O)<|Ri O<|Qz O<|QC O<|Qf Xb O<|Qf Vs O<|qV (Q0 U3 O O hB O)<|Qe O<|PQ func37 O ?_
 exact⟨_,O,O,O⟩
theorem z7P (h:W5 R k x X w){v:Nat}(C:v<g.length)(q:Rd w (.slice (some ⟨b,0,none⟩) 1 c) 1 1 [I (v:Int)]):Qx prog 183 [ptr k 0,.slice (some ⟨b,0,none⟩) 1 c] w λv w'=>v=I 0/\w'=w:=by
 have hB:=h.cells
 have B:(Xl p g E).n=g.length:=rfl
 refine py (e:=[(0,_),(1,_)]) func183 O ntmps183 O O<|RY O<|QV O<|qV (Rm U28 O O)<|Ri O<|QV O<|SS SF O<|Q4 O<|PR<|PT<|SN (α:=Nat) (0) (λi=>[(0,ptr k 0),(9,.slice (some ⟨b,0,none⟩) 1 c),(10,I 1),(11,I (i:Int))]) (λi w'=>w'=w/\i<=1) (λi=>1-i) ?hI ?hround
 case hI=>exact⟨O,y03 _⟩
 case hround=>
  rintro i w2⟨rfl,hi⟩ r
  try dsimp only
  refine qN O<|RT O<|PR<|It<|Qa O (λl=>?_)<|λl=>?_
  ·have d:i=0:=ω
   subst d;refine PS (RU (qN O (qV (Rk SF R8 O O ω) (qV (QH U3 O O (Rg q O)) (RZ O (RT O (QW (Qq O (Q4 O (QC O (Qf Xb O (Qf Vs O (qV (Q0 U3 O O hB O) ?_)))))))))))));refine UL O<|QW<|R0 O<|Ri O<|PN<|PY O<|Ra O<|Q4 O<|PR ?_;exact(r 1 _ ⟨O,ω⟩ ω).qb
  ·refine Q7 O<|RY O<|PQ func183 O ?_;exact⟨_,O,O,O⟩
theorem zbe {p:RE}{v n:Nat}(q:((Qw (RP p g E g.length)).drop (a / 8)).take n=s)(l:(RP p g E v).length=a)(G:v<g.length)(D:a+(Z7 p g E v).length<=8*(a / 8+n)):∃rest,(Qo s).drop (a%8)=Z7 p g E v++rest:=by
 have h:∃r,RP p g E g.length=RP p g E (v+1)++r:=by
  have key:∀d i,∃r,RP p g E (i+d)=RP p g E i++r:=λd i=>by
   induction d with
   |zero=>exact⟨[],ξ⟩
   | succ d C =>
     obtain⟨r,e⟩:=C;exact⟨r++Z7 p g E (i+d),by rw[<-y1x,Ug,e,y06]⟩
  obtain⟨r,e⟩:=key (g.length-(v+1)) (v+1);rw[show v+1+(g.length-(v+1))=g.length by omega] at e;exact⟨r,e⟩
 obtain⟨r,e⟩:=h
 obtain⟨z,B,-,-⟩:=Tt (RP p g E g.length)
 rw[<-q,VK,UM,B,e,Ug,y1r,y0G,show 8*(a / 8)+a%8=a by omega,y06,y06,y10 l,y2o,y0z ω]
 exact⟨_,O⟩
theorem z7e (h:W5 R k x X w){v:Nat}(L:v<g.length):Qx prog 209 [ptr k 0,I (v:Int)] w λr w'=>∃(b a e:Nat)(s:PU) (rest:List Bool),r= .tuple #[ptr b 0,I (e:Int),I 0]/\Va w' b s a/\(Qo s).drop a=Z7 p g E v++rest/\a+(Z7 p g E v).length=e/\w.heap.size<=b/\W5 R k x (λj=>X j\/j=b) w'/\Kp (λj=>¬X j) w w':=by
 have hn:=h.ok.gr.n
 have rQ:=h.ok.pk.bits
 have hB:=h.cells
 have f:=z1P p g E (n:=g.length) (i:=v) ω
 have zQ:=z1P p g E (n:=g.length) (i:=v+1) ω
 have P:=Yt p g E (g.length-(v+1)) (v+1)
 rw[show v+1+(g.length-(v+1))=g.length by omega] at P
 have y:=Ug p g E v
 have W:=congrArg List.length y
 rw[y01] at W
 refine py (e:=[(0,_),(1,_)]) func209 O ntmps209 O O<|qN O<|Tq O<|Tq O<|RZ O<|QC O<|Qf z9s O<|qV (Q0 z3h O O hB O)<|Q4 O<|Qj zg7 O (z44 h.ok.ef (W5.R2 R h.ok) h.inv h.lt h.xx h.ix f) ?_
 rintro _ w1⟨rfl,V,M⟩
 have l:=h.src M V
 have m:=l.cells
 refine Q4 O<|Tr O<|Rw O<|QV O<|RI O<|Ri O<|Qz O<|QC O<|Qf z9s O<|qV (Q0 z3h O O m O)<|Q4 O<|Ra O ?_
 rw[show(v:Int)+1=((v+1:Nat):Int) by omega]
 refine Qj zg7 O (z44 l.ok.ef (W5.R2 R l.ok) l.inv l.lt l.xx l.ix zQ) ?_
 rintro _ w2⟨rfl,o,T⟩
 have B:=l.src T o
 have Q:=B.cells
 have U:=M.trans T
 obtain⟨d,J⟩:∃n,(RP p g E v).length=n:=⟨_,O⟩
 obtain⟨bl,z⟩:∃n,(RP p g E (v+1)).length=n:=⟨_,O⟩
 rw[J,z]
 have EV:(Xl p g E).bits=(RP p g E g.length).length:=rfl
 refine Q4 O<|Tr O<|Rw O<|QA.qb (e:=[(0,_),(4,_),(5,_),(6,_),(7,_),(8,_),(9,_)]) ?_
 refine RU<|Qz O<|RI O<|Qe O<|PW O<|RK O<|RR O<|QW<|Qq O<|Q4 O<|QC O<|Qf Xb O<|Qf Wn O<|qV (Q0 U3 O O Q O) ?_
 refine qV (Rz O U3 SK ω)<|RR O<|QW<|R0 O<|Qe O<|Us O<|PN<|Qz O<|qV (zjJ O O O (by simp only[IntKind.bits];omega) ω) ?_
 refine qV (QU O SK U3 ω)<|Qe O<|QA.qb (e:=[(0,_),(4,_),(5,_),(6,_),(7,_),(8,_),(9,_),(10,_)]) ?_
 refine Qz O<|QC O<|Qf zeA O<|qV (Q0 z3a O O Q O)<|Q4 O<|Ra O<|Q4 O<|qV (Wv O O)<|qV (QU O SK U3 ω)<|qV (Yx O O ω)<|Q4 O<|SA O ?_
 have qz:28+d / 8+((bl+7) / 8-d / 8)<=(YQ p g E).length:=by have:=h.ok.len;unfold Xy at this;omega
 rw[show 28+((d / 8:Nat):Int)=((28+d / 8:Nat):Int) by omega]
 rw[show(((bl+7)%18446744073709551616:Nat):Int) / 8-((d / 8:Nat):Int)=(((bl+7) / 8-d / 8:Nat):Int) by omega]
 refine S5 O O (yci R.cr R.mr O O) (R.rd (28+d / 8) ((bl+7) / 8-d / 8) B.inv B.lt qz) ?_
 rintro _ w3⟨rfl,yU,C⟩
 have c:=B.src C yU
 rw[zeC h.ok (d / 8) ((bl+7) / 8-d / 8) ω]
 obtain⟨s,G⟩:∃s,((Qw (RP p g E g.length)).drop (d / 8)).take ((bl+7) / 8-d / 8)=s:=⟨_,O⟩
 rw[G]
 refine Q4 O<|Tr O<|Rw O<|QA.qb (e:=[(4,_),(5,_),(6,_),(7,_),(8,_),(9,_),(10,_),(11,_)]) ?_
 refine QV O<|RI O ?_
 have ia:s.length=(bl+7) / 8-d / 8:=by
  rw[<-G,y0d,y08,QP];omega
 obtain⟨rest,o8⟩:∃rest,(Qo s).drop (d%8)=Z7 p g E v++rest:=zbe G J L ω
 refine Ri O<|Qz O<|Qj z9n O (Yi s ω w3) ?_
 rintro _ w4⟨b,rfl,Z,K,hb⟩
 have lb:=Z.1.lt
 have F:W5 R k x (λj=>X j\/j=b) w4:=c.grow K (λj D=>D.imp id λe=>ω) (λj D=> .inl D)
 have q:¬X b:=λe=>by have:=c.lt b e;omega
 refine Sb O<|Qq O<|qV (QU O SK U3 ω)<|Q4 O<|qV (WB O O ω)<|SA O ?_
 rw[show(d:Int)-8*((d / 8:Nat):Int)=((d%8:Nat):Int) by omega]
 refine Qj zbL O (z0G Z (d%8) ω) ?_
 rintro _ w5⟨rfl,A,N⟩
 have H:=F.own N (λj e=>by
  subst e
  exact⟨.inr O,λe=>q (e▸h.xk),λe=>q (e▸h.xx),λe=>q (e▸h.x1),λe=>q (e▸h.x2)⟩)
 refine qM O<|Qq O<|qV (QU O SK U3 ω)<|Q4 O<|qV (WB O O ω)<|SA O ?_
 rw[show(bl:Int)-8*((d / 8:Nat):Int)=((bl-8*(d / 8):Nat):Int) by omega]
 refine Tq O<|Rw O<|QA.qb (e:=[(4,_),(5,_),(6,_)]) ?_
 refine PQ func209 O ?_
 have a0:=(U.trans C).size
 exact⟨_,O,b,d%8,bl-8*(d / 8),s,rest,O,A,o8,ω,ω,H,((U.trans C).trans K.kp).An N (λj e=> .inl ω)⟩
end
def Qd (g:List (List Nat))(v:Nat):List Nat:=(g[v]?).getD []
def QF (g:List (List Nat))(E:List (Nat×Nat))(v:Nat):Nat:=if Qd g v=[] then 0 else((E[v]?).getD (0,0)).1
def UO (p:RE)(g:List (List Nat))(E:List (Nat×Nat))(v:Nat):List (Cd×Nat):=if Qd g v=[] then [] else W3 p.list v (Qd g v) (RV g v (QF g E v)) (QF g E v)
def zbj (p:RE)(g:List (List Nat))(E:List (Nat×Nat))(v:Nat):Z7 p g E v=Qr (RQ p.list (Qd g v).length (QF g E v))++Qr (UO p g E v):=by
 unfold Z7 UO QF
 rw[<-TE]
 by_cases h:Qd g v=[]
 ·have d:(g[v]?).getD []=[]:=h;rw[if_pos h,if_pos h,d,h]
  rfl
 ·rw[if_neg h,if_neg h];have:=z2w p.list v (ref:=RV g v ((E[v]?).getD (0,0)).1) ((E[v]?).getD (0,0)).1 h;rw[<-this];rfl
section
variable {u:Value}{p:RE}{R:Src t u (YQ p g E)}{x:Nat}
theorem Ud.ent (h:Ud p g E){v:Nat}(n:v<g.length):z0Y p g E v (Qd g v).length ((E[v]?).getD (0,0)):=by
 have l:=h.pk.el
 obtain⟨e,d⟩:∃e,E[v]? =some e:=⟨_,y07 ω⟩
 have:=h.pk.ok.ent v e d
 rw[d];exact this
def Ud.z4u (h:Ud p g E){v:Nat}(d:v<g.length):QF g E v<=p.Qt/\QF g E v<=v:=by
 unfold QF
 split
 ·omega
 ·rcases h.ent d with e| e
  ·rw[e];exact⟨y03 _,y03 _⟩
  ·exact⟨e.2.1,e.2.2.1⟩
def Ud.suc (h:Ud p g E){v:Nat}(e:v<g.length):QR (Qd g v)/\(Qd g v).length<=g.length/\∀y∈Qd g v,y<g.length:=by
 have d:Qd g v∈g:=by
  unfold Qd;rw[y07 e];exact y1s e
 exact⟨h.gr.ok _ d,h.gr.len d,h.gr.lt _ d⟩
theorem z8L (h:W5 R k x X w){v:Nat}(m:v<g.length):Qx prog 185 [ptr k 0,I (v:Int)] w λr w'=>∃(b a:Nat)(s:PU) (rest:List Bool),r= .tuple #[.agg #[I ((Qd g v).length:Int),I (QF g E v:Int)],ptr b 0,I ((a+(Qr (UO p g E v)).length:Nat):Int),I 0]/\Va w' b s a/\(Qo s).drop a=Qr (UO p g E v)++rest/\w.heap.size<=b/\W5 R k x (λj=>X j\/j=b) w'/\Kp (λj=>¬X j) w w':=by
 have hn:=h.ok.gr.n
 obtain⟨eg,dv,ph⟩:=h.ok.suc m
 have fU:=h.ok.z4u m
 have H:=zbj p g E v
 have su:(Qd g v).length=0->QF g E v=0:=λe=>by unfold QF;rw[if_pos (y0w e)]
 refine py (e:=[(0,_),(1,_)]) func185 O ntmps185 O O<|qN O<|PX O O (SE (cs:=[_,_]) Tw O) ?_
 rintro _ w1⟨G,rfl,fD,B,y⟩
 have l4:=y.lt
 have h1:W5 R k x (λj=>X j\/j=G) w1:=h.grow B (λj l=>l.imp id λe=>ω) (λj l=> .inl l)
 have C:∀j,X j->j≠G:=λj l e=>by have:=h.lt j l;omega
 refine Tq O<|Tq O<|Sb O<|Qq O<|Qj zj8 O (z7e h1 m) ?_
 rintro _ w2⟨b,a,e,s,rest,rfl,U,f,he,hb,F,z⟩
 have bu:=z.PO y (λe=>e (.inr O))
 have W:=F.cells
 have lb:=U.1.lt
 have q:∀j,X j->j≠b:=λj l e=>by have:=h.lt j l;have:=B.size;omega
 have mC:∀j,j=b->(X j\/j=G)\/j=b:=λj e=> .inr e
 refine Q4 O<|qV (SH (v:=ptr b 0) O O)<|qV (SH (v:=I (e:Int)) O O)<|qV (SH (v:=I 0) O O)<|Tq O<|Rw O<|QV O<|RI O<|Ri O<|RK O<|QC O<|Qf Xb O<|Qf ZG O<|qV (QB (news:=WC p) Z4 O SV O (Q8.cells (i:=2) (n:=5) W O) O) ?_
 refine Qj z2t O (Ub p w2) ?_
 rintro _ w3⟨rfl,D⟩
 have c:=F.ext D
 have iQ:Va w3 b s a:=⟨D.PO U.1,U.2⟩
 rw[H,y06] at f
 refine Qj zfw O (z3W iQ p.list h.ok.RN.1 c.gam c.una (λe=>q 1 h.x1 e) (λe=>q 2 h.x2 e) (Qd g v).length (QF g E v) ω fU.1 su _ f) ?_
 rintro _ L⟨rfl,A,M⟩
 have V:=Ts f
 have h4:=c.own M (λj e=>⟨.inr e,λd=>q k h.xk (d▸e),λd=>q x h.xx (d▸e),λd=>q 1 h.x1 (d▸e),λd=>q 2 h.x2 (d▸e)⟩)
 have cC:=M.PO (D.PO bu) (λe=>ω)
 have ia:=congrArg List.length H
 rw[y01] at ia
 refine Q4 O<|qV (SH (v:= .agg #[I ((Qd g v).length:Int),I (QF g E v:Int)]) O O)<|qV (SH (v:=I 0) O O)<|PX O O (SE (cs:=[_,_]) Tw O) ?_
 rintro _ w5⟨Q,rfl,jg,aS,aZ⟩
 refine Qc O (QX (news:=[I ((Qd g v).length:Int),I (QF g E v:Int)]) Tw O O O O aZ ξ) ?_
 rintro K⟨o,aL⟩
 replace o:Q8 K Q [I ((Qd g v).length:Int),I (QF g E v:Int)] 303:=o
 have J:Ext L K:=aS.An aL (λj e=>ω)
 have h6:=h4.ext J
 have Z:Va K b s (a+(Qr (RQ p.list (Qd g v).length (QF g E v))).length):=⟨J.PO A.1,A.2⟩
 refine Qe O<|QA.qb (e:=[(4,_),(5,_),(6,_),(7,_),(8,_),(9,_),(10,_),(11,_)]) ?_
 refine QV O<|RI O<|QW<|Qq O<|Qj Zy O (Vz Z) ?_
 rintro _ K⟨rfl,rfl⟩
 refine Q4 O<|RR O<|QW<|R0 O<|Ri O<|qN O<|qV (QB (news:=[I ((Qd g v).length:Int),I (QF g E v:Int)]) z35 O Tw O (Q8.cells (n:=2) o O) O)<|Qq O ?_
 have bT:=J.PO cC
 refine Qc O (QX (news:=[I ((Qd g v).length:Int),I (QF g E v:Int)]) Tw O O O O bT ξ) ?_
 rintro P⟨T,N⟩
 replace T:Q8 P G [I ((Qd g v).length:Int),I (QF g E v:Int)] 303:=T
 have h7:=(h6.own N (λj e=>⟨.inl (.inr e),λd=>C k h.xk (d▸e),λd=>C x h.xx (d▸e),λd=>C 1 h.x1 (d▸e),λd=>C 2 h.x2 (d▸e)⟩)).less (X:=λj=>X j\/j=b) (λj l=>l.imp .inl id) (.inl h.xk) (.inl h.xx) (.inl h.x1) (.inl h.x2)
 have Mh:Va P b s (a+(Qr (RQ p.list (Qd g v).length (QF g E v))).length):=⟨N.PO Z.1 ω,Z.2⟩
 refine Tq O<|Rw O<|Qy func185 (.cell z35 O Tw O (Q8.cells (n:=2) T (news:=[_,_]) O) O (.tmp O (.tmp O (.tmp O .nil)))) (⟨_,O,b,a+(Qr (RQ p.list (Qd g v).length (QF g E v))).length,s,rest,?_,Mh,V,by have:=B.size;omega,h7,?_⟩)
 ·rw[show a+(Qr (RQ p.list (Qd g v).length (QF g E v))).length+(Qr (UO p g E v)).length=e by omega]
  rfl
 ·have pe:Kp (λj=>¬X j) w L:=((B.kp.trans (z.PZ λj e d=>e (.inl d))).trans D.kp).An M (λj e=> .inl (by have:=B.size;omega));exact(pe.trans J.kp).An N (λj e=> .inl ω)
end
section
variable {u:Value}{p:RE}{R:Src t u (YQ p g E)}{x:Nat}{Y S:Nat->Prop}
abbrev z5b (w:World)(vv:Value)(l:List Nat):Prop:=Sl w vv 42 1 l.length (l.map QL)
def UZ (E:List (Nat×Nat))(v:Nat):Nat:=((E[v]?).getD (0,0)).2
structure TdM (R:Src t u (YQ p g E))(k x gb pb fb:Nat)(X:Nat->Prop)(w:World):Prop where
 gw:W5 R k x X w
 bg:Q8 w gb [ptr k 0] 28
 bp:Q8 w pb [I (p.Qt:Int),I (p.chain:Int),I (p.interval:Int),I (p.zeta:Int),I (p.most:Int)] 93
 bf:Q8 w fb [.func (.func 184) #[] #[ptr gb 0,ptr pb 0,ptr fb 0]] 301
 xg:X gb
 xp:X pb
 xf:X fb
theorem TdM.step (h:TdM R k x gb pb fb X w)(n:Kp S w w')(l:∀j,S j->X j->False)(q:W5 R k x Y w')(d:∀j,X j->Y j):TdM R k x gb pb fb Y w':=
 ⟨q,n.PO h.bg (λe=>l _ e h.xg),n.PO h.bp (λe=>l _ e h.xp),n.PO h.bf (λe=>l _ e h.xf),d _ h.xg,d _ h.xp,d _ h.xf⟩
def Yr (R:Src t u (YQ p g E))(k x gb pb fb v behind:Nat)(X:Nat->Prop)(w:World):Prop:=
 Qx prog 184 [I (v:Int),I (behind:Int),ptr gb 0,ptr pb 0,ptr fb 0] w λr w'=>∃d,r= .tuple #[d,I 0]/\z5b w' d (Qd g v)/\(∀b,d.ownBlock=some b->w.heap.size<=b)/\W5 R k x (λj=>X j\/d.ownBlock=some j) w'/\Kp (λj=>¬X j) w w'
def Ud.back (h:Ud p g E){v:Nat}(M:v<g.length)(d:0<QF g E v):QF g E v<=v/\UZ E v=UZ E (v-QF g E v)+1/\RV g v (QF g E v)=Qd g (v-QF g E v)/\0<(Qd g (v-QF g E v)).length/\(Qd g (v-QF g E v)).length<=p.most/\(Qd g v).length<=p.most/\Qd g v≠[]/\UZ E v<=p.chain:=by
 have n:Qd g v≠[]:=λe=>by unfold QF at d;rw[if_pos e] at d;omega
 have C:QF g E v=((E[v]?).getD (0,0)).1:=by unfold QF;rw[if_neg n]
 rcases h.ent M with e|⟨G,I,q,l,O,r,B,J,K⟩
 ·rw[C,e] at d;cases d
 ·rw[<-C] at G I q r B;have N:=of_decide_eq_true K;have D:Qd g (v-QF g E v)=l:=by unfold Qd;rw[r];rfl
  refine⟨q,?_,?_,by rw[D];omega,by rw[D];omega,ω,n,?_⟩
  ·unfold UZ;rw[B];exact J
  ·unfold RV;rw[if_neg ω];rfl
  ·show((E[v]?).getD (0,0)).2<=_;omega
theorem zaX (d:Ud p g E)(jp:g.length<50){v:Nat}(N:v<g.length){rest:List Bool}(q:Va w b s a)(M:(Qo s).drop a=Qr (UO p g E v)++rest)(i:Q8 w 1 (Tu .gamma) 314)(k:Q8 w 2 (Tu .unary) 314)(Z:¬1=b)(f:¬2=b)
  {vb:Value} (U:QF g E v=0->vb= .slice none 0 0) (P:0<QF g E v->z5b w vb (Qd g (v-QF g E v))) (F:∀j,vb.ownBlock=some j->j≠b):
  Qx prog 186 [ptr b 0,I (v:Int),I (g.length:Int),.agg #[I ((Qd g v).length:Int),I (QF g E v:Int)],vb,lpV p.list] w λr w'=>∃Q,r= .tuple #[Q,I 0]/\z5b w' Q (Qd g v)/\(∀j,Q.ownBlock=some j->w.heap.size<=j)/\Va w' b s (a+(Qr (UO p g E v)).length)/\Kp (λj=>j=b) w w':=by
 obtain⟨J,dv,o⟩:=d.suc N
 have K:=d.z4u N
 by_cases h:Qd g v=[]
 ·have A:QF g E v=0:=by unfold QF;rw[if_pos h]
  have D:UO p g E v=[]:=by unfold UO;rw[if_pos h]
  rw[A,U A,D,h];refine(z4H p.list d.RN.1 v ω g.length ω).mono λr w' W=>?_;obtain⟨rfl,m⟩:=W;exact⟨_,O,Sl.nil _ _ _,λj e=>(by cases e),⟨m.PO q.1,q.2⟩,m.kp⟩
 ·have D:UO p g E v=W3 p.list v (Qd g v) (RV g v (QF g E v)) (QF g E v):=by unfold UO;rw[if_neg h]
  have B:QR (RV g v (QF g E v))/\(RV g v (QF g E v)).length<=60:=by
   have hn:=d.gr.n;rcases Yv g v (QF g E v) with e| e
   ·rw[e];exact⟨⟨y1p,λy X=>(by cases X)⟩,ξ⟩
   ·exact⟨d.gr.ok _ e,by have:=d.gr.len e;omega⟩
  have Kn:=z0y d.RN.1 (x:=v) ω J B.1 K.1 ω B.2;rw[D] at M⊢;rcases y0D (QF g E v) with l|l
  ·have C:RV g v (QF g E v)=[]:=by unfold RV;rw[if_pos l]
   rw[U l];have:=z1a q p.list d.RN.1 v ω g.length ω (ra:=none) (rc:=0) (Qd g v) (RV g v (QF g E v)) J h ω o B.1 (QF g E v) K.1 (λ_=>C) i k Z f (λw2 T=>by rw[C];exact(Sl.nil _ 42 1).rd) (by rw[C];exact y04 _) ω rest M;rw[C] at this⊢;exact this
  ·obtain⟨q1,q2,z,q4,q5,q6,q7,q8⟩:=d.back N l;have G:=P l;rw[<-z] at G
   obtain⟨H,L,rfl,jZ⟩:∃a c,vb= .slice a (RV g v (QF g E v)).length c/\(RV g v (QF g E v)).length<=c:=by
    rcases G.shape with⟨-,e⟩|⟨b,c,e,V⟩
    ·rw[z] at e;omega
    ·exact⟨_,c,e,V⟩
   exact z1a q p.list d.RN.1 v ω g.length ω (ra:=H) (rc:=L) (Qd g v) (RV g v (QF g E v)) J h ω o B.1 (QF g E v) K.1 (λe=>ω) i k Z f (λw2 T=>(G.kp T λj e=>F j e).rd) jZ ω rest M
end
section
variable {u:Value}{p:RE}{R:Src t u (YQ p g E)}{x:Nat}{Y:Nat->Prop}
theorem z1k (jp:g.length<50){v behind:Nat}(U:v<g.length)(BU:behind+UZ E v<=p.chain)(ht:TdM R k x gb pb fb X w)
  (ih:0<QF g E v->∀(X':Nat->Prop)(w':World),TdM R k x gb pb fb X' w'->Yr R k x gb pb fb (v-QF g E v) (behind+1) X' w'):Yr R k x gb pb fb v behind X w:=by
 have M:=ht.gw.ok
 have hn:=M.gr.n
 have Pd:p.chain<=1000000:=by have:=M.RN.2.1;omega
 obtain⟨eg,dv,ph⟩:=M.suc U
 have fU:=M.z4u U
 have yJ:=ht.bg
 unfold Yr
 refine py (e:=[(0,_),(1,_),(2,_),(3,_),(4,_)]) func184 O ntmps184 O O<|qN O<|Tq O<|Sb O<|qV (Q0 U28 O O yJ O)<|Q4 O<|Qj zj2 O (z8L ht.gw U) ?_
 rintro _ w1⟨b,a,s,rest,rfl,z,qp,bP,h1,aI⟩
 have a1:=z.1.lt
 have B:∀j,X j->j≠b:=λj l e=>by have:=ht.gw.lt j l;omega
 refine Q4 O<|qV (SH (v:= .agg #[I ((Qd g v).length:Int),I (QF g E v:Int)]) O O)<|qV (SH (v:=ptr b 0) O O)<|qV (SH (v:=I ((a+(Qr (UO p g E v)).length:Nat):Int)) O O)<|qV (SH (v:=I 0) O O)<|PX O O (SE (cs:=[_,_]) Tw O) ?_
 rintro _ w2⟨C,rfl,ny,ae,cO⟩
 refine Qc O (QX (news:=[I ((Qd g v).length:Int),I (QF g E v:Int)]) Tw O O O O cO ξ) ?_
 rintro D⟨K,ar⟩
 replace K:Q8 D C [I ((Qd g v).length:Int),I (QF g E v:Int)] 303:=K
 have f:Ext w1 D:=ae.An ar (λj e=>ω)
 have a0:=K.lt
 have a3:=f.size
 have N:W5 R k x (λj=>(X j\/j=b)\/j=C) D:=h1.grow f (λj l=>l.imp id λe=>ω) (λj l=> .inl l)
 have m:Kp (λj=>¬X j) w D:=aI.trans f.kp
 have Z:TdM R k x gb pb fb (λj=>(X j\/j=b)\/j=C) D:=ht.step m (λj e d=>e d) N (λj l=> .inl (.inl l))
 have iQ:Va D b s a:=⟨f.PO z.1,z.2⟩
 refine Tq O<|Rw O<|QV O<|RI O<|Ri O<|RY O<|It<|qN O<|Qf TK O<|qV (Q0 U3 O O K O)<|RR O<|PR<|QA.qb (e:=[(0,_),(1,_),(2,_),(3,_),(4,_),(7,_),(8,_),(9,_),(10,_),(11,_),(12,_),(13,_),(28,_)]) ?_
 refine QT (λd w'=>∃vb,d=[(0,I (v:Int)),(2,ptr gb 0),(3,ptr pb 0),(9,ptr C 0),(10,ptr b 0),(11,I ((a+(Qr (UO p g E v)).length:Nat):Int)),(13,vb)]/\W5 R k x (λj=>(X j\/j=b)\/j=C) w'/\Kp (λj=>¬((X j\/j=b)\/j=C)) D w'/\(QF g E v=0->vb= .slice none 0 0)/\(0<QF g E v->z5b w' vb (Qd g (v-QF g E v)))/\(∀j,vb.ownBlock=some j->j≠b)) ?bF<|λbF=>?du
 case bF=>
  rintro d Q⟨vb,rfl,T,J,rK,fK,Fa⟩;have L:TdM R k x gb pb fb (λj=>(X j\/j=b)\/j=C) Q:=Z.step J (λj e d=>e d) T (λj l=>l);have mD:=J.PO K (λe=>e (.inr O));have en:Va Q b s a:=⟨J.PO iQ.1 (λe=>e (.inl (.inr O))),iQ.2⟩;have Fb:=L.bg;have y:=L.bp;have Fc:=L.gw.cells;have q:=Ext.Qm Q;refine It ?_;have F:gb≠b:=B gb ht.xg;have nk:k≠b:=B k ht.gw.xk;have H:pb≠b:=B pb ht.xp;have n9:C≠b:=ω
  refine Sq (λw'=>Kp (λj=>j=b) Q w') O<|Ql 0 O O q.kp<|Ql 1 O O q.kp<|qT 2 O (λ_ h=>(Q0 U28 O O (h.PO Fb F) O)) q.kp<|PV 3 O (Rs O) q.kp<|PV 4 O (QE Xb O) q.kp<|PV 5 O (QE Vs O) q.kp<|qT 6 O (λ_ h=>(Q0 U3 O O (h.PO Fc nk) O)) q.kp<|Ql 8 O O q.kp<|qT 7 O (λ_ hS=>QB (news:=[I ((Qd g v).length:Int),I (QF g E v:Int)]) z35 O Tw O (Q8.cells (n:=2) (hS.PO mD n9) O) O) q.kp<|qT 9 O (λ_ h=>QB (news:=WC p) Z4 O SV O (Q8.cells (n:=5) (h.PO y H) O) O) q.kp<|TQ 10 O z2t O (Ub p Q.drew) ?_;rintro _ w5⟨rfl,V⟩;refine⟨(q.trans V).kp,?_⟩;have r:=q.trans V;have A:=T.ext r;have gU:Va w5 b s a:=⟨r.PO en.1,en.2⟩;have Fe:¬1=b:=λe=>B 1 ht.gw.x1 e;have Ff:¬2=b:=λe=>B 2 ht.gw.x2 e;refine TQ 11 O zi3 O (zaX M jp U gU qp A.gam A.una Fe Ff rK (λe=>(fK e).ext r) Fa) ?_;rintro _ w6⟨i,rfl,fW,nt,fN,G⟩;refine⟨r.kp.trans G,?_⟩;refine Ql 12 O O (r.kp.trans G)<|PV 13 O (SH (v:=i) O O) (r.kp.trans G)<|PV 15 O (SG O) (r.kp.trans G)<|PV 14 O (SH (v:=I 0) O O) (r.kp.trans G)<|PV 16 O (SG O) (r.kp.trans G)<|qE<|QV O<|RI O<|Qq O<|Qj Zy O (Vz fN) ?_;rintro _ w6⟨rfl,rfl⟩;refine Q4 O<|RI O<|QW<|R0 O<|PR<|QA.qb (e:=[(14,_),(92,_)]) ?_;refine Us O<|Qz O<|Rw O<|PQ func184 O ?_;have a4:=J.size;have a5:=r.size;have a2:=m.size;have h6:=(A.step (Y:=λj=>((X j\/j=b)\/j=C)\/i.ownBlock=some j) G (λj e=>⟨.inl (.inr e),λd=>B k ht.gw.xk (d▸e),λd=>B x ht.gw.xx (d▸e),λd=>B 1 ht.gw.x1 (d▸e),λd=>B 2 ht.gw.x2 (d▸e)⟩) (λj l=>l.imp id λe=>⟨nt j e,fW.lt e⟩) (λj l=> .inl l)).less (X:=λj=>X j\/i.ownBlock=some j) (λj l=>l.imp (λe=> .inl (.inl e)) id) (.inl ht.gw.xk) (.inl ht.gw.xx) (.inl ht.gw.x1) (.inl ht.gw.x2);exact⟨_,O,i,O,fW,λj e=>by have:=nt j e;omega,h6,((m.trans (J.PZ λj e d=>e (.inl (.inl d)))).trans r.kp).trans (G.PZ λj e d=>B j d e)⟩
 case du=>
  refine Qa O (λh0=>?_)<|λh0=>?_
  ·have wV:0<QF g E v:=ω
   obtain⟨q1,q2,q3,q4,q5,q6,q7,q8⟩:=M.back U wV;have oa:=Z.bp;have Fg:=Z.bf;refine It<|qN O<|Qf TK O<|qV (Q0 U3 O O K O)<|Q4 O<|RR O<|QW<|Qq O<|Qf z0h O<|qV (Q0 U3 O O oa O)<|UL O<|QW<|R0 O<|Q4 O ?_;refine Qf UE O<|qV (Q0 U3 O O K O)<|Qf UX O<|qV (Q0 U3 O O oa O)<|RR O<|QW<|R0 O<|PR<|QA.qb (e:=[(0,_),(1,_),(2,_),(3,_),(4,_),(7,_),(8,_),(9,_),(10,_),(11,_),(12,_),(13,_),(45,_)]) ?_;refine Us O<|It<|qN O<|qV (Q0 zju O O Fg O)<|Q4 O<|Qf TK O<|qV (Q0 U3 O O K O)<|SA O ?_;rw[show(v:Int)-(QF g E v:Int)=((v-QF g E v:Nat):Int) by omega];refine Q4 O<|Ra O ?_;rw[show(behind:Int)+1=((behind+1:Nat):Int) by omega];have P:=ih wV _ D Z;unfold Yr at P;refine S5 O O (SQ zfN O O) (P) ?_;rintro _ Q⟨vb,rfl,W,qc,T,J⟩
   obtain⟨vo,vc,rfl,BI⟩:∃o c,vb= .slice (some ⟨o,0,none⟩) (Qd g (v-QF g E v)).length c/\D.heap.size<=o:=by
    rcases W.shape with⟨-,e⟩|⟨o,c,e,hc⟩
    ·omega
    ·exact⟨o,c,e,qc o (by rw[e];rfl)⟩
   refine Q4 O<|qV (SH (v:= .slice (some ⟨vo,0,none⟩) (Qd g (v-QF g E v)).length vc) O O)<|qV (SH (v:=I 0) O O)<|Tq O<|RZ O<|RI O ?_;have y:=(Z.step J (λj e d=>e d) T (λj l=> .inl l)).bp;refine PR<|QA.qb (e:=[(0,_),(2,_),(3,_),(7,_),(8,_),(9,_),(10,_),(11,_),(12,_),(13,_),(58,_)]) ?_;refine Us O<|Qz O<|SS QG O<|Ss O<|QW<|Qq O<|SS QG O<|Qf UX O<|qV (Q0 U3 O O y O)<|RR O<|QW<|R0 O<|Ri O ?_;exact(bF _ _ ⟨_,O,T.less (λj l=> .inl l) N.xk N.xx N.x1 N.x2,J,λe=>ω,λ_=>W,λj e=>by have d:vo=j:=SJ e;omega⟩).qb
  ·refine PS ?_;exact(bF _ _ ⟨_,O,N,Kp.refl _ _,λ_=>rfl,λe=>ω,λj e=>by cases e⟩).qb
theorem z2H (h:g.length<50):∀(d:Nat) {v behind:Nat} {X:Nat->Prop} {w:World},UZ E v<=d->v<g.length->behind+UZ E v<=p.chain->TdM R k x gb pb fb X w->Yr R k x gb pb fb v behind X w
 | 0, v, behind, X, w, hd, hv, BU, ht => z1k h hv BU ht λe => by
   obtain⟨n,q,-⟩:=ht.gw.ok.back hv e
   omega
 | d + 1, v, behind, X, w, hd, hv, BU, ht => z1k h hv BU ht λe X' w' l => by
   obtain⟨n,q,-⟩:=ht.gw.ok.back hv e;exact z2H h d ω ω ω l
def Ud.zbT (h:Ud p g E){v:Nat}(n:v<g.length):UZ E v<=p.chain:=by
 rcases h.ent n with e|⟨B,C,D,l,r,G,I,J,d⟩
 ·unfold UZ;rw[e];exact y03 _
 ·have q:=of_decide_eq_true d;unfold UZ;omega
theorem z7z (W:g.length<50){v:Nat}(G:v<g.length)(h:W5 R k x X w):Qx prog 153 [ptr k 0,I (v:Int)] w λr w'=>∃d,r= .tuple #[d,I 0]/\z5b w' d (Qd g v)/\(∀b,d.ownBlock=some b->w.heap.size<=b)/\W5 R k x (λj=>X j\/d.ownBlock=some j) w'/\Kp (λj=>¬X j) w w':=by
 refine py (e:=[(0,_),(1,_)]) func153 O ntmps153 O O<|qN O<|PX O O (Sy O (cs:=[ptr k 0]) O) ?_
 rintro _ w1⟨gb,rfl,Mk,C,c⟩
 refine Rw O<|It<|qN O<|qV (Q0 U28 O O c O)<|Q4 O<|PX O O (YI (cs:=[_]) (zs:=[Value.int .i64 0]) SF R8 O y00 O O O ψ) ?_
 rintro _ w2⟨vb,rfl,⟨ek,q,Pe⟩,o⟩
 have U:=(h.ext C).ext q
 have K:=q.PO c
 have m:=U.cells
 have z1:=C.size
 have z2:=q.size
 refine Qj zkp O (z7P U G o.rd) ?_
 rintro _ w2⟨rfl,rfl⟩
 refine RZ O<|RI O<|Ri O<|qN O<|qV (Q0 U28 O O K O)<|QC O<|Qf Xb O<|Qf ZG O<|qV (QB (news:=WC p) Z4 O SV O (Q8.cells (i:=2) (n:=5) m O) O)<|PX O O (SE (cs:=[_,_,_,_,_]) SV O) ?_
 rintro _ w3⟨pb,rfl,rQ,Q,rV⟩
 refine Qc O (QX (news:=WC p) SV O O O O rV ξ) ?_
 rintro M⟨B,z⟩
 replace B:Q8 M pb [I (p.Qt:Int),I (p.chain:Int),I (p.interval:Int),I (p.zeta:Int),I (p.most:Int)] 93:=B
 have T:Ext w2 M:=Q.An z (λj e=>ω)
 refine qM O<|PX O O (SE (cs:=[_]) zff O) ?_
 rintro _ w5⟨fb,rfl,Pf,y,F⟩
 refine qM O<|qV (ymf (first:=[]) (caps:=[.tmp 2,.tmp 7,.tmp 8]) O O)<|Qc O (S0 zff O O O F ξ) ?_
 rintro N⟨f,s⟩
 have D:Ext M N:=y.An s (λj e=>ω)
 have J:=T.trans D
 have z6:=J.size
 have lg:=K.lt
 have lp:=B.lt
 have lf:=f.lt
 have a0:=T.size
 have z3:=Q.size
 have a1:=D.size
 have Z:=(C.trans q).trans J
 have L:W5 R k x (λj=>X j\/j=gb\/j=pb\/j=fb) N:=h.grow Z (λj l=>l.imp id λe=>ω) (λj l=> .inl l)
 have a:TdM R k x gb pb fb (λj=>X j\/j=gb\/j=pb\/j=fb) N:=⟨L,J.PO K,D.PO B,f,.inr (.inl O),.inr (.inr (.inl O)),.inr (.inr (.inr O))⟩
 have zS:=a.bf
 have f9:=z2H W _ (behind:=0) (y04 _) G (by have:=h.ok.zbT G;omega) a
 unfold Yr at f9
 refine qM O<|qV (Q0 zju O O zS O)<|Q4 O<|S5 O O (SQ zfN O O) f9 ?_
 rintro _ w7⟨d,rfl,V,p8,P,A⟩
 refine qV (SH (v:=d) O O)<|qV (SH (v:=I 0) O O)<|Rw O<|QA.qb (e:=[(4,_),(5,_)]) ?_
 refine PQ func153 O ?_
 exact⟨_,O,d,O,V,λj e=>by have:=p8 j e;omega,P.less (λj l=>l.imp .inl id) (.inl h.xk) (.inl h.xx) (.inl h.x1) (.inl h.x2),Z.kp.trans (A.PZ λj e H=>e (.inl H))⟩
end
def stV (b:Bool):Value:= .int .u8 (if b then 1 else 0)
structure YY (w:World)(m gi:Nat)(L:List Bool):Prop where
 PO:Q8 w m [I 2,.slice (some ⟨gi,0,none⟩) L.length L.length,.slice none 0 0,.bool false] 135
 sl:Sl w (.slice (some ⟨gi,0,none⟩) L.length L.length) 185 1 L.length (L.map stV)
 ne:gi≠m
 n:L.length<=4096
 n2:2<=L.length
section
variable {S:Nat->Prop}
def YY.kp (h:YY w m gi L)(d:Kp S w w')(l:¬S m)(q:¬S gi):YY w' m gi L:=
 ⟨d.PO h.PO l,h.sl.kp d λg e=>by cases e;exact q,h.ne,h.n,h.n2⟩
theorem YY.ext (h:YY w m gi L)(d:Ext w w'):YY w' m gi L:=h.kp (S:=λ_=>False) d id id
def YY.ltm (h:YY w m gi L):m<w.heap.size:=h.PO.lt
def YY.ltg (h:YY w m gi L):gi<w.heap.size:=h.sl.lt O
theorem YY.get (h:YY w m gi L){b:Bool}(hi:L[i]? =some b):w.cell? ⟨gi,0+i*1,none⟩=some (stV b):=
 Rg h.sl.rd (by rw[y0m,hi];rfl)
theorem zak (B:Nat)(hB:2<=B/\B<=4096)(w:World):Qx prog 31 [I 2,I (B:Int)] w λv w'=>∃m gi,v= .tuple #[ptr m 0,I 0]/\YY w' m gi (List.replicate B false)/\w.heap.size<=m/\w.heap.size<=gi/\Ext w w':=by
 refine py (e:=[(0,_),(1,_)]) func31 O ntmps31 O O<|qN O<|Rw O<|QV O<|RT O<|QW<|Qq O<|Q4 O<|RR O<|QW<|R0 O<|Qq O<|RR O<|QW ?_
 refine R0 O<|Ri O<|RK O<|PX O O (pmk (c:=B) (n:=B) WK z3Z O O O (y04 _) ω (by simp only[maxLen];omega)) ?_
 rintro _ w1⟨gi,rfl,⟨C,d,r⟩,l⟩
 refine qV (To (cs:=[_,_,_,_]) zkf O ziB O O)<|PX O O (Sy O (cs:=[I 2,.slice (some ⟨gi,0,none⟩) B B,.slice none 0 0,.bool false]) O) ?_
 rintro _ w2⟨m,rfl,u,h,q⟩
 refine Rw O<|PQ func31 O ?_
 have:=d.size
 have x:=l.lt (g:=gi) O
 refine⟨_,O,m,gi,O,⟨by rw[y0b];exact q,?_,ω,by rw[y0b];omega,by rw[y0b];omega⟩,ω,ω,d.trans h⟩
 rw[y0b,List.map_replicate]
 exact l.ext h
def R9 (L:List Bool)(s n:Nat)(b:Bool):List Bool:=L.take s++(List.replicate n b++L.drop (s+n))
theorem Rq {s n:Nat}{b:Bool}(h:s+n<=L.length):(R9 L s n b).length=L.length:=by
 unfold R9
 rw[y01,y01,y0d,y0b,y08];omega
theorem z9Z (L:List Bool)(s:Nat)(b:Bool):R9 L s 0 b=L:=by simp[R9]
theorem zaw {s n:Nat}{b:Bool}(h:s+n<L.length):(R9 L s n b).set (s+n) b=R9 L s (n+1) b:=by
 have d:(L.take s++List.replicate n b).length=s+n:=by rw[y01,y0d,y0b];omega
 unfold R9
 rw[<-y06,y1Y _ _ ω,d,y1w,y2l h,y2E,List.replicate_succ',y06,y06]
 rfl
theorem z3E (h:YY w m gi L)(s n:Nat)(b:Bool)(Y:s+n<=L.length):Qx prog 136 [ptr m 0,.agg #[I (s:Int),I (n:Int)],stV b] w λv w'=>v= .tuple #[]/\YY w' m gi (R9 L s n b)/\Kp (λk=>k=gi) w w':=by
 have U:=h.n
 refine py (e:=[(0,_),(1,_),(2,_)]) func136 O ntmps136 O O<|qN O<|PX O O (Sy O (cs:=[I (s:Int),I (n:Int)]) O) ?_
 rintro _ w1⟨G,rfl,T,x,l⟩
 have a:=h.ltg
 have Z:=l.lt
 have M:=h.ext x
 refine qM O<|Qf Sk O<|qV (Q0 U3 O O l O)<|Q4 O<|PR<|PT<|SN (α:=Nat) (0) (λi=>[(0,ptr m 0),(2,stV b),(4,ptr G 0),(8,I (n:Int)),(9,I (i:Int))]) (λi w'=>YY w' m gi (R9 L s i b)/\Kp (λk=>k=gi) w1 w'/\i<=n) (λi=>n-i) ?hI ?hround
 case hI=>exact⟨by rw[z9Z];exact M,Kp.refl _ _,y03 _⟩
 case hround=>
  rintro i w2⟨d,q,hi⟩ Q
  try dsimp only
  refine qN O<|RT O<|PR<|It<|Qa O (λK=>?_)<|λK=>?_
  ·have u:i<n:=ω
   have r:=Rq (L:=L) (s:=s) (n:=i) (b:=b) ω;have B:=d.PO;have J:=q.PO l ω;have hg:=Ext.Qm w2;refine PS (RU (Qz O (Qe O (Qp [10] (λw'=>Ext w2 w') y00 O (R1 0 O O hg (Qs 1 O (Rs O) hg (Qs 2 O (QE Wh O) hg (qL 3 O (λ_ h=>(Q0 WK O O (h.PO B) O)) hg (Qs 4 O (QE S6 O) hg (qL 5 O (λ_ h=>(Q0 U3 O O (h.PO J) O)) hg (R1 6 O O hg (Qs 7 O (W7 O O ω) hg (R1 8 O O hg ?_)))))))))))));refine Qs 9 O (Rk WK z3Z O O ω) hg (U0 [10] (qO 10 (QQ (i:=10) O O (T6 z3Z O O O (d.ext hg).sl (by rw[y0n,r];omega)) ?_)));rintro R⟨D,C⟩;refine⟨trivial,?_⟩
   have N:YY R m gi (R9 L s (i+1) b):=by
    refine⟨?_,?_,d.ne,by rw[Rq ω];exact h.n,by rw[Rq ω];exact h.n2⟩
    ·rw[Rq ω,<-r];exact C.PO (hg.PO B) (λe=>d.ne e.symm)
    ·rw[show 0+(s+i)*1=s+i by omega,<-List.map_set,zaw ω] at D;rw[Rq ω,<-r];exact D
   refine qE<|PN<|PY O<|Ra O<|Q4 O<|PR ?_;exact(Q (i+1) _ ⟨N,q.trans (hg.kp.trans C),ω⟩ ω).qb
  ·have u:i=n:=ω
   subst u;refine Q7 O<|Rj func136 O ?_;exact⟨_,O,O,d,x.kp.trans q⟩
end
structure Pre (L:List Bool)(a:Nat):Prop where
 a2:2<=a
 le:a<=L.length
 tk:∀i,2<=i->i<a->L[i]? =some true
 fr:∀i,a<=i->i<L.length->L[i]? =some false
section
variable {S:Nat->Prop}
theorem Zv {l x:Nat}(Y:YY w m gi L)(Z:Pre L a)(ha:a<L.length)(F:Q8 w x [ptr m 0] 66)(J:World->Prop)(hJ:∀w w',J w->Ext w w'->J w')
  (hround:∀w',Ext w w'->z2R prog l [.agg #[I (a:Int),I ((L.length-a:Nat):Int)]] w' λv r=>(v= .bool true/\J r/\Q8 r x [ptr m 0] 66/\YY r m gi L)\/(v= .bool false/\J r)):
  Qx prog 88 [.func (.yield l) #[] #[],ptr x 0] w λv w'=>v= .tuple #[]/\J w':=by
 have hn:=Y.n
 have tI:=Z.a2
 have hB:=Y.PO
 refine py (e:=[(0,_),(1,_)]) func88 O ntmps88 O O<|qN O<|qV (Q0 U66 O O F O)<|QC O<|Qf z9q O<|qV (Q0 U3 O O hB O)<|Qe O<|PT<|SN (α:=Nat) (2) (λi=>[(0,.func (.yield l) #[] #[]),(1,ptr x 0),(3,I (i:Int))]) (λi w'=>Q8 w' x [ptr m 0] 66/\YY w' m gi L/\((2<=i/\i<=a/\Ext w w')\/(i=L.length+1/\J w'))) (λi=>L.length+1-i) ?hI ?hround
 case hI=>exact⟨F,Y,.inl ⟨y04 _,tI,Ext.refl _⟩⟩
 case hround=>
  rintro i w1⟨o,f,y⟩ A;have X:=f.PO
  try dsimp only
  refine QV O<|qV (Q0 U66 O O o O)<|QC O<|Qf Wh O<|qV (Q0 WK O O X O)<|SS WK O<|RT O<|PR<|Qa O (λh0=>?_)<|λh0=>?_
  ·have uA : 2 <= i /\ i <= a /\ Ext w w1 := by
    rcases y with h| h
    ·exact h
    ·omega
   obtain⟨dB,Ph,s⟩:=uA;refine PS<|RU<|Qz O<|qV (To (cs:=[_,_]) Sj O zjS O O)<|PX O O (SE (cs:=[_,_]) Sj O) ?_;rintro _ w2⟨M,rfl,fD,Q,W⟩;refine Qc O (QX (news:=[I (i:Int),I 0]) Sj O O O O W ξ) ?_;rintro p⟨B,ar⟩;replace B:Q8 p M [I (i:Int),I 0] 124:=B;have K:Ext w1 p:=Q.An ar (λj e=>ω);have g:=K.PO o;have E:=f.ext K;have T:=E.PO;refine PR<|RU<|SN (α:=Nat) (i) (λj=>[(0,.func (.yield l) #[] #[]),(1,ptr x 0),(3,I (j:Int)),(4,ptr M 0)]) (λj w'=>w'=p/\i<=j/\j<=L.length/\(i<j->i=a)) (λj=>L.length-j) ?hI ?hround
   case hI=>exact⟨O,y04 _,ω,λh=>absurd h ω⟩
   case hround =>
    rintro j w4⟨rfl,hH,Pi,N⟩ c
    try dsimp only
    rcases y0a j L.length with U|U
    ·obtain⟨b,D⟩:∃b,L[j]? =some b:=⟨_,y07 U⟩;have t:=E.get D;refine QV O<|qV (Q0 U66 O O g O)<|QC O<|Qf Wh O<|qV (Q0 WK O O T O)<|SS WK O<|RT O<|SD<|Q4 O<|qV (Q0 U66 O O g O)<|QC O<|Qf Wh O<|qV (Q0 WK O O T O)<|Q4 O ?_;refine qV (Rk WK z3Z O O ω) ?_
     cases b with
     | true =>
       refine qV (QH (v:= .int .u8 1) zbI O O t) ?_
       have Mm:i<a:=by
        rcases y0a i a with h| h
        ·exact h
        ·have:=Z.fr j ω U;rw[this] at D;cases D
       have sh:j=i:=by
        rcases y0a i j with h| h
        ·have:=N h;omega
        ·omega
       subst sh;refine Ss O (QW (Sh O (PR (PW O (Q7 O (Qz O (Qf S6 O (qV (Q0 U3 O O B O) (SA O (Qf Sk O (Qc O (S0 R8 O O O B ξ) ?_)))))))))));rintro u⟨d,R⟩;rw[show(j:Int)-(j:Int)=0 by omega] at d;replace d:Q8 u M [I (j:Int),I 0] 124:=d;have C:Ext w1 u:=K.An R (λq e=>by have:=Q.size;omega);refine qM O<|Qf Sk O<|qV (Q0 U3 O O d O)<|RR O<|Q4 O<|Sc<|Sc<|R0 O<|Ri O<|PN<|Sv O<|Ra O<|Qe O ?_
       exact(A (j+1) u ⟨C.PO o,f.ext C,.inl ⟨ω,ω,s.trans C⟩⟩ ω).qb
     | false =>
       refine qV (QH (v:= .int .u8 0) zbI O O t)<|Ss O<|SD<|Sh O ?_
       have k:i=a:=by
        rcases y0a i a with h| h
        ·rcases y0a i j with z|z
         ·exact N z
         ·have e:j=i:=ω
          subst e;have:=Z.tk j dB h;rw[this] at D;cases D
        ·omega
       refine PR<|Qb O<|PS<|PT<|Sv O<|Ra O<|Qe O<|PN ?_;exact(c (j+1) _ ⟨O,ω,ω,λ_=>k⟩ ω).qb
    ·have P:j=L.length:=ω
     subst P;have k:=N ω;subst k;refine QV O<|qV (Q0 U66 O O g O)<|QC O<|Qf Wh O<|qV (Q0 WK O O T O)<|SS WK O<|RT O<|QW<|Q4 O<|Sc<|Sc<|Sc<|Sc<|R0 O ?_;refine PR (PW O (Q7 O (Qz O (Qf S6 O (qV (Q0 U3 O O B O) (SA O (Qf Sk O (Qc O (S0 R8 O O O B ξ) ?_))))))));rintro u⟨d,R⟩;rw[show(L.length:Int)-(i:Int)=((L.length-i:Nat):Int) by omega] at d;replace d:Q8 u M [I (i:Int),I ((L.length-i:Nat):Int)] 124:=d;have C:Ext w1 u:=K.An R (λq e=>by have:=Q.size;omega);refine qM O<|Qf Sk O<|qV (Q0 U3 O O d O)<|RR O<|SD<|Qq O<|qV (QB (news:=[I (i:Int),I ((L.length-i:Nat):Int)]) Ww O Sj O (Q8.cells (n:=2) d O) O)<|z7C O O (yy O O) (hround u (s.trans C)) ?_;rintro v w6 hv;rcases hv with⟨rfl,G,H,V⟩|⟨rfl,G⟩
     ·refine qV (Tf O)<|Sh O<|Ri O<|PN<|Sv O<|Ra O<|Qe O ?_;exact(A (L.length+1) w6 ⟨H,V,.inr ⟨O,G⟩⟩ ω).qb
     ·refine qV (Tf O)<|Sh O<|PR<|Qb O<|PQ func88 O ?_;exact⟨_,O,O,G⟩
  ·rcases y with⟨-,h,-⟩|⟨-,G⟩
   ·omega
   ·refine Q7 O<|Rj func88 O ?_;exact⟨_,O,O,G⟩
theorem ZI (w:World)(m:Nat):Qx prog 57 [ptr m 0] w λv w'=>∃d,v= .func (.func 88) #[] #[ptr d 0]/\Q8 w' d [ptr m 0] 66/\w.heap.size<=d/\Ext w w':=by
 refine py (e:=[(0,_)]) func57 O ntmps57 O O<|qN O<|PX O O (Sy O (cs:=[ptr m 0]) O) ?_
 rintro _ w1⟨d,rfl,n,h,l⟩
 refine Sb O<|qV (ymf (first:=[]) (caps:=[.tmp 1]) O O)<|Qe O<|PQ func57 O ?_
 exact⟨_,O,d,O,l,ω,h⟩
theorem z6X (h:YY w m gi L)(hp:Pre L a)(ha:a<L.length):Qx prog 25 [ptr m 0] w λv w'=>v=I ((L.length-a:Nat):Int)/\Ext w w':=by
 have hn:=h.n
 refine py (e:=[(0,_)]) func25 O ntmps25 O O<|qN O<|Sb O<|PX O O (SE (cs:=[_]) R8 O) ?_
 rintro _ w1⟨b3,rfl,ev,b,au⟩
 refine Qc O (S0 R8 O O O au ξ) ?_
 rintro w2⟨D,X⟩
 replace D:Q8 w2 b3 [I 0] 3:=D
 have W:Ext w w2:=b.An X (λj e=>ω)
 refine PR<|QV O<|qV (z6v U66 O O)<|PR<|Qb O<|Qz O<|Qj zio O (ZI w2 m) ?_
 rintro _ x⟨bm,rfl,U,mC,M⟩
 have c:=W.trans M
 have g:=M.PO D
 have o:=h.ext c
 have l3:=g.lt
 have a0:=D.lt
 have lm:=U.lt
 have a2:=h.ltm
 have a1:=h.ltg
 have z1:=b.size
 refine PR<|PT<|TX (ps:=[9]) (p:=[]) (q:=[_]) O zhP ?_
 rintro l wl r fL cM hD F d f
 have Fk:=zbV d f
 have zl:=r.size
 refine Qx.mono (Zv (o.ext r) hp ha (r.PO U)
  (λw'=>F .ready none w'/\Q8 w' b3 [I ((L.length-a:Nat):Int)] 3/\Kp (λk=>k=l\/k=b3) wl w')
  (λw w' h R=>⟨R.kp.rc (S:=λ_=>False) d h.1 id,R.PO h.2.1,h.2.2.trans R.kp⟩) ?_) ?_
 ·intro s u;have J:=Kp.rc (S:=λ_=>False) u d f id;have cY:=u.PO (r.PO g);have z4:=u.size;refine Vk d J O O<|PY O<|PX O O (SE (cs:=[_,_]) Sj O) ?_;rintro _ w5⟨b4,rfl,fD,V,H⟩;refine Qc O (QX (news:=[I (a:Int),I ((L.length-a:Nat):Int)]) Sj O O O O H ξ) ?_;rintro t⟨B,P⟩;replace B:Q8 t b4 [I (a:Int),I ((L.length-a:Nat):Int)] 124:=B;have C:Ext s t:=V.An P (λj e=>ω);have z:=Kp.rc (S:=λ_=>False) C d J id;have a3:=C.size;have l4:=B.lt;refine PR<|run_beginRound O d z ?_;rintro w7 h7 N;have i:=N.PO (C.PO cY) ω;have bj:=N.PO B ω;refine PT<|PY O<|qV (Q0 U3 O O i O)<|Qf Sk O<|qV (Q0 U3 O O bj O)<|Ra O ?_;rw[show(0:Int)+((L.length-a:Nat):Int)=((L.length-a:Nat):Int) by omega];refine Qc O (S0 R8 O O O i ξ) ?_;rintro w8⟨nw,Z⟩;have h8:=Kp.rc Z d h7 ω;refine PR<|PN<|TJ d h8 ?_;intro w9 h9 Y;have T:Kp (λk=>k=l\/k=b3) s w9:=((C.kp.trans (N.PZ λk e=> .inl e)).trans (Z.PZ λk e=> .inr e)).trans (Y.PZ λk e=> .inl e);exact .inl ⟨O,⟨h9,Y.PO nw ω,u.kp.trans T⟩,T.PO (u.PO (r.PO U)) ω,((o.ext r).ext u).kp T ω ω⟩
 ·rintro v wz⟨rfl,J,A,Q⟩;refine⟨_,_,J,ξ,λK G=>?_⟩;have zz:=Q.size;have zy:=G.size;have E:=G.PO A ω;have qG:=G.heap (Q.heap hD ω) ω;refine PN (qN O (qV (Q0 U3 O O E O) (Qe O (z55 ξ (Y8 qG) func25 O ?_))));have z3:=M.size;have cI:Kp (λk=>k=x.heap.size) K (TL [.mk x.heap.size] K):=RJ K x.heap.size (.deferred none);have y:Kp (λk=>k=l\/k=b3\/k=x.heap.size) x (TL [.mk x.heap.size] K):=((r.kp.trans (Q.PZ λk e=>ω)).trans (G.PZ λk e=>ω)).trans (cI.PZ λk e=>ω);exact⟨_,O,O,c.An y (λk e=>ω)⟩
end
section
variable {S:Nat->Prop}
theorem z6l (h:YY w m gi L)(hp:Pre L a){n:Nat}(cf:1<=n)(pw:a+n<=L.length):Qx prog 96 [ptr m 0,I (n:Int)] w λv w'=>v= .tuple #[.agg #[I (a:Int),I (n:Int)],I 0]/\YY w' m gi (R9 L a n true)/\Kp (λk=>k=gi) w w':=by
 have hn:=h.n
 refine py (e:=[(0,_),(1,_)]) func96 O ntmps96 O O<|qN O<|PX O O (Sy O (cs:=[ptr m 0]) O) ?_
 rintro _ w1⟨b2,rfl,bR,y,z⟩
 refine PX O O (Sy O (cs:=[I (n:Int)]) O) ?_
 rintro _ w2⟨b3,rfl,ev,f,A⟩
 refine PX O O (SE (cs:=[_,_]) Sj O) ?_
 rintro _ w3⟨E,rfl,fD,M,t⟩
 refine PX O O (SE (cs:=[_]) z6K O) ?_
 rintro _ w4⟨b5,rfl,gj,C,s⟩
 have l2:=z.lt
 have l3:=A.lt
 have l4:=t.lt
 have l5:=s.lt
 have z1:=y.size
 have z2:=f.size
 have z3:=M.size
 have z4:=C.size
 have i:=C.PO (M.PO (f.PO z))
 have H:=C.PO (M.PO A)
 have cC:=C.PO t
 refine PR<|RU<|qN O<|qV (Q0 U66 O O i O)<|qV (Rm U66 O O)<|Qe O<|PW O<|qN O<|qV (Q0 U3 O O H O)<|RT O<|QW<|Qe O<|Us O<|PN ?_
 refine It<|qN O<|qV (Q0 U66 O O i O)<|Qj zio O (ZI w4 m) ?_
 rintro _ w5⟨bm,rfl,W,mC,c⟩
 have F:=(((y.trans f).trans M).trans C).trans c
 have X:=h.ext F
 have lm:=W.lt
 have a1:=h.ltm
 have a0:=h.ltg
 have z5:=c.size
 refine PR<|PT<|TX (ps:=[17]) (p:=[]) (q:=[_]) O zhP ?_
 rintro l wl x fL cM hD Rc d P
 have Fk:=zbV d P
 have zl:=x.size
 have yF:=c.trans x
 refine Qx.mono (Zv (X.ext x) hp ω (x.PO W)
  (λw'=>Rc .done (some .ret) w'/\Q8 w' E [I (a:Int),I (n:Int)] 124/\Q8 w' b5 [I 0] 45/\YY w' m gi (R9 L a n true)/\Kp (λk=>k=l\/k=E\/k=b5\/k=gi) wl w')
  (λw w' h J=>⟨J.kp.rc (S:=λ_=>False) d h.1 id,J.PO h.2.1,J.PO h.2.2.1,h.2.2.2.1.ext J,h.2.2.2.2.trans J.kp⟩) ?_) ?_
 ·intro w6 D;have Z:=Kp.rc (S:=λ_=>False) D d P id;have z6:=D.size;refine Vk d Z O O<|PY O<|PX O O (SE (cs:=[_,_]) Sj O) ?_;rintro _ w7⟨b6,rfl,oY,cj,aU⟩;refine Qc O (QX (news:=[I (a:Int),I ((L.length-a:Nat):Int)]) Sj O O O O aU ξ) ?_;rintro w8⟨U,aQ⟩;replace U:Q8 w8 b6 [I (a:Int),I ((L.length-a:Nat):Int)] 124:=U;have K:Ext w6 w8:=cj.An aQ (λj e=>ω);have wW:=Kp.rc (S:=λ_=>False) K d Z id;have z8:=K.size;have l6:=U.lt;refine PR<|run_beginRound O d wW ?_;rintro w9 h9 r;have b:=(yF.trans D).trans K;have uD:=r.PO (b.PO H) ω;have uE:=r.PO (b.PO i) ω;have V:=r.PO U ω;have Ms:=((((X.ext x).ext D).ext K).kp r ω ω);refine PT (qN O (Qf Sk O (qV (Q0 U3 O O V O) (qV (Q0 U3 O O uD O) (UL O (SD (PR (Qb O (qN O (qV (Q0 U3 O O uD O) (Qf Sk O (Qc O (S0 R8 O O O V ξ) ?_))))))))))));rintro o⟨Y,u⟩;replace Y:Q8 o b6 [I (a:Int),I (n:Int)] 124:=Y;have zU:=u.PO uE ω;have Fn:=Ms.kp u ω ω;have iy:=Kp.rc u d h9 ω;refine qM O<|qV (Q0 U66 O O zU O)<|qV (QB (news:=[I (a:Int),I (n:Int)]) Ww O Sj O (Q8.cells (n:=2) Y O) O)<|Qj zf8 O (z3E Fn a n true pw) ?_;rintro _ a2⟨rfl,Fp,G⟩;have zV:=G.PO Y ω;have zW:=G.PO (u.PO (r.PO (b.PO cC) ω) ω) ω;have zX:=G.PO (u.PO (r.PO (b.PO s) ω) ω) ω;have oZ:=Kp.rc G d iy ω;refine PR<|QA.qb (e:=[(4,_),(5,_),(6,_)]) ?_;refine qN O (qV (QB (news:=[I (a:Int),I (n:Int)]) Ww O Sj O (Q8.cells (n:=2) zV O) O) (Qc O (QX (news:=[I (a:Int),I (n:Int)]) Sj O O O O zW ξ) ?_));rintro a3⟨zY,N⟩;refine Qc O (S0 z6K O O O (N.PO zX ω) ξ) ?_;rintro a4⟨zZ,T⟩;have A0:=Kp.rc T d (Kp.rc N d oZ ω) ω;refine PR ?_
  -- AT: Code.ret
  refine Xf d A0 ?_;intro a5 Mt R
  exact .inr ⟨rfl,Mt,R.PO (T.PO zY ω) ω,R.PO zZ ω,((Fp.kp N ω ω).kp T ω ω).kp R ω ω,
   (((((((D.kp.trans K.kp).trans (r.PZ λk e=>ω)).An u (λk e=>ω)).trans (G.PZ λk e=>ω)).trans (N.PZ λk e=>ω)).trans (T.PZ λk e=>ω)).trans (R.PZ λk e=>ω))⟩
 ·rintro v wz⟨rfl,Z,Fr,Fs,Mu,g⟩;refine⟨_,_,Z,ξ,λwy B=>?_⟩;have zz:=g.size;have zy:=B.size;have Ft:=B.PO Fr ω;have Fu:=B.PO Fs ω;have qG:=B.heap (g.heap hD ω) ω;have Q:=RJ wy w5.heap.size (.deferred none);have uF:=Q.PO Ft ω;have Fv:=Q.PO Fu ω;refine WM ξ (Y8 qG) func96 (.cell Ww O Sj O (Q8.cells (n:=2) uF (news:=[_,_]) O) O (.cell1 U45 O O ((Fv).cell _) .nil)) ?_;have uG:Kp (λk=>k=gi) w (TL [.mk w5.heap.size] wy):=((((F.kp.trans x.kp).An g (λk e=>ω)).An B (λk e=>ω)).An Q (λk e=>ω));exact⟨_,O,O,(Mu.kp B ω ω).kp Q ω ω,uG⟩
end
section
theorem zaQ (h:YY w m gi L)(s n:Nat)(r:1<=n)(u:2<=s)(C:s+n<=L.length):Qx prog 146 [ptr m 0,.agg #[I (s:Int),I (n:Int)]] w λv w'=>v= .bool true/\Ext w w':=by
 have B:=h.n
 refine py (e:=[(0,_),(1,_)]) func146 O ntmps146 O O<|qN O<|PX O O (Sy O (cs:=[I (s:Int),I (n:Int)]) O) ?_
 rintro _ w1⟨b3,rfl,x,q,d⟩
 have hg:=Ext.Qm w1
 have l:=(h.ext q).PO
 refine Qe O<|It<|Sq (λw'=>Ext w1 w') O<|PV 0 O (QE Sk O) hg<|qT 1 O (λ_ h=>(Q0 U3 O O (h.PO d) O)) hg<|PV 2 O (yge O O) hg<|Vn<|Ql 3 O O hg<|PV 4 O (QE S6 O) hg<|qT 5 O (λ_ h=>(Q0 U3 O O (h.PO d) O)) hg<|Ql 6 O O hg<|PV 7 O (Rs O) hg<|PV 8 O (QE z9q O) hg<|qT 9 O (λ_ h=>(Q0 U3 O O (h.PO l) O)) hg ?_
 refine PV 10 O (yge O O) hg<|Vn<|PV 11 O (WA O O) hg<|Ql 12 O O hg<|PV 13 O (QE S6 O) hg<|qT 14 O (λ_ h=>(Q0 U3 O O (h.PO d) O)) hg<|Ql 15 O O hg<|PV 16 O (Rs O) hg<|PV 17 O (QE Wh O) hg<|qT 18 O (λ_ h=>(Q0 WK O O (h.PO l) O)) hg<|PV 19 O (TM WK O) hg<|PV 20 O (ylt O O) hg<|Vn<|PV 21 O (WA O O) hg ?_
 refine Ql 22 O O hg<|PV 23 O (QE Sk O) hg<|qT 24 O (λ_ h=>(Q0 U3 O O (h.PO d) O)) hg<|Ql 25 O O hg<|PV 26 O (Rs O) hg<|PV 27 O (QE Wh O) hg<|qT 28 O (λ_ h=>(Q0 WK O O (h.PO l) O)) hg<|PV 29 O (TM WK O) hg<|PV 30 O (QE S6 O) hg<|qT 31 O (λ_ h=>(Q0 U3 O O (h.PO d) O)) hg<|PV 32 O (YS O O ω) hg<|PV 33 O (yle O O) hg<|Vn<|PV 34 O (WA O O) hg ?_
 refine PV 35 O (SG O) hg<|qE<|QA.qb (e:=[(4,_)]) ?_
 refine PQ func146 O ?_
 exact⟨_,O,O,q.trans hg⟩
def z7M (c d:Bool)(hB:Q8 w b5 [stV d] 185)(h:c=d):Qx prog 181 [stV c,ptr b5 0] w λv w'=>v= .bool false/\w'=w:=by
 subst h
 cases c with
 | true =>
   replace hB:Q8 w b5 [.int .u8 1] 185:=hB;show Qx prog 181 [.int .u8 1,ptr b5 0] w _;refine py (e:=[(0,_),(1,_)]) func181 O ntmps181 O O<|qN O<|RZ O<|qV (Q0 zbI O O hB O)<|RI O<|QW<|Qe O<|PQ func181 O ?_
   exact⟨_,O,O,O⟩
 | false =>
   replace hB:Q8 w b5 [.int .u8 0] 185:=hB;show Qx prog 181 [.int .u8 0,ptr b5 0] w _;refine py (e:=[(0,_),(1,_)]) func181 O ntmps181 O O<|qN O<|RZ O<|qV (Q0 zbI O O hB O)<|RI O<|QW<|Qe O<|PQ func181 O ?_;exact⟨_,O,O,O⟩
theorem za9 {n:Nat}(q:n<=4096)(c:Bool)(hB:Q8 w b5 [stV c] 185)(h:Rd w (.slice (some ⟨b,o,none⟩) n cap) 1 n (List.replicate n (stV c))):
  Qx prog 208 [.slice (some ⟨b,o,none⟩) n cap,.func (.func 181) #[] #[ptr b5 0]] w λv w'=>v=I (-1)/\w'=w:=by
 refine py (e:=[(0,_),(1,_)]) func208 O ntmps208 O O<|RY O<|QV O<|SS WK O<|Q4 O<|PR<|PT<|SN (α:=Nat) (0) (λi=>[(0,.slice (some ⟨b,o,none⟩) n cap),(1,.func (.func 181) #[] #[ptr b5 0]),(7,I (n:Int)),(8,I (i:Int))]) (λi w'=>w'=w/\i<=n) (λi=>n-i) ?hI ?hround
 case hI=>exact⟨O,y03 _⟩
 case hround=>
  rintro i w1⟨rfl,hi⟩ l
  try dsimp only
  refine qN O<|RT O<|PR<|It<|Qa O (λd=>?_)<|λd=>?_
  ·refine PS (RU (Qz O (Sb O (Qq O (Q4 O (qV (Rk WK z3Z O O ω) (qV (QH (v:=stV c) zbI O O (Rg h (by rw[y1b,if_pos ω]))) ?_)))))));refine S5 O O (SQ zkH O O) (z7M c c hB O) ?_;rintro _ w1⟨rfl,rfl⟩;refine Ri O<|PN<|PY O<|Ra O<|Q4 O<|PR ?_;exact(l (i+1) _ ⟨O,ω⟩ ω).qb
  ·refine Q7 O<|RY O<|PQ func208 O ?_;exact⟨_,O,O,O⟩
def zbx {n:Nat}(h:n<=4096)(c:Bool)(hB:Q8 w b5 [stV c] 185)(d:Rd w (.slice (some ⟨b,o,none⟩) n cap) 1 n (List.replicate n (stV c))):
  Qx prog 180 [.slice (some ⟨b,o,none⟩) n cap,.func (.func 181) #[] #[ptr b5 0]] w λv w'=>v= .bool false/\w'=w:=by
 refine py (e:=[(0,_),(1,_)]) func180 O ntmps180 O O<|qN O<|Sb O<|Qq O<|Qj zkY O (za9 h c hB d) ?_
 rintro _ w⟨rfl,rfl⟩
 refine UL O<|QW<|Qe O<|PQ func180 O ?_
 exact⟨_,O,O,O⟩
theorem zb8 (h:YY w m gi L)(s n:Nat)(c:Bool)(R:1<=n)(Z:s+n<=L.length)(M:∀i,s<=i->i<s+n->L[i]? =some c):Qx prog 147 [ptr m 0,.agg #[I (s:Int),I (n:Int)],stV c] w λv w'=>v= .bool true/\Ext w w':=by
 have Y:=h.n
 refine py (e:=[(0,_),(1,_),(2,_)]) func147 O ntmps147 O O<|qN O<|PX O O (Sy O (cs:=[I (s:Int),I (n:Int)]) O) ?_
 rintro _ w1⟨Q,rfl,T,C,B⟩
 refine PX O O (Sy O (cs:=[stV c]) (by cases c<;>rfl)) ?_
 rintro _ w2⟨b5,rfl,U,r,u⟩
 have hg:=Ext.Qm w2
 have l:=C.trans r
 have N:=(h.ext l).PO
 have q:=r.PO B
 have D:=(h.ext l).ext hg
 refine Qe O<|It<|Sq (λw'=>Ext w2 w') O<|Ql 0 O O hg<|PV 1 O (Rs O) hg<|PV 2 O (QE Wh O) hg<|qT 3 O (λ_ h=>(Q0 WK O O (h.PO N) O)) hg<|PV 4 O (QE S6 O) hg<|qT 5 O (λ_ h=>(Q0 U3 O O (h.PO q) O)) hg<|PV 6 O (QE S6 O) hg<|qT 7 O (λ_ h=>(Q0 U3 O O (h.PO q) O)) hg<|PV 8 O (QE Sk O) hg<|qT 9 O (λ_ h=>(Q0 U3 O O (h.PO q) O)) hg<|PV 10 O (W7 O O ω) hg ?_
 refine PV 12 O (ymf (first:=[]) (caps:=[.tmp 5]) O O) hg ?_
 rw[show(s:Int)+(n:Int)=((s+n:Nat):Int) by omega]
 refine PV 11 O (zgz (i:=s) (j:=s+n) WK z3Z O O O ω ω) hg ?_
 rw[show s+n-s=n by omega]
 have K:Rd w2.drew (.slice (some ⟨gi,0+s*1,none⟩) n (L.length-s)) 1 n (List.replicate n (stV c)):=by
  have d:=Ws (Vc D.sl.rd (i:=s) ω (y04 _)) (i:=n) ω;rw[if_neg ω] at d
  have e:((L.map stV).drop s).take n=List.replicate n (stV c):=by
   apply y1t;intro i;rw[y1H,y1M,y0m,y1b];by_cases hi:i<n
   ·rw[if_pos hi,if_pos hi,M (s+i) ω ω];rfl
   ·rw[if_neg hi,if_neg hi]
  rw[e] at d
  have G:(some (⟨gi,0,none⟩:Addr)).map (λx=>x.add (s*1))=some ⟨gi,0+s*1,none⟩:=by
   show some (Addr.add _ _)=_;unfold Addr.add;split
   ·rename_i J;rw[J]
   ·rfl
  rw[G] at d;exact d
 refine TQ 13 O zkg O (zbx ω c (hg.PO u) K) ?_
 rintro _ a⟨rfl,rfl⟩
 refine⟨hg,?_⟩
 refine PV 14 O (Tf O) hg<|PV 15 O (SG O) hg<|qE<|PQ func147 O ?_
 exact⟨_,O,O,l.trans hg⟩
theorem z8f (h:YY w m gi L)(s n:Nat)(B:1<=n)(M:2<=s)(u:s+n<=L.length)(Q:∀i,s<=i->i<s+n->L[i]? =some true):Qx prog 109 [ptr m 0,.agg #[I (s:Int),I (n:Int)]] w λv w'=>v=I 0/\YY w' m gi (R9 L s n false)/\Kp (λk=>k=gi) w w':=by
 refine py (e:=[(0,_),(1,_)]) func109 O ntmps109 O O<|qN O<|PX O O (Sy O (cs:=[I (s:Int),I (n:Int)]) O) ?_
 rintro _ w1⟨b3,rfl,T,x,q⟩
 have D:=h.ext x
 have U:=q.lt
 have Y:=h.ltg
 refine Qe O<|RU<|Qz O<|qV (Rm U66 O O)<|Qe O<|PW O<|Qz O<|qV (QB (news:=[I (s:Int),I (n:Int)]) Ww O Sj O (Q8.cells (n:=2) q O) O)<|Qj ziE O (zaQ D s n B M u) ?_
 rintro _ w2⟨rfl,l⟩
 have G:=D.ext l
 have r:=l.PO q
 refine qV (Tf O)<|Qq O<|qV (QB (news:=[I (s:Int),I (n:Int)]) Ww O Sj O (Q8.cells (n:=2) r O) O)<|Qj zhK O (zb8 G s n true B u Q) ?_
 rintro _ Z⟨rfl,d⟩
 have J:=G.ext d
 have C:=d.PO r
 have R:=J.PO
 refine qV (Tf O)<|R0 O<|Qe O<|PW O<|Qz O<|QC O<|Qf ze0 O<|qV (Q0 U4 O O R O)<|Qe O<|PW O ?_
 have C:=d.PO r
 refine Sv O<|qV (QB (news:=[I (s:Int),I (n:Int)]) Ww O Sj O (Q8.cells (n:=2) C O) O)<|Qj zf8 O (z3E J s n false u) ?_
 rintro _ a⟨rfl,N,K⟩
 refine PR<|QA.qb (e:=[(4,_)]) ?_
 refine PN<|RY O<|PQ func109 O ?_
 exact⟨_,O,O,N,((x.trans l).trans d).kp.trans K⟩
end
structure Dev where
 due:Int
 TF:List Int
 zey:Int
 mask:UInt8
 B:Nat
 N:Nat
 sf:Int->Option PU
 cache:List (Int×PU)
 down:Bool
 calls:Int
 reads:Int
def zeros (n:Nat):PU:=List.replicate n 0
def Dev.kept (D:Dev)(n:Int):PU:=(D.sf n).getD (zeros (512*D.N))
def XQ (l:List (Int×PU))(n:Int):Option PU:=(l.reverse.find? λx=>x.1==n).map (·.2)
def Dev.now (D:Dev)(n:Int):PU:=(XQ D.cache n).getD (D.kept n)
def Dev.has (D:Dev)(n:Int):Bool:=decide (0<=n/\n<(D.B:Int))
def Dev.count (D:Dev):Dev:={D with calls:=D.calls+1,due:=if D.due=0 then 0 else D.due-1}
structure Dev.Ok (D:Dev):Prop where
 hB:16<=D.B/\D.B<=4096
 hN:1<=D.N/\D.N<=8
 due:0<=D.due/\D.due<=9223372036854775807
 sf:∀n s,D.sf n=some s->0<=n/\n<(D.B:Int)/\s.length=512*D.N
 cache:∀x∈D.cache,0<=x.1/\x.1<(D.B:Int)/\x.2.length=512*D.N
 len:0<=D.calls
 reads:True
def Dev.Bd (D:Dev):Prop:=D.calls<1000000000000/\D.cache.length<1000000000000/\True
def wr (x:Int×PU):List Value:=[I x.1,S x.2]
def wrs (l:List (Int×PU)):List Value:=l.flatMap wr
@[simp] theorem wrs_length (l:List (Int×PU)):(wrs l).length=l.length*2:=by
 induction l with
 |nil=>rfl
 |cons x r ih=>simp[wrs,wr,y0V] at ih⊢;omega
def Zx (kp ca:Value)(m:Nat)(D:Dev):List Value:=[I D.due,kp,I D.zey,Ua D.mask,I (D.B:Int),I (D.N:Int),.map (some m),ca,.bool D.down,I D.calls,I D.reads]
@[simp] theorem devCs_length (kp ca:Value) (m:Nat) (D:Dev):(Zx kp ca m D).length=11:=rfl
abbrev KI:Int->Value:=λz=> .int .i64 z
structure T9 (w:World)(p m:Nat)(kp ca:Value)(D:Dev):Prop where
 PO:Q8 w p (Zx kp ca m D) 132
 map:∃kv,XR KI w m kv/\∀n,Su kv n=(D.sf n).map S
 cache:Sl w ca 336 2 D.cache.length (wrs D.cache)
 TF:Sl w kp 3 1 D.TF.length (D.TF.map I)
 ok:D.Ok
def fpD (p m:Nat)(kp ca:Value):Nat->Prop:=λk=>k=p\/k=m\/ca.ownBlock=some k\/kp.ownBlock=some k
def Xw (w:World)(p:Nat)(D:Dev)(F:Nat->Prop):Prop:=∃m kp ca,T9 w p m kp ca D/\∀k,F k↔fpD p m kp ca k
def Upd (F d:Nat->Prop)(w w':World):Prop:=Kp F w w'/\∀k,d k->F k\/w.heap.size<=k
theorem Upd.trans {l d:Nat->Prop}{a b c:World}(h:Upd F l a b)(k:Upd l d b c):Upd F d a c:=
 ⟨h.1.An k.1 λi hi=>(h.2 i hi).symm,λi hi=>by
  rcases k.2 i hi with e|e
  ·exact h.2 i e
  ·exact .inr (y0c h.1.size e)⟩
theorem Ext.upd (h:Ext w w'):Upd F F w w':=⟨h.kp,λ_ h=> .inl h⟩
theorem T9.pm {kp:Value}{D:Dev}(h:T9 w p m kp ca D):¬p=m:=λe=>by
 obtain⟨kv,⟨⟨n,c,l,-⟩,-⟩,-⟩:=h.map
 obtain⟨q,d,-⟩:=h.PO
 rw[e] at d;rw[d] at l;cases l
theorem UF {v:Value}{e size n:Nat}(h:Sl w v e size n cs)(d:v.ownBlock=some b):∃xs q,w.heap[b]? =some (.cells xs e q):=by
 rcases h.2 with⟨u,-⟩|⟨g,cap,l,r,-,hg,-⟩
 ·rw[u] at d;cases d
 ·rw[r] at d;cases d;exact⟨_,_,hg⟩
theorem T9.kp {S:Nat->Prop}{kp:Value}{D:Dev}(h:T9 w p m kp ca D)(k:Kp S w w')(d:∀i,fpD p m kp ca i->¬S i):T9 w' p m kp ca D:=
 ⟨k.PO h.PO (d p (.inl O)),let ⟨kv,h1,h2⟩:=h.map;⟨kv,k.map h1 (d m (.inr (.inl O))),h2⟩,h.cache.kp k λg hg=>d g (.inr (.inr (.inl hg))),h.TF.kp k λg hg=>d g (.inr (.inr (.inr hg))),h.ok⟩
def T9.ext {kp:Value}{D:Dev}(h:T9 w p m kp ca D)(k:Ext w w'):T9 w' p m kp ca D:=h.kp k λ_ _=>id
theorem Dev.Ok.count {D:Dev}(h:D.Ok):D.count.Ok:=by
 have:=h.due
 have:=h.len
 refine⟨h.hB,h.hN,?_,h.sf,h.cache,?_,h.reads⟩
 ·simp only[Dev.count];split<;>omega
 ·simp only[Dev.count];omega
theorem T9.turn {kp:Value}{D D':Dev}(h:T9 w p m kp ca D)(B:Q8 w' p (Zx kp ca m D') 132)(k:Kp (λi=>i=p) w w')(u:D'.sf=D.sf)(v:D'.cache=D.cache)(x:D'.TF=D.TF)(G:D'.N=D.N)(r:D'.Ok):T9 w' p m kp ca D':=by
 obtain⟨C,q,-⟩:=h.PO
 refine⟨B,let ⟨kv,hm,hs⟩:=h.map;⟨kv,k.map hm λe=>h.pm e.symm,by rw[u];exact hs⟩,?_,?_,r⟩
 ·rw[v];refine h.cache.kp k λg hg n=>?_;obtain⟨xs,l,d⟩:=UF h.cache hg;rw[n,q] at d;cases d
 ·rw[x];refine h.TF.kp k λg hg n=>?_;obtain⟨xs,l,d⟩:=UF h.TF hg;rw[n,q] at d;cases d
def upd (f:Int->Option PU)(n:Int)(s:PU):Int->Option PU:=λx=>if x=n then some s else f x
def zaf (c:PU)(i:Nat)(x:PU):PU:=c.take i++x++c.drop (i+x.length)
def mixN (mask:UInt8)(a b:PU):Nat->PU
 |0=>a
 |s+1=>if mask.toNat / 2^s%2=1 then zaf (mixN mask a b s) (512*s) ((b.drop (512*s)).take 512) else mixN mask a b s
theorem z5K (c x:PU)(i:Nat)(h:i+x.length<=c.length):(zaf c i x).length=c.length:=by
 simp[zaf];omega
def XS (mask:UInt8)(a b:PU)(N:Nat)(e:a.length=512*N)(l:b.length=512*N):∀s,s<=N->(mixN mask a b s).length=512*N
 |0,_=>e
 | s + 1, h => by
   have d:=XS mask a b N e l s ω;simp only[mixN];split
   ·rw[z5K _ _ _ (by simp[d];omega),d]
   ·exact d
def Dev.fallTo (D:Dev)(l:List Int)(d:Int)(mk:UInt8):Nat->(Int->Option PU)
 |0=>D.sf
 | i + 1 => match D.cache[i]? with
   |none=>D.fallTo l d mk i
   | some x => if (i : Int) = d then upd (D.fallTo l d mk i) x.1 (mixN mk (((D.fallTo l d mk i) x.1).getD (zeros (512 * D.N))) x.2 D.N)
     else if(i:Int)∈l then upd (D.fallTo l d mk i) x.1 x.2 else D.fallTo l d mk i
def Dev.zc1 (D:Dev)(l:List Int)(d:Int)(mk:UInt8):Dev:=
 {D with sf:=D.fallTo l d mk D.cache.length,cache:=[],due:=0,TF:=[],zey:=0,mask:=0,down:=true}
theorem Dev.Ok.put {D:Dev}(h:D.Ok){n:Int}(l:0<=n/\n<(D.B:Int))(q:s.length=512*D.N):Dev.Ok {D with sf:=upd D.sf n s}:=
 ⟨h.hB,h.hN,h.due,λx t d=>by
  simp only[upd] at d;split at d
  ·rename_i e
   cases d;exact⟨ω,by rw[e];exact l.2,q⟩
  ·exact h.sf x t d,h.cache,h.len,h.reads⟩
theorem Dev.Ok.kept {D:Dev}(h:D.Ok)(n:Int):(D.kept n).length=512*D.N:=by
 unfold Dev.kept
 cases d:D.sf n with
 |none=>simp[zeros]
 |some s=>exact(h.sf n s d).2.2
theorem T9.put {kp:Value}{D:Dev}{n:Int}(h:T9 w p m kp ca D)(v:∀n,Su kv n=(D.sf n).map S)(u:XR KI w' m (putL kv n (S s)))(k:Kp (λi=>i=m) w w')
  (r:Dev.Ok {D with sf:=upd D.sf n s}):T9 w' p m kp ca {D with sf:=upd D.sf n s}:=by
 obtain⟨B,⟨⟨C,c,q,-⟩,-⟩,-⟩:=h.map
 refine⟨k.PO h.PO h.pm,⟨_,u,λx=>?_⟩,?_,?_,r⟩
 ·rw[zdc,v x];simp only[upd];split<;>rfl
 ·refine h.cache.kp k λg hg l=>?_;obtain⟨xs,e,d⟩:=UF h.cache hg;rw[l,q] at d;cases d
 ·refine h.TF.kp k λg hg l=>?_;obtain⟨xs,e,d⟩:=UF h.TF hg;rw[l,q] at d;cases d
theorem Rd.kpm {v:Value}{size n:Nat}(h:Rd w v size n cs)(I:XR KI w m kv)(k:Kp (λi=>i=m) w w'):Rd w' v size n cs:=by
 obtain⟨x,B⟩:=h
 refine⟨x,B.imp id λ⟨b,off,cap,J,C⟩=>⟨b,off,cap,J,λj u G=>?_⟩⟩
 have d:=C j u G
 obtain⟨⟨K,c,D,-⟩,-⟩:=I
 have r:¬b=m:=λe=>by
  rw[e] at d;simp[World.cell?,D] at d
 have q:b<w.heap.size:=by
  rcases y0a b w.heap.size with l|l
  ·exact l
  ·simp[World.cell?,y22 l] at d
 rw[<-d]
 simp only[World.cell?,k.block b q r]
theorem T9.zhF {kp:Value}{D:Dev}(h:T9 w p m kp ca D){g:Nat}(hg:ca.ownBlock=some g):¬g=p/\¬g=m/\¬kp.ownBlock=some g:=by
 obtain⟨xs,n,d⟩:=UF h.cache hg
 refine⟨λe=>?_,λe=>?_,λe=>?_⟩
 ·obtain⟨x,q,-⟩:=h.PO;rw[e,q] at d;cases d
 ·obtain⟨kv,⟨⟨u,c,r,-⟩,-⟩,-⟩:=h.map;rw[e,r] at d;cases d
 ·obtain⟨B,v,l⟩:=UF h.TF e;rw[d] at l;cases l
theorem T9.zhC {kp:Value}{D:Dev}(h:T9 w p m kp ca D){g:Nat}(hg:kp.ownBlock=some g):¬g=p/\¬g=m/\¬ca.ownBlock=some g:=by
 obtain⟨xs,n,d⟩:=UF h.TF hg
 refine⟨λe=>?_,λe=>?_,λe=>?_⟩
 ·obtain⟨x,q,-⟩:=h.PO;rw[e,q] at d;cases d
 ·obtain⟨kv,⟨⟨u,c,r,-⟩,-⟩,-⟩:=h.map;rw[e,r] at d;cases d
 ·obtain⟨B,v,l⟩:=UF h.cache e;rw[d] at l;cases l
theorem T9.lt {kp:Value}{D:Dev}(h:T9 w p m kp ca D):∀k,fpD p m kp ca k->k<w.heap.size:=by
 intro k e
 rcases e with rfl|rfl|d|d
 ·exact h.PO.lt
 ·obtain⟨kv,l,-⟩:=h.map;exact l.lt
 ·exact h.cache.lt d
 ·exact h.TF.lt d
theorem Xw.kp {S:Nat->Prop}{D:Dev}(h:Xw w p D F)(k:Kp S w w')(l:∀i,F i->¬S i):Xw w' p D F:=by
 obtain⟨m,kp,ca,e,d⟩:=h
 exact⟨m,kp,ca,e.kp k λi hi=>l i ((d i).2 hi),d⟩
def Xw.ext {D:Dev}(h:Xw w p D F)(k:Ext w w'):Xw w' p D F:=h.kp k λ_ _=>id
theorem Xw.lt {D:Dev}(h:Xw w p D F):∀k,F k->k<w.heap.size:=by
 obtain⟨m,kp,ca,d,l⟩:=h
 intro k n
 rcases (l k).1 n with rfl|rfl|e|e
 ·exact d.PO.lt
 ·obtain⟨kv,q,-⟩:=d.map;exact q.lt
 ·exact d.cache.lt e
 ·exact d.TF.lt e
def z0P (n:Nat):((List.replicate n (Value.int .u8 0)).drop 0).take n=(zeros n).map Ua:=by
 simp[zeros,Ua]
section
variable {kp:Value}{D:Dev}
def z7G (h:T9 w p m kp ca D):Qx prog 138 [ptr p 0] w λv w'=>v=I (D.B:Int)/\w'=w:=by
 have d:=h.PO
 refine py (e:=[(0,_)]) func138 O ntmps138 O O<|RY O<|QV O<|qV (Rm U26 O O)<|Ri O<|Qz O<|QC O<|Qf z1y O<|Qf z0E O<|qV (Q0 U3 O O d O)<|Qe O<|PQ func138 O ?_
 exact⟨_,O,O,O⟩
def z1Y (h:T9 w p m kp ca D):Qx prog 95 [ptr p 0] w λv w'=>v=I ((512*D.N:Nat):Int)/\w'=w:=by
 have d:=h.PO
 have hN:=h.ok.hN
 refine py (e:=[(0,_)]) func95 O ntmps95 O O<|RY O<|QV O<|qV (Rm U26 O O)<|Ri O<|Qz O<|QC O<|Qf z1y O<|Qf z0m O<|qV (Q0 U3 O O d O)<|qV (WB O O ω)<|Qe O<|PQ func95 O (⟨_,O,?_,O⟩)
 show I _=I _
 congr 1;omega
def z3G (h:T9 w p m kp ca D):Qx prog 194 [ptr p 0] w λv w'=>v=I (if D.down then 8 else 0)/\w'=w:=by
 have l:=h.PO
 refine py (e:=[(0,_)]) func194 O ntmps194 O O<|RY O<|RU<|Qz O<|qV (Rm U26 O O)<|Qe O<|PW O<|Qz O<|QC O<|Qf z4c O<|qV (Q0 U4 O O l O)<|Qe O<|Ru O (λd=>?_)<|λd=>?_
 ·refine RY O<|PQ func194 O ?_;exact⟨_,O,by simp[d,Rn],O⟩
 ·refine PS<|PN<|RY O<|PQ func194 O ?_;exact⟨_,O,by simp[d,Rn],O⟩
def z8M (n:Int)(h:T9 w p m kp ca D):Qx prog 195 [ptr p 0,I n] w λv w'=>v= .bool (D.has n)/\w'=w:=by
 have l:=h.PO
 refine py (e:=[(0,_),(1,_)]) func195 O ntmps195 O O<|qN O<|RZ O<|UL O<|TA (λd=>?_)<|λd=>?_
 ·refine Qq O<|Q4 O<|QC O<|Qf z1y O<|Qf z0E O<|qV (Q0 U3 O O l O)<|RT O<|Sh O<|Qe O<|PQ func195 O (⟨_,O,?_,O⟩);simp[Dev.has,d,Rn]
 ·refine Q4 O<|Sc<|Sc<|Sc<|qS<|R0 O<|Qe O<|PQ func195 O (⟨_,O,?_,O⟩);simp[Dev.has,d,Rn]
theorem z5z (n:Int)(h:T9 w p m kp ca D):Qx prog 219 [ptr p 0,I n] w λv w'=>v=S (D.kept n)/\Ext w w':=by
 have u:=h.PO
 have hN:=h.ok.hN
 have G:maxLen=9223372036854775807:=rfl
 obtain⟨kv,x,B⟩:=h.map
 refine py (e:=[(0,_),(1,_)]) func219 O ntmps219 O O<|RY O<|QV O<|QC O<|Qf z4F O<|qV (Q0 z8q O O u O)<|Q4 O<|qV (zld (k:=n) (K:=KI) z8q (Tk U3) ti9 O O x) ?_
 rw[B n]
 cases d:D.sf n with
 | some s =>
   refine Q4 O<|Tr O<|Tq O<|RZ O<|PR<|Qb O<|Qz O<|Qe O<|PQ func219 O ?_
   exact⟨_,O,by simp[Dev.kept,d,Rn],Ext.refl w⟩
 | none =>
   refine Q4 O<|Tr O<|Tq O<|RZ O<|Ri O<|Qz O<|Qj zgI O (z1Y h) ?_;rintro _ w1⟨rfl,rfl⟩;refine PX O O (pmk (c:=512*D.N) (n:=512*D.N) RB YK O O O ω ω ω) ?_;rintro _ w1⟨b1,rfl,⟨C,q,r⟩,-⟩;refine qV (z8w (l:=zeros (512*D.N)) RB U5 U9 O r (z0P _) (by simp[zeros])) ?_;refine Qe O<|PQ func219 O ?_;exact⟨_,O,by simp[Dev.kept,d,Rn],q⟩
theorem z6Q (h:T9 w p m kp ca D)(C:D.calls<1000000000000):Qx prog 216 [ptr p 0] w λv w'=>v= .bool (decide (D.due=1))/\T9 w' p m kp ca D.count/\Kp (λk=>k=p) w w':=by
 have x:=h.PO
 have G:=h.ok.due
 have B:=h.ok.len
 refine py (e:=[(0,_)]) func216 O ntmps216 O O<|qN O<|RZ O<|QC O<|Qf z9S O<|qV (Q0 U3 O O x O)<|Ra O<|QC O<|Qf z9S O<|Qc O (S0 R8 O O O x ξ) ?_
 rintro w1⟨d,l⟩
 refine PR<|QV O<|QC O<|Qf Ye O<|Qf z1r O<|qV (Q0 U3 O O d O)<|Ss O<|PR<|Qa O (λr=>?_)<|λr=>?_
 ·refine RY O<|PQ func216 O ?_;have n:(Zx kp ca m D).set (0+9) (I (D.calls+1))=Zx kp ca m D.count:=by simp[Zx,Dev.count,r]
  rw[n] at d;exact⟨_,O,by simp[Rn];omega,h.turn d l O O O O h.ok.count,l⟩
 ·refine PS (Qz O (QC O (Qf Ye O (Qf z1r O (qV (Q0 U3 O O d O) (SA O (QC O (Qf Ye O (Qf z1r O (Qc O (S0 R8 O O O d ξ) ?_))))))))));rintro w2⟨q,u⟩;refine qM O<|Q4 O<|QC O<|Qf Ye O<|Qf z1r O<|qV (Q0 U3 O O q O)<|Ss O<|Qe O<|QA.qb (e:=[(2,_)]) ?_;refine PQ func216 O ?_;have n:((Zx kp ca m D).set (0+9) (I (D.calls+1))).set (0+0+0) (I (D.due-1))=Zx kp ca m D.count:=by simp[Zx,Dev.count,r]
  rw[n] at q;exact⟨_,O,by simp[Rn];omega,h.turn q (l.trans u) O O O O h.ok.count,l.trans u⟩
end
theorem z9E (xs:List (Int×PU))(j:Nat)(h:j<xs.length):((wrs xs).drop (j*2)).take 2=wr xs[j]:=by
 induction xs generalizing j with
 |nil=>simp at h
 | cons x r d =>
   cases j with
   |zero=>simp[wrs,wr,y0V]
   | succ j =>
     have e:(wrs (x::r))=I x.1::S x.2::wrs r:=by simp[wrs,wr,y0V]
     rw[e,show(j+1)*2=(j*2)+1+1 by omega]
     simpa using d j (by simpa using h)
def z2f (a:Option Addr)(n cap:Nat)(w:World):Qx prog 218 [.slice a n cap] w λv w'=>∃b,v= .func (.func 235) #[] #[ptr b 0]/\z1p w b [.slice a n cap] 130 w':=by
 refine py (e:=[(0,_)]) func218 O ntmps218 O O<|qN O<|PX O O (Sy O O) ?_
 rintro _ w1⟨b1,rfl,hN⟩
 refine Sb O<|qV (ymf (first:=[]) (caps:=[.tmp 1]) O O)<|Qe O<|PQ func218 O ?_
 exact⟨_,O,_,O,hN⟩
theorem z50 (l d:Nat)(ca:Value)(xs:List (Int×PU))(J:Nat->World->Prop)(r:World->Prop)(w:World)(k:xs.length<4611686018427387904)
  (D:∀i w,J i w->(∃T,Q8 w d [ca] T)/\Sl w ca 336 2 xs.length (wrs xs))
  (hround:∀i w x,xs.reverse[i]? =some x->J i w->z2R prog l [I ((xs.length:Int)-1-i),.agg (wr x).toArray] w λv w'=>(v= .bool true/\J (i+1) w')\/(v= .bool false/\r w')) (C:J 0 w):
  Qx prog 235 [.func (.yield l) #[] #[],ptr d 0] w λv w'=>v= .tuple #[]/\(J xs.length w'\/r w'):=by
 obtain⟨⟨T,R⟩,S⟩:=D 0 w C
 obtain⟨a,cap,rfl,j⟩:=S.rd.shape
 refine py (e:=[(0,_),(1,_)]) func235 O ntmps235 O O<|qN O<|qV (Q0 z1o O O R O)<|SS z1o O<|SA O<|Qe O<|PT ?_
 rw[show(xs.length:Int)-1=(xs.length:Int)-1-((0:Nat):Int) by omega]
 refine SN (α:=Nat) (0) (λi=>[(0,.func (.yield l) #[] #[]),(1,ptr d 0),(3,I ((xs.length:Int)-1-i))]) (λi w=>i<=xs.length/\J i w) (λi=>xs.length-i) ?hI ?hround
 case hI=>exact⟨ω,C⟩
 case hround=>
  rintro i w1⟨hi,n⟩ Z
  try dsimp only
  obtain⟨⟨g,N⟩,K⟩:=D i w1 n;refine QV O<|UL O<|PR<|Qa O (λc=>?_)<|λc=>?_
  ·have u:i<xs.length:=ω
   have BT:=K.shape;rcases BT with⟨-,h⟩|⟨gb,B,f,m⟩
   ·omega
   cases f;obtain⟨x,q⟩:∃x,xs.reverse[i]? =some x:=⟨_,y07 (by simpa using u)⟩
   have Q:((wrs xs).drop ((xs.length-1-i)*2)).take 2=wr x:=by
    rw[z9E xs _ ω]
    congr 1
    rw[List.getElem?_reverse u,y07 ω] at q;exact SJ q
   have Y:((xs.length:Int)-1-i)=((xs.length-1-i:Nat):Int):=ω
   have G:=hround i w1 x q n;rw[Y] at G⊢;refine PS (RU (RK O (qV (Q0 z1o O O N O) (Q4 O (qV (Rk z1o XO O O ω) (qV (QB zdB O XO O (K.part Q) O) (z7C O O (yy O O) G ?_)))))));rintro v w2 U;rcases U with⟨rfl,b⟩|⟨rfl,M⟩
   ·refine qV (Tf O)<|Ri O<|PN<|Sv O<|SA O<|Qe O ?_;rw[show((xs.length-1-i:Nat):Int)-1=(xs.length:Int)-1-((i+1:Nat):Int) by omega];exact(Z (i+1) w2 ⟨ω,b⟩ ω).qb
   ·refine qV (Tf O)<|PR<|Qb O<|PQ func235 O ?_;exact⟨_,O,O,.inr M⟩
  ·refine Q7 O<|Rj func235 O ?_;have:i=xs.length:=ω
   subst this;exact⟨_,O,O,.inl n⟩
theorem z7U (xs:List (Int×PU))(n:Int)(i:Nat):(∀j x,j<i->xs.reverse[j]? =some x->x.1≠n)->∀x,xs.reverse[i]? =some x->x.1=n->XQ xs n=some x.2:=by
 intro l x d q
 have e:i<xs.reverse.length:=by
  rcases y0a i xs.reverse.length with h| h
  ·exact h
  ·rw[y0v h] at d;cases d
 have:xs.reverse.find? (λx=>x.1==n)=some x:=by
  rw[List.find?_eq_some_iff_getElem];refine⟨by simp[q],i,e,?_,λj r=>?_⟩
  ·rw[y07 e] at d;exact SJ d
  ·have:=l j _ r (y07 ω)
   simpa using this
 simp[XQ,this]
theorem z8x (xs:List (Int×PU))(n:Int):(∀j x,j<xs.length->xs.reverse[j]? =some x->x.1≠n)->XQ xs n=none:=by
 intro e
 have:xs.reverse.find? (λx=>x.1==n)=none:=by
  rw[List.find?_eq_none];intro x h;obtain⟨j,d,rfl⟩:=List.getElem_of_mem h;have:=e j _ (by simpa using d) (y07 d)
  simpa using this
 simp[XQ,this]
theorem zeK {kp:Value}{D:Dev}(n:Int)(h:T9 w p m kp ca D)(hc:D.cache.length<1000000000000):
  Qx prog 196 [ptr p 0,I n] w λv w'=>v=S (D.now n)/\Ext w w':=by
 have hM:=h.PO
 have aw:=h.ok.len
 have fT:=hc
 obtain⟨a,cap,rfl,ha⟩:=h.cache.rd.shape
 refine py (e:=[(0,_),(1,_)]) func196 O ntmps196 O O<|qN O<|PX O O (Sy O O) ?_
 rintro _ w1⟨b3,rfl,ev,o,B⟩
 refine PX O O (SE (cs:=[_]) ti9 O) ?_
 rintro _ w2⟨b4,rfl,fD,U,K⟩
 replace h:=(h.ext o).ext U
 have gY:=h.PO
 refine PR<|QV O<|QC O<|Qf z05 O<|qV (Q0 z1o O O gY O)<|Qj zhY O (z2f a D.cache.length cap _) ?_
 rintro _ Q⟨bx,rfl,fA,N,b⟩
 replace h:=h.ext N
 replace B:=N.PO (U.PO B)
 replace K:=N.PO K
 refine PR<|PT<|TX (ps:=[12,13]) (p:=[]) (q:=[_]) O zhV ?_
 rintro l P J hl cM hD W C eC
 have J1:=zbV C eC
 have A:=h
 replace h:=h.ext J
 replace B:=J.PO B
 replace K:=J.PO K
 have Fw:=b.lt
 have mY:=B.lt
 have eg:=o.size
 have dv:=U.size
 have ph:=N.size
 have Mv:bx<Q.heap.size:=b.lt
 replace b:=J.PO b
 refine Qx.mono (z50 l bx (.slice a D.cache.length cap) D.cache
  (λi w'=>W .ready none w'/\Kp (λk=>k=l) P w'/\∀j x,j<i->D.cache.reverse[j]? =some x->x.1≠n)
  (λw'=>W .done (some .ret) w'/\Kp (λk=>k=l\/k=b4) P w'/\Q8 w' b4 [S (D.now n)] 9) P ω ?_ ?_ ⟨eC,Kp.refl _ _,ω⟩) ?_
 ·rintro i w'⟨r,d,-⟩;refine⟨⟨_,d.PO b ω⟩,h.cache.kp d λg hg fY=>?_⟩;have:=A.cache.lt hg;omega
 ·rintro i w' x hx⟨r,d,z⟩;refine Vk C r O O ?_;have yI:=d.size;refine PY O<|PX O O (SE (cs:=[_,_]) XO O) ?_;rintro _ c⟨b6,rfl,oY,R,aU⟩;refine Qc O (QX XO O O O O aU ξ) ?_;rintro w6⟨nv,aL⟩;have M:=R.An aL (λi hi=>ω);replace r:=M.rc C r id;replace d:=d.trans M.kp;have Fx:=R.size;have Mw:=nv.lt;refine PR<|run_beginRound O C r ?_;rintro V h7 u;have t:=u.PO nv ω;have L:=(d.trans u).PO B ω;refine PT<|qN O<|Qf z1H O<|qV (Q0 U3 O O t O)<|qV (Q0 U3 O O L O)<|Ss O<|PR<|Qa O (λE=>?_)<|λE=>?_
  ·have Y:=(d.trans u).PO K ω;refine qN O (Qf z4z O (qV (Q0 U9 O O t O) (Qc O (S0 ti9 O O O Y ξ) ?_)));rintro w8⟨T,X⟩;refine PR (Xf C (X.rc C h7 ω) ?_);intro w9 F f;refine .inr ⟨O,F,((d.trans u).PZ λ_ h=> .inl h).trans ((X.PZ λ_ h=> .inr h).trans (f.PZ λ_ h=> .inl h)),?_⟩
   have Fy:D.now n=x.2:=by
    unfold Dev.now;rw[z7U D.cache n i z x hx E]
    rfl
   rw[Fy];exact f.PO T ω
  ·refine PS<|PN<|TJ C h7 ?_;intro w9 F f;refine .inl ⟨O,F,(d.trans u).trans f,λj y hj H=>?_⟩;rcases y0a j i with sh|sh
   ·exact z j y sh H
   ·have:j=i:=ω
    subst this;rw[hx] at H;cases H;exact E
 ·rintro v w'⟨rfl,⟨r,d,z⟩|⟨r,d,hB⟩⟩
  ·refine⟨_,_,r,ξ,λc Z=>?_⟩;have s:=d.trans Z;have R:Ext Q c:=J.An s (λi hi=>ω);replace A:=A.ext R;have L:=s.PO B ω;have Y:=s.PO K ω;have G:=s.heap hD ω;refine PN<|Qz O<|qV (Q0 U3 O O L O)<|Qj zgg O (z5z n A) ?_;rintro _ w6⟨rfl,M⟩;replace Y:=M.PO Y;replace G:=M.heap G id;refine Qc O (S0 ti9 O O O Y ξ) ?_;rintro V⟨t,u⟩;replace G:=u.heap G ω;have T:=(RJ V Q.heap.size (.deferred none)).PO t ω;refine PR (WM ξ (Y8 G) func196 (.cell1 U9 O O ((T).cell _) .nil) ?_);refine⟨_,O,?_,?_⟩
   ·simp[Dev.now,z8x D.cache n z,Rn]
   ·exact((((o.trans (U.trans N)).trans R).trans M).An u (λi hi=>ω)).An (RJ V Q.heap.size (.deferred none)) (λi hi=>ω)
  ·refine⟨_,_,r,ξ,λc Z=>?_⟩;have G:=(d.trans (Z.PZ λ_ h=> .inl h)).heap hD ω;have aG:=Z.PO hB ω;have T:=(RJ c Q.heap.size (.deferred none)).PO aG ω;refine WM ξ (Y8 G) func196 (.cell1 U9 O O ((T).cell _) .nil) ?_;refine⟨_,O,O,?_⟩;exact(((o.trans (U.trans (N.trans J))).An d (λi hi=>ω)).An Z (λi hi=>ω)).An (RJ c Q.heap.size (.deferred none)) (λi hi=>ω)
section
variable {kp:Value}{D:Dev}
def zc0 (h:T9 w p m kp ca D):Qx prog 154 [ptr p 0] w λv w'=>v= .bool D.down/\w'=w:=by
 have d:=h.PO
 refine py (e:=[(0,_)]) func154 O ntmps154 O O<|qN O<|RZ O<|qV (Rm U26 O O)<|Qq O<|QC O<|Qf z4c O<|qV (Q0 U4 O O d O)<|R0 O<|Qe O<|PQ func154 O ?_
 exact⟨_,O,O,O⟩
end
theorem za4 (v:Value)(l:List Int)(x:Int)(w:World)(N:l.length<=17592186044416)(C:Rd w v 1 l.length (l.map I)):
  Qx prog 206 [v,I x] w λu w'=>(∃k,u=I k/\(0<=k↔x∈l))/\w'=w:=by
 obtain⟨a,cap,rfl,M⟩:=C.shape
 refine py (e:=[(0,_),(1,_)]) func206 O ntmps206 O O<|RY O<|QV O<|SS SF O<|Q4 O<|PR<|PT<|SN (α:=Nat) (0) (λi=>[(0,.slice a l.length cap),(1,I x),(7,I (l.length:Int)),(8,I (i:Int))]) (λi w'=>w'=w/\i<=l.length/\∀j,j<i->l[j]?≠some x) (λi=>l.length-i) ?hI ?hround
 case hI=>exact⟨O,ω,ω⟩
 case hround =>
  rintro i _⟨rfl,hi,r⟩ J
  try dsimp only
  refine qN O<|RT O<|PR<|It<|Qa O (λD=>?_)<|λD=>?_
  ·have n:i<l.length:=ω
   rcases C.2 with⟨c,-,h⟩|⟨b,off,q,K,G⟩
   ·omega
   cases K;refine PS (RU (Qz O (Sb O (Qq O (Q4 O (qV (Rk SF R8 O O ω) (qV (QH U3 O O (G (i*1) (I l[i]) (by simp[n]))) ?_)))))));refine Ss O<|PR<|Qa O (λd=>?_)<|λd=>?_
   ·refine Qz O<|Qe O<|PQ func206 O (⟨_,O,⟨(i:Int),O,?_⟩,O⟩);constructor
    ·intro _;rw[d];exact y1s n
    ·intro _;omega
   ·refine PS<|PN<|PY O<|Ra O<|Q4 O<|PR ?_
    exact(J (i+1) _ ⟨rfl,ω,λj B=>by
     rcases y0a j i with h| h
     ·exact r j h
     ·have:j=i:=ω
      subst this;rw[y07 n]
      exact λh=>d (SJ h).symm⟩ ω).qb
  ·refine Q7 O<|RY O<|PQ func206 O (⟨_,O,⟨-1,O,?_⟩,O⟩);constructor
   ·intro h;omega
   ·intro h;obtain⟨j,B,e⟩:=List.getElem_of_mem h;exact absurd (by rw[y07 B,e]) (r j ω)
theorem z4J (v:Value)(l:List Int)(x:Int)(w:World)(h:l.length<=17592186044416)(n:Rd w v 1 l.length (l.map I)):
  Qx prog 234 [v,I x] w λu w'=>u= .bool (decide (x∈l))/\w'=w:=by
 refine py (e:=[(0,_),(1,_)]) func234 O ntmps234 O O<|qN O<|Sb O<|Qq O<|Qj zfi O (za4 v l x w h n) ?_
 rintro _ w1⟨⟨k,rfl,d⟩,rfl⟩
 refine UL O<|Qe O<|PQ func234 O (⟨_,O,?_,O⟩)
 simp only[Rn,d]
theorem z7Y (c x:PU)(rest:List Value)(i:Nat)(h:i+x.length<=c.length):S1 (c.map Ua++rest) i (x.map Ua)=(zaf c i x).map Ua++rest:=by
 unfold S1 zaf
 rw[y1n (by simp;omega),y1i (by simp;omega)]
 simp
theorem z0J {D:Dev}{l:List Int}{d:Int}{mk:UInt8}{x:Int×PU}(e:D.cache[i]? =some x):D.fallTo l d mk (i+1)=
  if(i:Int)=d then upd (D.fallTo l d mk i) x.1 (mixN mk (((D.fallTo l d mk i) x.1).getD (zeros (512*D.N))) x.2 D.N)
   else if(i:Int)∈l then upd (D.fallTo l d mk i) x.1 x.2 else D.fallTo l d mk i:=by
 simp only[Dev.fallTo,e]
theorem zcR {kp cv:Value}{D:Dev}(h:T9 w p m kp ca D)(l:List Int)(J:Int)(mk:UInt8)(hl:l.length<=17592186044416)(hr:Rd w cv 1 l.length (l.map I))(fT:D.cache.length<2000000000000):
  Qx prog 217 [ptr p 0,.agg #[cv,I J,Ua mk]] w λv w'=>v= .tuple #[]/\T9 w' p m (.slice none 0 0) (.slice none 0 0) (D.zc1 l J mk)/\Kp (λk=>k=p\/k=m) w w':=by
 have aw:=h.ok.len
 have hN:=h.ok.hN
 have Mx:=mk.toNat_lt
 have My:=h.pm
 have BW:=h.lt m (.inr (.inl O))
 have J2:∀{w':World},Ext w w'->w.heap.size<=w'.heap.size:=λh=>h.size
 obtain⟨a,cap,rfl,ha⟩:=h.cache.rd.shape
 obtain⟨ac,C,rfl,Pk⟩:=hr.shape
 refine py (e:=[(0,_),(1,_)]) func217 O ntmps217 O O<|qN O<|PX O O (Sy O O) ?_
 rintro _ w1⟨b3,rfl,ev,X,au⟩
 have h0:=h.ext X
 have eg:=X.size
 replace hr:=hr.ext X
 have Fw:=au.lt
 have hM:=h0.PO
 refine PR<|QV O<|QC O<|Qf z05 O<|qV (Q0 z1o O O hM O)<|SS z1o O<|Q4 O<|PR<|PT<|SN (α:=Nat) (0) (λi=>[(0,ptr p 0),(3,ptr b3 0),(11,.slice a D.cache.length cap),(12,I (D.cache.length:Int)),(13,I (i:Int))]) (λi g=>i<=D.cache.length/\T9 g p m kp (.slice a D.cache.length cap) {D with sf:=D.fallTo l J mk i}/\Rd g (.slice ac l.length C) 1 l.length (l.map I)/\Q8 g b3 [.slice ac l.length C,I J,Ua mk] 127/\Kp (λk=>k=m) w1 g) (λi=>D.cache.length-i) ?hI ?hround
 case hI=>exact⟨ω,h0,hr,au,Kp.refl _ _⟩
 case hround =>
  rintro i g⟨hi,n,F,G,pH⟩ ih
  try dsimp only
  have Mz:=pH.size;refine qN O<|RT O<|PR<|It<|Qa O (λaO=>?_)<|λaO=>?_
  ·have gp : i < D.cache.length := by omega
   have ob:=n.cache;rcases ob.shape with⟨-,h⟩|⟨gb,a0,m9,jZ⟩
   ·exact absurd h (by show ¬D.cache.length=0;omega)
   cases m9;obtain⟨x,T⟩:∃x,D.cache[i]? =some x:=⟨_,y07 gp⟩;have I7:D.cache[i]=x:=by rw[y07 gp] at T;exact SJ T
   have g7:((wrs D.cache).drop (i*2)).take 2=wr x:=by rw[z9E _ _ gp,I7]
   have Q:=n.ok.cache x (y0i T);simp only at Q;have lL:=ob.part g7;refine PS (RU (Qz O (qV (Rk z1o XO O O ω) (qV (QB zdB O XO O lL O) (PX O O (SE (cs:=[_,_]) XO O) ?_)))));rintro _ w2⟨b5,rfl,gj,ae,aG⟩;refine Tq O (Qc O (QX XO O O O O aG ξ) ?_);rintro P⟨M,ar⟩;replace M:Q8 P b5 [I x.1,S x.2] 336:=M;have y:Ext g P:=ae.An ar (λj hj=>ω);have MA:=M.lt;replace n:=n.ext y;have mh:=n.lt;replace F:=F.ext y;have qP:=F;replace G:=y.PO G;have mY:=G.lt;have bY:Kp (λk=>k=m) w1 P:=pH.trans y.kp;have MB:=y.size;have J3:¬b3=b5:=by have:=ae.size;have:=G;omega
   refine PR<|PT<|Qz O<|Qf zeX O<|qV (Q0 U3 O O G O)<|Ss O<|Qe O<|Qa O (λV=>?_)<|λV=>?_
   ·refine Qz O<|Qf z1H O<|qV (Q0 U3 O O M O)<|Qj zgg O (z5z x.1 n) ?_;rintro _ r⟨rfl,aD⟩;obtain⟨u,im⟩:∃u,Dev.kept {D with sf:=D.fallTo l J mk i} x.1=u:=⟨_,O⟩;have mE:u.length=512*D.N:=by rw[<-im];exact n.ok.kept x.1
    rw[im];refine PX O O (zcy U9 RB U5 O) ?_;rintro _ w5⟨bb,z,rest,rfl,⟨ww,aS,wX⟩,J4⟩;have b:=aD.trans aS;replace n:=n.ext b;replace F:=F.ext b;replace G:=b.PO G;replace M:=b.PO M;have MC:=wX.lt;have qQ:=n.PO;have J5:=b.size;have MD:=aD.size;have ME:=n.PO.lt;refine Qe O<|QV O<|QC O<|Qf z1y O<|Qf z0m O<|qV (Q0 U3 O O qQ O)<|Q4 O<|PR<|PT<|SN (α:=Nat) (0) (λs=>[(0,ptr p 0),(3,ptr b3 0),(5,ptr b5 0),(6,.slice (some ⟨bb,0,none⟩) u.length z),(11,.slice (some ⟨gb,0,none⟩) D.cache.length cap),(12,I (D.cache.length:Int)),(13,I (i:Int)),(32,I (D.N:Int)),(33,I (s:Int))]) (λs d=>s<=D.N/\Q8 d bb ((mixN mk u x.2 s).map Ua++rest) 5/\Kp (λk=>k=bb) w5 d) (λs=>D.N-s) ?hI ?hround
    case hI=>exact⟨ω,wX,Kp.refl _ _⟩
    case hround=>
     rintro s d⟨hs,jx,c⟩ E
     try dsimp only
     have A1:=c.PO G ω;have A3:=c.PO M ω;have fC:=XS mk u x.2 D.N mE Q.2.2 s hs;refine qN O<|RT O<|PR<|It<|Qa O (λiq=>?_)<|λiq=>?_
     ·have MF:s<D.N:=ω
      obtain⟨q,hq⟩:∃q,mk.toNat / 2^s=q:=⟨_,O⟩;have Pm:q<256:=by rw[<-hq];exact y1R (y0P _ _) Mx
      refine PS (RU (Qz O (Sb O (Qf zeT O (qV (Q0 U5 O O A1 O) (Q4 O (qV (Vl s (2^s) O O (by simp only[IntKind.bits];omega) O) ?_)))))));rw[hq];refine qV (zlZ O O ω ω) ?_;rw[y2t];refine Ss O<|PR<|Qa O (λnX=>?_)<|λnX=>?_
      ·have oc:q%2=1:=ω
       refine Sq (λw'=>Kp (λk=>k=bb) d w') O (Ql 0 O O ((Kp.refl _ d).drew) (Ql 1 O O ((Kp.refl _ d).drew) (PV 2 O (WB O O ω) ((Kp.refl _ d).drew) (Ql 3 O O ((Kp.refl _ d).drew) (PV 4 O (W7 O O ω) ((Kp.refl _ d).drew) (PV 5 O (WB O O ω) ((Kp.refl _ d).drew) (PV 7 O (QE z4z O) ((Kp.refl _ d).drew) (qT 8 O (λ_ h=>Q0 U9 O O (h.PO A3 ω) O) ((Kp.refl _ d).drew) (Ql 9 O O ((Kp.refl _ d).drew) (PV 10 O (WB O O ω) ((Kp.refl _ d).drew) (PV 11 O (z1l U9 O O ω) ((Kp.refl _ d).drew) (PV 6 O (zgz (i:=s*512) (j:=(s+1)*512) RB YK O O O ω ω) ((Kp.refl _ d).drew) (qO 12 ?_)))))))))))));refine ZS (i:=12) O O O (zlL RB YK O O ((Ext.Qm d).PO jx) (by simp[fC];omega)) ?_;rintro _ w6⟨rfl,U,W⟩;refine⟨(Kp.refl _ d).drew.trans W,?_⟩
       have e6:((x.2.drop (s*512)).take ((s+1)*512-s*512)).map Ua=((x.2.drop (512*s)).take 512).map Ua:=by
        rw[show(s+1)*512-s*512=512 by omega,y0E]
       rw[e6,show 0+s*512*1=512*s by omega,z7Y _ _ _ _ (by simp[fC,Q.2.2];omega)] at U
       have em:mixN mk u x.2 (s+1)=zaf (mixN mk u x.2 s) (512*s) ((x.2.drop (512*s)).take 512):=by
        simp only[mixN,hq,oc,if_true]
       rw[<-em] at U;refine qE<|PN<|PY O<|Ra O<|Q4 O<|PR ?_;exact(E (s+1) w6 ⟨ω,U,c.trans ((Kp.refl _ d).drew.trans W)⟩ ω).qb
      ·have oc:¬q%2=1:=ω
       have em:mixN mk u x.2 (s+1)=mixN mk u x.2 s:=by simp only[mixN,hq,oc,if_false]
       rw[<-em] at jx;refine PS<|PN<|PY O<|Ra O<|Q4 O<|PR ?_;exact(E (s+1) d ⟨ω,jx,c⟩ ω).qb
     ·have DH:s=D.N:=ω
      subst DH;have o:=n.kp c λk hk cF=>by have:=mh k hk;omega
      obtain⟨kv,Z,H⟩:=o.map;have MG:=o.PO;have J6:Ext P d:=b.An c (λj hj=>ω);have uJ:=qP.ext J6;refine Q7 O (Sq (λw'=>Kp (λk=>k=m) d w') O (Ql 0 O O ((Kp.refl _ d).drew) (PV 1 O (Rs O) ((Kp.refl _ d).drew) (PV 2 O (QE z4F O) ((Kp.refl _ d).drew) (qT 3 O (λ_ h=>(Q0 z8q O O (h.PO MG o.pm) O)) ((Kp.refl _ d).drew) (PV 4 O (QE z1H O) ((Kp.refl _ d).drew) (qT 5 O (λ_ A=>(Q0 U3 O O (A.PO A3 ω) O)) ((Kp.refl _ d).drew) (Ql 6 O O ((Kp.refl _ d).drew) (qT 7 O (λ_ h=>z8w (l:=mixN mk u x.2 D.N) RB U5 U9 O (h.PO jx ω) (z6C _ _ _ ω) ω) ((Kp.refl _ d).drew) (qO 8 (QQ (i:=8) O O (zmu (k:=x.1) (K:=KI) z8q (Tk U3) O O O (Ext.map (Ext.Qm d) Z)) ?_)))))))))));rintro f⟨gM,Y⟩;refine⟨(Kp.refl _ d).drew.trans Y,?_⟩;have R:=(Kp.refl (λi=>i=m) d).drew.trans Y;have L:=o.put H gM R (o.ok.put ⟨Q.1,Q.2.1⟩ (XS mk u x.2 D.N mE Q.2.2 D.N (y04 _)))
      have ef:upd (D.fallTo l J mk i) x.1 (mixN mk u x.2 D.N)=D.fallTo l J mk (i+1):=by
       rw[z0J T,if_pos V,<-im];rfl
      simp only[ef] at L;refine qE<|PN<|PN<|PY O<|Ra O<|Q4 O<|PR ?_;exact(ih (i+1) f ⟨ω,L,uJ.kpm Z R,R.PO A1 ω,bY.trans (J6.kp.trans R)⟩ ω).qb
   ·have Fz:=n.PO;refine qN O<|Qf zem O<|qV (Q0 SF O O G O)<|Q4 O<|Qj ziz O (z4J (.slice ac l.length C) l (i:Int) P hl qP) ?_;rintro _ r⟨rfl,rfl⟩;refine Qe O<|Qa O (λt=>?_)<|λt=>?_
    ·obtain⟨kv,Z,H⟩:=n.map;refine Sq (λw'=>Kp (λk=>k=m) r w') O (Ql 0 O O ((Kp.refl _ r).drew) (PV 1 O (Rs O) ((Kp.refl _ r).drew) (PV 2 O (QE z4F O) ((Kp.refl _ r).drew) (qT 3 O (λ_ h=>(Q0 z8q O O (h.PO Fz n.pm) O)) ((Kp.refl _ r).drew) (PV 4 O (QE z1H O) ((Kp.refl _ r).drew) (qT 5 O (λ_ A=>(Q0 U3 O O (A.PO M ω) O)) ((Kp.refl _ r).drew) (PV 6 O (QE z4z O) ((Kp.refl _ r).drew) (qT 7 O (λ_ A=>(Q0 U9 O O (A.PO M ω) O)) ((Kp.refl _ r).drew) (qO 8 (QQ (i:=8) O O (zmu (k:=x.1) (K:=KI) z8q (Tk U3) O O O (Ext.map (Ext.Qm r) Z)) ?_))))))))));rintro f⟨gM,Y⟩;refine⟨(Kp.refl _ r).drew.trans Y,?_⟩;have R:=(Kp.refl (λi=>i=m) r).drew.trans Y;have L:=n.put H gM R (n.ok.put ⟨Q.1,Q.2.1⟩ Q.2.2)
     have ef:upd (D.fallTo l J mk i) x.1 x.2=D.fallTo l J mk (i+1):=by
      rw[z0J T,if_neg V,if_pos t]
     simp only[ef] at L;refine qE<|PN<|PN<|PY O<|Ra O<|Q4 O<|PR ?_;exact(ih (i+1) f ⟨ω,L,qP.kpm Z R,R.PO G ω,bY.trans R⟩ ω).qb
    ·have ef:D.fallTo l J mk i=D.fallTo l J mk (i+1):=by
      rw[z0J T,if_neg V,if_neg t]
     rw[ef] at n;refine PS<|PN<|PN<|PY O<|Ra O<|Q4 O<|PR ?_;exact(ih (i+1) r ⟨ω,n,qP,G,bY⟩ ω).qb
  ·have t:i=D.cache.length:=ω
   subst t;have Fz:=n.PO;refine Q7 O (Qz O (QC O (Qf z05 O (Qc O (S0 z9Q O O O Fz ξ) ?_))));rintro w5⟨aG,ai⟩;refine qM O (Q4 O (qV (To (cs:=[_,_,_,_]) z9b O zif O O) (QC O (Qf Ye O (Qc O (QX z9b O O O O aG ξ) ?_)))));rintro w6⟨U,W⟩;replace U:Q8 w6 p [I 0,.slice none 0 0,I 0,Ua 0,I (D.B:Int),I (D.N:Int),.map (some m),.slice none 0 0,.bool D.down,I D.calls,I D.reads] 132:=U;refine PR (Sv O (QC O (Qf z4c O (Qc O (S0 Wu O O O U ξ) ?_))));rintro f⟨cd,Y⟩;refine PR<|Rj func217 O ?_;have A7:=(ai.trans W).trans Y;obtain⟨kv,Z,H⟩:=n.map;refine⟨_,O,O,⟨cd,⟨kv,A7.map Z λe=>n.pm e.symm,H⟩,Sl.nil f _ _,Sl.nil f _ _,?_⟩,?_⟩
   ·exact⟨n.ok.hB,n.ok.hN,by simp[Dev.zc1],n.ok.sf,λx T=>by simp[Dev.zc1] at T,by have:=aw;simp[Dev.zc1];omega,n.ok.reads⟩
   ·exact((Ext.kp X).trans (pH.PZ λ_ h=> .inr h)).trans (A7.PZ λ_ h=> .inl h)
def Dev.push (D:Dev)(n:Int)(s:PU):Dev:={D with cache:=D.cache++[(n,s)]}
def zda {e:Env}{d:Option Nat}{pos:String}{g:Option (Nat×Bool)}{x:Operand}{a b:Int}(l:look e x=some (I a))(n:look e y=some (I b)):Y P e ⟨d,.binOp .add t x y t',ty,pos,aft,g⟩ (I (IntKind.i64.wrap (a+b))) w w:=fun ρ h=>by simp[execOp,go_sem,h _ _ l,h _ _ n]
def Dev.zft (D:Dev):Dev:=D.zc1 D.TF D.zey D.mask
def Dev.write (D:Dev)(n:Int)(s:PU):Dev×Int:=
 if D.down then(D,8)
 else if D.has n=false\/s.length≠512*D.N then(D,1)
 else if D.due=1 then(((D.push n s).count).zft,8) else((D.push n s).count,0)
def Dev.read (D:Dev)(n:Int):Dev×PU×Int:=
 if D.down then(D,[],8) else if D.has n=false then(D,[],1) else({D with reads:=IntKind.i64.wrap (D.reads+1)},D.now n,0)
def z25 (w:World)(p m:Nat)(kp ca:Value)(D':Dev)(w':World):Prop:=∃e d,T9 w' p m e d D'/\Upd (fpD p m kp ca) (fpD p m e d) w w'
def z25.same {kp:Value}{D:Dev}(h:T9 w' p m kp ca D)(k:Ext w w'):z25 w p m kp ca D w':=⟨kp,ca,h,k.upd⟩
def zbN {kp:Value}(k:Kp (λi=>i=p\/i=m) w w'):Upd (fpD p m kp ca) (fpD p m (.slice none 0 0) (.slice none 0 0)) w w':=
 ⟨k.PZ λi hi=>hi.elim .inl λh=> .inr (.inl h),λi hi=>by
  rcases hi with h|h|h| h
  ·exact .inl (.inl h)
  ·exact .inl (.inr (.inl h))
  ·cases h
  ·cases h⟩
section
variable {kp:Value}{D:Dev}
theorem zcL (n:Int)(h:T9 w p m kp ca D)(C:D.Bd):
  Qx prog 158 [ptr p 0,I n] w λv w'=>v= .tuple #[S (D.read n).2.1,I (D.read n).2.2]/\z25 w p m kp ca (D.read n).1 w':=by
 refine py (e:=[(0,_),(1,_)]) func158 O ntmps158 O O<|qN O<|Rw O<|QV O<|Qj zfe O (z3G h) ?_
 rintro _ w1⟨rfl,rfl⟩
 cases l:D.down with
 | true =>
   refine RZ O<|RI O<|PR<|Qa O (λd=>?_)<|λd=>?_
   ·refine Qz O<|Rw O<|PQ func158 O ?_;have e:D.read n=(D,[],8):=by simp[Dev.read,l]
    rw[e];exact⟨_,O,O,z25.same h (Ext.refl _)⟩
   ·exact absurd ψ d
 | false =>
   refine RZ O<|RI O<|PR<|Qa O (λd=>?_)<|λd=>?_
   ·exact absurd d ψ
   ·refine PS<|It<|RK O<|Qj zfL O (z8M n h) ?_;rintro _ w2⟨rfl,rfl⟩
    cases B:D.has n with
    | false =>
      refine qV (Tf O)<|PR<|Qb O<|qN O<|Rw O<|PQ func158 O ?_;have e:D.read n=(D,[],1):=by simp[Dev.read,l,B]
      rw[e]
      exact⟨_,O,O,z25.same h (Ext.refl _)⟩
    | true =>
      refine qV (Tf O)<|PR<|PW O ?_;have x:=h.PO;refine PS (Qz O (QC O (Qf z9C O (qV (Q0 U3 O O x O) (qV (zda O O) (QC O (Qf z9C O (Qc O (S0 R8 O O O x ξ) ?_))))))));rintro J⟨G,r⟩;have u:=h.turn (D':={D with reads:=IntKind.i64.wrap (D.reads+1)}) G r O O O O ⟨h.ok.hB,h.ok.hN,h.ok.due,h.ok.sf,h.ok.cache,h.ok.len,trivial⟩;refine qM O<|Qq O<|Qj zkC O (zeK n u C.2.1) ?_;rintro _ K⟨rfl,q⟩;refine Rw O<|PQ func158 O ?_;have e:D.read n=({D with reads:=IntKind.i64.wrap (D.reads+1)},D.now n,0):=by simp[Dev.read,l,B]
      rw[e];exact⟨_,O,O,kp,ca,u.ext q,(r.PZ λ_ h=> .inl h).trans q.kp,λ_ h=> .inl h⟩
theorem zaF (n:Int)(s:PU)(h:T9 w p m kp ca D)(r:D.Bd)(hk:D.TF.length<=17592186044416):
  Qx prog 193 [ptr p 0,I n,S s] w λv w'=>v=I (D.write n s).2/\z25 w p m kp ca (D.write n s).1 w':=by
 have fC:maxLen=9223372036854775807:=rfl
 obtain⟨P,fT,qo⟩:=r
 have MH:=h.ok.len
 refine py (e:=[(0,_),(1,_),(2,_)]) func193 O ntmps193 O O<|RY O<|QV O<|Qj zfe O (z3G h) ?_
 rintro _ w1⟨rfl,rfl⟩
 cases C:D.down with
 | true =>
   refine RZ O<|RI O<|PR<|Qa O (λJ=>?_)<|λJ=>?_
   ·refine Qz O<|Qe O<|PQ func193 O ?_;have e:D.write n s=(D,8):=by simp[Dev.write,C]
    rw[e];exact⟨_,O,O,z25.same h (Ext.refl _)⟩
   ·exact absurd ψ J
 | false =>
   refine RZ O<|RI O<|PR<|Qa O (λJ=>?_)<|λJ=>?_
   ·exact absurd J ψ
   ·refine PS<|It<|RK O<|Qj zfL O (z8M n h) ?_;rintro _ w2⟨rfl,rfl⟩
    cases G:D.has n with
    | false =>
      refine qV (Tf O)<|Q4 O<|Sc<|Sc<|qS<|Sh O<|PR<|Qb O<|RY O<|PQ func193 O ?_;have e:D.write n s=(D,1):=by simp[Dev.write,C,G]
      rw[e]
      exact⟨_,O,O,z25.same h (Ext.refl _)⟩
    | true =>
      have f:0<=n/\n<(D.B:Int):=by simpa[Dev.has] using G
      refine qV (Tf O)<|Qq O<|qV (Wb U9 O)<|Q4 O<|Qj zgI O (z1Y h) ?_;rintro _ w3⟨rfl,rfl⟩;refine RI O<|R0 O<|PR<|Qa O (λE=>?_)<|λE=>?_
      ·refine RY O<|PQ func193 O ?_
       have e:D.write n s=(D,1):=by
        have:s.length≠512*D.N:=ω
        simp[Dev.write,C,G,this]
       rw[e];exact⟨_,O,O,z25.same h (Ext.refl _)⟩
      ·have R:s.length=512*D.N:=ω
       obtain⟨a,cap,rfl,ha⟩:=h.cache.rd.shape;have X:=h.PO;refine PS (RK O (QC O (Qf z05 O (qV (Q0 z1o O O X O) (Qq O (qV (To (cs:=[_,_]) XO O zk4 O O) (PX O O (YI (cs:=[_,_]) (zs:=[Value.int .i64 0,Value.string ⟨#[]⟩]) z1o XO O y00 O O O ψ) ?_)))))));rintro _ w4⟨b4,rfl,⟨fD,u,aJ⟩,H⟩;have oe:=h.cache.ext u;refine PX O O (pap z1o XO O ψ O O oe H.rd (by intro c r;simp at r;rcases r with rfl|rfl<;>rfl) ω ω) ?_;rintro Y w5⟨b,M,k,-⟩;have t:oneV Y=true:=by rcases b.shape with⟨rfl,-⟩|⟨g,cap,rfl,-⟩<;>rfl
       have l:=h.ext u
       have jL:∀g,(Value.slice a D.cache.length cap).ownBlock=some g->¬g=p:=λg hg qI=>by
        obtain⟨xs,L,q⟩:=UF l.cache hg;obtain⟨fz,hb,-⟩:=l.PO;rw[qI,hb] at q;cases q
       have qQ:=M.PO l.PO (λhg=>jL p hg O);refine QC O (Qf z05 O (Qc O (S0 z9Q O O t qQ ξ) ?_));rintro w6⟨z,K⟩;have g8:=h.PO.lt
       have V:T9 w6 p m kp Y (D.push n s):=by
        refine⟨z,?_,?_,?_,?_⟩
        ·obtain⟨kv,kK,nC⟩:=l.map;exact⟨kv,K.map (M.map kK λhg=>(l.zhF hg).2.1 O) λe=>l.pm e.symm,nC⟩
        ·have e:wrs (D.push n s).cache=wrs D.cache++[I n,S s]:=by simp[Dev.push,wrs,wr]
         have F:(D.push n s).cache.length=D.cache.length+1:=by simp[Dev.push]
         rw[e,F];refine b.kp K λg hg=>?_;rcases k g hg with d|d
         ·exact(l.zhF d).1
         ·have:=u.size;omega
        ·refine(l.TF.kp M λg hg r=>(l.zhC hg).2.2 r).kp K λg hg=>(l.zhC hg).1
        ·refine⟨h.ok.hB,h.ok.hN,h.ok.due,h.ok.sf,λx q=>?_,h.ok.len,h.ok.reads⟩;simp only[Dev.push,y0x,y0F] at q;rcases q with q|rfl
         ·exact h.ok.cache x q
         ·exact⟨f.1,f.2,R⟩
       refine PR<|QA.qb (e:=[(0,_),(6,_)]) ?_;refine QV O<|Qj zjL O (z6Q V P) ?_;rintro _ w7⟨rfl,Q,A⟩
       have j:Upd (fpD p m kp (.slice a D.cache.length cap)) (fpD p m kp Y) w3 w7:=by
        refine⟨(u.kp.trans (M.PZ λi hi=> .inr (.inr (.inl hi)))).trans ((K.PZ λi hi=> .inl hi).trans (A.PZ λi hi=> .inl hi)),λi hi=>?_⟩;rcases hi with d|d|d|d
        ·exact .inl (.inl d)
        ·exact .inl (.inr (.inl d))
        ·rcases k i d with Z|Z
         ·exact .inl (.inr (.inr (.inl Z)))
         ·have:=u.size;exact .inr ω
        ·exact .inl (.inr (.inr (.inr d)))
       refine PR<|Qa O (λU=>?_)<|λU=>?_
       ·have o:=Q.PO;refine RK O (QC O (Qf Ye O (Qf zef O (qV (QB zcX O zbP O (Q8.cells (n:=3) o (news:=[_,_,_]) O) O) (Qj zj7 O (zcR Q D.TF D.zey D.mask hk Q.TF.rd (by show(D.cache++[(n,s)]).length<2000000000000;simp;omega)) ?_)))));rintro _ w8⟨rfl,W,y⟩;refine qM O<|Qe O<|PQ func193 O ?_
        have e:D.write n s=(((D.push n s).count).zft,8):=by
         have T:D.due=1:=U;simp[Dev.write,C,G,R,T]
        rw[e];exact⟨_,O,O,_,_,W,j.trans (zbN y)⟩
       ·refine PS<|RY O<|PQ func193 O ?_
        have e:D.write n s=((D.push n s).count,0):=by
         have T:¬D.due=1:=U;simp[Dev.write,C,G,R,T]
        rw[e];exact⟨_,O,O,_,_,Q,j⟩
end
section
variable {D:Dev}
def Dev.z98 (D:Dev)(n:Nat):List PU:=(List.range n).map λj:Nat=>D.now (j:Int)
@[simp] theorem imageTo_length (D:Dev) (n:Nat):(D.z98 n).length=n:=by simp[Dev.z98]
theorem zdh {v:Value}{e size n:Nat}(h:Sl w v e size n cs):oneV v=true:=by
 rcases h.shape with⟨rfl,-⟩|⟨g,cap,rfl,-⟩<;>rfl
end
def z14 (b n:Int):Prop:=16<=b/\b<=4096/\1<=n/\n<=8
instance (b n:Int):Decidable (z14 b n):=by unfold z14;infer_instance
def Dev.fresh (B N:Nat):Dev:=⟨0,[],0,0,B,N,λ_=>none,[],false,0,0⟩
def zbt (b n:Int)(w:World):Qx prog 61 [.agg #[I b,I n]] w λv w'=>v=I (if z14 b n then 0 else 1)/\Ext w w':=by
 refine py (e:=[(0,_)]) func61 O ntmps61 O O<|qN O<|PX O O (Sy O O) ?_
 rintro _ w1⟨b1,rfl,C,h,d⟩
 by_cases hg:z14 b n
 ·obtain⟨l,q,r,g4⟩:=hg;refine Qe O<|It<|qN O<|Qf z0E O<|qV (Q0 U3 O O d O)<|RT O<|QW<|Q4 O<|Qf z0E O<|qV (Q0 U3 O O d O)<|RR O<|QW<|R0 O<|Q4 O ?_;refine Qf z0m O<|qV (Q0 U3 O O d O)<|RT O<|QW<|R0 O<|Q4 O<|Qf z0m O<|qV (Q0 U3 O O d O)<|RR O<|QW<|R0 O<|Ri O<|RY O<|PQ func61 O ?_;exact⟨_,O,by rw[if_pos ⟨l,q,r,g4⟩];rfl,h⟩
 ·refine Qe O<|It<|qN O<|Qf z0E O<|qV (Q0 U3 O O d O)<|RT O<|TA (λu=>?_)<|λu=>?_
  ·refine Q4 O<|Sc<|qS<|Sh O<|Q4 O<|Sc<|qS<|Sh O<|Q4 O<|Sc<|qS<|Sh O<|PR<|Qb O ?_;refine RY O<|PQ func61 O ?_;exact⟨_,O,by rw[if_neg hg];rfl,h⟩
  ·refine Q4 O<|Qf z0E O<|qV (Q0 U3 O O d O)<|RR O<|R0 O<|TA (λx=>?_)<|λx=>?_
   ·refine Q4 O<|Sc<|qS<|Sh O<|Q4 O<|Sc<|qS<|Sh O<|PR<|Qb O<|RY O<|PQ func61 O ?_;exact⟨_,O,by rw[if_neg hg];rfl,h⟩
   ·refine Q4 O<|Qf z0m O<|qV (Q0 U3 O O d O)<|RT O<|R0 O<|TA (λB=>?_)<|λB=>?_
    ·refine Q4 O<|Sc<|qS<|Sh O<|PR<|Qb O<|RY O<|PQ func61 O ?_;exact⟨_,O,by rw[if_neg hg];rfl,h⟩
    ·have:8<n:=by unfold z14 at hg;omega
     refine Q4 O<|Qf z0m O<|qV (Q0 U3 O O d O)<|RR O<|SD<|R0 O<|PR<|Qb O<|RY O<|PQ func61 O ?_;exact⟨_,O,by rw[if_neg hg];rfl,h⟩
theorem zgk (B N:Nat)(w:World)(hg:z14 B N):Qx prog 30 [.agg #[I (B:Int),I (N:Int)]] w λv w'=>∃p m,v= .tuple #[ptr p 0,I 0]/\T9 w' p m (.slice none 0 0) (.slice none 0 0) (Dev.fresh B N)/\Ext w w'/\w.heap.size<=p/\w.heap.size<=m:=by
 obtain⟨K,M,Q,g4⟩:=hg
 refine py (e:=[(0,_)]) func30 O ntmps30 O O<|qN O<|PX O O (Sy O O) ?_
 rintro _ w1⟨b1,rfl,T,u,d⟩
 refine Rw O<|It<|qN O<|qV (QB U85 O zci O (Q8.cells (n:=2) d (news:=[_,_]) O) O)<|Qj zlj O (zbt B N _) ?_
 rintro _ w2⟨rfl,l⟩
 rw[if_pos ⟨K,M,Q,g4⟩]
 replace d:=l.PO d
 refine RZ O<|RI O<|PR<|Qa O (λD=>?_)<|λD=>?_
 ·exact absurd D ψ
 ·refine PS<|qN O<|qV (QB U85 O zci O (Q8.cells (n:=2) d (news:=[_,_]) O) O)<|PX O O pmm ?_;rintro _ c⟨m,rfl,Z,C,S⟩;refine qV (To (cs:=[_,_,_,_,_,_,_,_,_,_,_]) zii O zib O O)<|PX O O (Sy O O) ?_;rintro _ q⟨p,rfl,a,r,J⟩;refine Rw O<|PQ func30 O ?_;have Y:=u.size;have U:=l.size;have b:=C.size;have G:XR KI q m []:=⟨⟨#[],0,r.heap S id,O⟩,ξ⟩;refine⟨_,O,p,m,O,⟨J,⟨[],G,λn=>rfl⟩,Sl.nil q _ _,Sl.nil q _ _,?_⟩,((u.trans l).trans C).trans r,ω,ω⟩;exact⟨⟨by show 16<=B;omega,by show B<=4096;omega⟩,⟨by show 1<=N;omega,by show N<=8;omega⟩,(by simp[Dev.fresh]),(λn s h=>by cases h),(λx R=>by cases R),(by simp[Dev.fresh]),(by simp[Dev.fresh])⟩
def over (s:PU)(e:Nat)(d:PU):PU:=s.take e++d++s.drop (e+d.length)
def Dev.zfo (D:Dev)(n e:Int)(d:PU):Prop:=D.has n=true/\0<=e/\e+(d.length:Int)<=((512*D.N:Nat):Int)
instance (D:Dev) (n at':Int) (d:PU):Decidable (D.zfo n at' d):=by unfold Dev.zfo;infer_instance
def zl1 (n:Int)(a:Nat)(d:PU)(x:Int×PU):Int×PU:=if x.1=n then(x.1,over x.2 a d) else x
def zfQ (n:Int)(a:Nat)(d:PU)(l:List (Int×PU))(i:Nat):List (Int×PU):=(l.take i).map (zl1 n a d)++l.drop i
@[simp] theorem corTo_length (n:Int) (a:Nat) (d:PU) (l:List (Int×PU)) (i:Nat):(zfQ n a d l i).length=l.length:=by simp[zfQ];omega
theorem z8d (l:List (Int×PU))(x:Int×PU)(n:Int):XQ (l++[x]) n=if x.1=n then some x.2 else XQ l n:=by
 unfold XQ
 rw[List.reverse_append,List.reverse_singleton,y3r,List.find?_cons]
 by_cases h:x.1=n
 ·simp[h]
 ·have d:(x.1==n)=false:=by simpa using h
  simp[d,h]
/-! ### Bounds -/
def Dev.Small (D:Dev)(k:Nat):Prop:=D.calls<=k/\D.cache.length<=k/\True/\D.TF.length<=17592186044416
def Dev.Small.bd {D:Dev}(h:D.Small k)(d:k<1000000000000):D.Bd:=⟨by have:=h.1;omega,by have:=h.2.1;omega,trivial⟩
/-! ### By footprints -/
def zar (w:World)(p:Nat)(F:Nat->Prop)(D':Dev)(w':World):Prop:=∃d,Xw w' p D' d/\Upd F d w w'
def z25.toA {kp:Value}{D':Dev}(r:∀k,F k↔fpD p m kp ca k)(h:z25 w p m kp ca D' w'):zar w p F D' w':=by
 have e:F=fpD p m kp ca:=funext λk=>propext (r k)
 subst e
 obtain⟨l,d,n,q⟩:=h
 exact⟨_,⟨m,l,d,n,λk=>y0R⟩,q⟩
section
variable {D:Dev}
theorem zbC (h:Xw w p D F):Qx prog 154 [ptr p 0] w λv w'=>v= .bool D.down/\w'=w:=by
 obtain⟨m,kp,ca,d,e⟩:=h;exact zc0 d
theorem zay (h:Xw w p D F):Qx prog 95 [ptr p 0] w λv w'=>v=I ((512*D.N:Nat):Int)/\w'=w:=by
 obtain⟨m,kp,ca,d,e⟩:=h;exact z1Y d
theorem XU (h:Xw w p D F):Qx prog 138 [ptr p 0] w λv w'=>v=I (D.B:Int)/\w'=w:=by
 obtain⟨m,kp,ca,d,e⟩:=h;exact z7G d
theorem z8l (n:Int)(s:PU)(h:Xw w p D F)(d:D.Small k)(u:k<1000000000000):
  Qx prog 193 [ptr p 0,I n,S s] w λv w'=>v=I (D.write n s).2/\zar w p F (D.write n s).1 w':=by
 obtain⟨m,kp,ca,l,r⟩:=h
 exact(zaF n s l (d.bd u) d.2.2.2).mono λv w' ⟨e,q⟩=>⟨e,q.toA r⟩
theorem zb9 (n:Int)(h:Xw w p D F)(u:D.Small k)(r:k<1000000000000):
  Qx prog 158 [ptr p 0,I n] w λv w'=>v= .tuple #[S (D.read n).2.1,I (D.read n).2.2]/\zar w p F (D.read n).1 w':=by
 obtain⟨m,kp,ca,d,q⟩:=h
 exact(zcL n d (u.bd r)).mono λv w' ⟨e,l⟩=>⟨e,l.toA q⟩
theorem zeQ (B N:Nat)(w:World)(hg:z14 B N):Qx prog 30 [.agg #[I (B:Int),I (N:Int)]] w λv w'=>∃p F,v= .tuple #[ptr p 0,I 0]/\Xw w' p (Dev.fresh B N) F/\Ext w w'/\∀i,F i->w.heap.size<=i:=
 (zgk B N w hg).mono λv w' ⟨p,m,e,h,d,l,n⟩=>⟨p,_,e,⟨m,_,_,h,λk=>y0R⟩,d,λi hi=>by
  rcases hi with h|h|h| h
  ·omega
  ·omega
  ·cases h
  ·cases h⟩
end
def zar.kpF {D':Dev}(h:zar w p F D' w'):Kp F w w':=by
 obtain⟨e,-,d⟩:=h
 exact d.1
def nrm (z b:Int):Int:=(z.tmod b+b).tmod b
def UW (z b:Int)(d:0<b): -b<z.tmod b/\z.tmod b<b:=by
 have e:=y35 z d
 refine⟨?_,e⟩
 have h:=y35 (-z) d
 rw[Int.neg_tmod] at h
 omega
def WQ (z b:Int)(d:0<b):0<=nrm z b/\nrm z b<b:=by
 obtain⟨e,h⟩:=UW z b d
 unfold nrm
 exact⟨Int.tmod_nonneg _ ω,y35 _ d⟩
theorem zdp {D:Dev}{n:Int}(d:D.down=false)(l:D.due=0)(q:0<=n/\n<(D.B:Int))(h:s.length=512*D.N):D.write n s=((D.push n s).count,0):=by
 have e:D.has n=true:=by simp[Dev.has];omega
 unfold Dev.write
 rw[if_neg (by simp[d]),if_neg (by simp[e,h]),if_neg ω]
def grow:Nat->PU->Nat->PU
 |0,s,_=>s
 |f+1,s,n=>if s.length<n then grow f (s++s) n else s
def fill (s:PU)(n:Nat):PU:=(grow (n+1) (if s=[] then [0] else s) n).take n
section
variable {κ:Type}[DecidableEq κ]{K:κ->Value}{e:Env}{d:Option Nat}{pos:String}{g:Option (Nat×Bool)}{x:Operand}{z:Value}{size:Nat}{k:κ}
theorem zm8 (ht:P.underlying t=some (.map kt el))(h:Ky P kt K)(C:TI P el z size bytes)(v:look e x=some (.map none))(B:look e y=some (K k)):
  Y P e ⟨d,.lookup t x y false,ty,pos,aft,g⟩ z w w:=fun ρ n=>by
 have q:=C.zero (w:=w)
 have D:=λb=>h.same.choose_spec.2.2 w b 9999 k
 have r:=h.same.choose_spec.1
 simp[execOp,n _ _ v,n _ _ B,Instr.lookup,run_underlying ht,D,q,Instr.findKey,run_underlying r,Instr.findNow]
end
structure QM (w:World)(ks mp:Value)(l:List Int):Prop where
 sl:Sl w ks 3 1 l.length (l.map I)
 mp:(mp= .map none/\l=[])\/∃b,mp= .map (some b)/\TR KI w b (l.map λk=>(k,I 1))
 n:l.length<=8192
def Fq (ks mp:Value)(b:Nat):Prop:=ks.ownBlock=some b\/mp= .map (some b)
section
variable {l:List Int}{S:Nat->Prop}{k:Int}
theorem QM.kp (h:QM w ks mp l)(q:Kp S w w')(r:∀b,Fq ks mp b->¬S b):QM w' ks mp l:=
 ⟨h.sl.kp q λg e=>r g (.inl e),by
  rcases h.mp with e|⟨b,e,v⟩
  ·exact .inl e
  ·exact .inr ⟨b,e,v.kp q (r b (.inr e))⟩,h.n⟩
def QM.lt (h:QM w ks mp l)(q:Fq ks mp b):b<w.heap.size:=by
 rcases q with e| e
 ·exact h.sl.lt e
 ·rcases h.mp with⟨n,-⟩|⟨v,n,r⟩
  ·rw[n] at e;cases e
  ·rw[n] at e;cases e;exact r.lt
def QM.ne (h:QM w ks mp l)(B:ks.ownBlock=some b):mp≠ .map (some b):=λe=>by
 obtain⟨r,v⟩:=h.sl.typed B
 rcases h.mp with⟨n,-⟩|⟨D,n,C⟩
 ·rw[n] at e;cases e
 ·rw[n] at e;cases e;obtain⟨⟨G,cl,q,-⟩,-⟩:=C;rw[v] at q;cases q
theorem QM.nd (h:QM w ks mp l):l.Nodup:=by
 rcases h.mp with⟨-,e⟩|⟨q,r,n⟩
 ·rw[e];exact y1K
 ·have:=n.nd;rw[y1j] at this;have e:((λp:Int×Value=>p.1) ∘ λk:Int=>(k,I 1))=id:=rfl;rw[e,y2G] at this;exact this
theorem z6L (l:List Int)(k:Int):Su (l.map λk=>(k,I 1)) k=if k∈l then some (I 1) else none:=by
 induction l with
 |nil=>rfl
 | cons a l n =>
   show(if k=a then some (I 1) else Su (l.map λk=>(k,I 1)) k)=_;rw[n];by_cases h:k=a
   ·simp[h]
   ·simp[h]
theorem zbR (l:List Int)(k:Int):delL (l.map λk=>(k,I 1)) k=(l.erase k).map λk=>(k,I 1):=by
 induction l with
 |nil=>rfl
 | cons a l n =>
   show(if k=a then l.map (λk=>(k,I 1)) else(a,I 1)::delL (l.map λk=>(k,I 1)) k)=_;rw[n,List.erase_cons];by_cases h:k=a
   ·subst h;simp
   ·rw[if_neg h,if_neg (by simpa using λe=>h e.symm)];rfl
theorem yqk {e:Env}{d:Option Nat}{pos:String}{g:Option (Nat×Bool)}{x:Operand}(ht:P.underlying t=some (.map kt el))(n:P.underlying kt=some (.int .i64))(B:TI P el (I 0) 1 bytes)(r:look e x=some mp)(v:look e y=some (I k))(D:QM w ks mp l):
  Y P e ⟨d,.lookup t x y false,ty,pos,aft,g⟩ (I (if k∈l then 1 else 0)) w w:=by
 rcases D.mp with⟨rfl,rfl⟩|⟨b,rfl,C⟩
 ·rw[if_neg ξ];exact zm8 (k:=k) (K:=KI) ht (Tk n) B r v
 ·have h:=ylk (k:=k) (K:=KI) (d:=d) (ty:=ty) (pos:=pos) (aft:=aft) (g:=g) ht (Tk n) B r v C.l;rw[z6L] at h;by_cases q:k∈l
  ·rw[if_pos q] at h⊢;exact h
  ·rw[if_neg q] at h⊢;exact h
def zdG (hB:Q8 w c cs 190)(n:cs[o+1]? =some mp)(q:QM w ks mp l):Qx prog 178 [ptr c o,I k] w λv w'=>v= .bool (decide (k∈l))/\w'=w:=by
 refine py (e:=[(0,_),(1,_)]) func178 O ntmps178 O O<|qN O<|RZ O<|QC O<|Qf ZL O<|qV (Q0 XC O O hB n)<|Q4 O<|qV (yqk (k:=k) XC U3 R8 O O q)<|RR O<|Qe O<|PQ func178 O (⟨_,O,?_,O⟩)
 by_cases h:k∈l
 ·simp[h,Rn]
 ·simp[h,Rn]
theorem z83 {J:Value}(x:Int)(r:Rd w J 1 l.length (l.map I))(U:l.length<=4294967296):
  Qx prog 206 [J,I x] w λv w'=>w'=w/\((x∉l/\v=I (-1))\/∃i:Nat,v=I (i:Int)/\l[i]? =some x/\x∉l.take i):=by
 obtain⟨a,cap,rfl,-⟩:=r.shape
 refine py (e:=[(0,_),(1,_)]) func206 O ntmps206 O O<|RY O<|QV O<|SS SF O<|Q4 O<|PR<|PT<|SN (α:=Nat) (0) (λi=>[(0,.slice a l.length cap),(1,I x),(7,I (l.length:Int)),(8,I (i:Int))]) (λi w'=>w'=w/\i<=l.length/\x∉l.take i) (λi=>l.length-i) ?hI ?hround
 case hI=>exact⟨O,y03 _,ξ⟩
 case hround=>
  rintro i f⟨rfl,hi,n⟩ R
  try dsimp only
  refine qN O<|RT O<|PR<|It<|Qa O (λN=>?_)<|λN=>?_
  ·have M:i<l.length:=ω
   obtain⟨s,C⟩:∃s,l[i]? =some s:=⟨_,y07 M⟩
   obtain⟨Y,lo,Z,Q⟩:∃b o q,Value.slice a l.length cap= .slice (some ⟨b,o,none⟩) l.length q:=by
    rcases r.2 with⟨c,D,T⟩|⟨b,off,q,D,-⟩
    ·omega
    ·exact⟨b,off,q,D⟩
   cases Q;refine PS (RU (Qz O (Sb O (Qq O (Q4 O (qV (Rk SF R8 O O ω) (qV (QH U3 O O (Rg r (show(l.map I)[i]? =some (I s) by rw[y0m,C];rfl))) ?_)))))));refine Ss O<|PR<|Qa O (λB=>?_)<|λB=>?_
   ·refine Qz O<|Qe O<|PQ func206 O ?_;exact⟨_,O,O,.inr ⟨i,O,by rw[B];exact C,n⟩⟩
   ·refine PS (PN (PY O (Ra O (Q4 O (PR ((R (i+1) _ ⟨O,M,λG=>?_⟩ ω).qb))))));rw[R4 C,y0x,y0F] at G;rcases G with h| h
    ·exact n h
    ·exact B h
  ·have:i=l.length:=ω
   subst this;rw[y0L] at n;refine Q7 O<|RY O<|PQ func206 O ?_;exact⟨_,O,O,.inl ⟨n,O⟩⟩
theorem zd2 {x:Int}(h:l[i]? =some x)(n:x∉l.take i):l.take i++l.drop (i+1)=l.erase x:=by
 obtain⟨hi,e⟩:=y0l.1 h
 conv=>rhs;rw[<-y1e i l]
 rw[List.erase_append_right _ n,y2l hi,e,List.erase_cons_head]
theorem z6u {α:Type}{l:List α}{a:α}(h:l[i]? =some a):l.set i a=l:=by
 obtain⟨hi,e⟩:=y0l.1 h
 rw[<-e,List.set_getElem_self]
theorem zat (hB:Q8 w c cs 190)(D:cs[o]? =some ks)(a:cs[o+1]? =some mp)(q:QM w ks mp l)(nc:¬Fq ks mp c):Qx prog 179 [ptr c o,I k] w λv w'=>∃r,v= .tuple #[]/\Q8 w' c (cs.set o r) 190/\QM w' r mp (l.erase k)/\(∀b,Fq r mp b->Fq ks mp b)/\Kp (λb=>b=c\/Fq ks mp b) w w':=by
 have hn:=q.n
 have eG:=q.nd
 refine py (e:=[(0,_),(1,_)]) func179 O ntmps179 O O<|Qz O<|QC O<|Qf Rt O<|qV (Q0 SF O O hB D)<|Q4 O<|Qj zfi O (z83 k q.sl.rd ω) ?_
 rintro _ w⟨rfl,L⟩
 rcases L with⟨F,rfl⟩|⟨i,rfl,hi,wU⟩
 ·refine RZ O<|UL O<|QW<|Ri O<|Rj func179 O (⟨_,O,ks,O,?_,?_,λb y=>y,Kp.refl _ _⟩)
  ·rw[z6u D];exact hB
  ·rw[y1A F];exact q
 ·have G:k∈l:=y0i hi;have p:=(y0l.1 hi).1;refine RZ O (UL O (SD (PR (Qb O (RK O (QC O (Qf Rt O (qV (Q0 SF O O hB D) (Qq O (Ra O (Qj zi9 O (zbS q.sl (λc A=>by obtain⟨z,-,rfl⟩:=y0g.1 A;rfl) p ω) ?_)))))))))));rintro B w2⟨C,J,R⟩
  have s:(l.map I).take i++(l.map I).drop (i+1)=(l.erase k).map I:=by
   rw[<-y1m,<-y21,<-y0f,zd2 hi wU]
  rw[s] at C;have P:(l.erase k).length=l.length-1:=y3B G;rw[<-P] at C;have V:¬ks.ownBlock=some c:=λe=>nc (.inl e);have m:=J.PO hB V;refine QC O (Qf Rt O (Qc O (S0 z8o O O (zdh C) m (by have:=(y0l.1 D).1;omega)) ?_));rintro w3⟨Z,N⟩
  obtain⟨b,rfl,H⟩:∃b,mp= .map (some b)/\TR KI w b (l.map λk=>(k,I 1)):=by
   rcases q.mp with⟨-,e⟩| h
   ·rw[e] at G;cases G
   ·exact h
  have Y:c≠b:=λe=>nc (.inr (by rw[e]));have T:ks.ownBlock≠some b:=λe=>q.ne e O;have A8:o+1<cs.length:=(y0l.1 a).1;have W:=(H.kp J T).kp N (λe=>Y e.symm);have f:(cs.set (o+0) B)[o+1]? =some (Value.map (some b)):=by rw[y0W ω];exact a
  refine PR<|Sv O<|QC O<|Qf ZL O<|qV (Q0 XC O O Z f)<|Q4 O<|zce O (zgP (k:=k) (K:=KI) XC (Tk U3) O O W O) ?_;rintro _ X⟨U,M⟩;rw[zbR] at U;refine PR<|QA.qb (e:=[]) ?_;refine Rj func179 O ?_;have t:Kp (λj=>j=c\/Fq ks (.map (some b)) j) w X:=((J.PZ λj e=> .inr (.inl e)).trans (N.PZ λj e=> .inl e)).trans (M.PZ λj e=> .inr (.inr (by rw[e])));exact⟨_,O,B,O,M.PO Z Y,⟨(C.kp N λg e Q=>nc (.inl (Q▸R g e))).kp M λg e Q=>T (Q▸R g e),.inr ⟨b,rfl,U⟩,ω⟩,λj E=>E.imp (R j) id,t⟩
theorem zbQ (hB:Q8 w c cs 190)(h0:cs[o]? =some ks)(m:cs[o+1]? =some mp)(B:QM w ks mp l)(nc:¬Fq ks mp c)(hk:k∉l)(hl:l.length<=8191):Qx prog 188 [ptr c o,I k] w λv w'=>∃C D,v= .tuple #[]/\Q8 w' c ((cs.set (o+1) D).set o C) 190/\QM w' C D (l++[k])/\(∀b,Fq C D b->Fq ks mp b\/w.heap.size<=b)/\Kp (λb=>b=c\/Fq ks mp b) w w':=by
 have hn:=B.n
 have eG:=B.nd
 have lc:=hB.lt
 have t:o+1<cs.length:=(y0l.1 m).1
 obtain⟨G,rfl,X⟩:∃G,mp= .map G/\((G=none/\l=[])\/∃b,G=some b/\TR KI w b (l.map λk=>(k,I 1))):=by
  rcases B.mp with⟨e,f⟩|⟨b,e,f⟩
  ·exact⟨_,e,.inl ⟨O,f⟩⟩
  ·exact⟨_,e,.inr ⟨b,O,f⟩⟩
 refine py (e:=[(0,_),(1,_)]) func188 O ntmps188 O O<|QV O<|QC O<|Qf ZL O<|qV (Q0 XC O O hB m)<|qV (zk1 XC O O)<|PR<|QT (λq w'=>∃b,q=[(0,ptr c o),(1,I k)]/\Q8 w' c (cs.set (o+1) (.map (some b))) 190/\TR KI w' b (l.map λk=>(k,I 1))/\Sl w' ks 3 1 l.length (l.map I)/\(G=some b\/w.heap.size<=b)/\Kp (λj=>j=c) w w'/\b≠c/\ks.ownBlock≠some b) ?bF<|λbF=>?du
 case bF=>
  rintro q w1⟨b,rfl,Q,U,jU,p,Y,y,F⟩;have oZ:(cs.set (o+1) (Value.map (some b)))[o+1]? =some (.map (some b)):=y1d t;have iy:(cs.set (o+1) (Value.map (some b)))[o]? =some ks:=by rw[y0W ω];exact h0
  have z1:=Y.size;refine Qz O<|QC O<|Qf ZL O<|qV (Q0 XC O O Q oZ)<|Q4 O<|Qc O (zhv (k:=k) (K:=KI) XC (Tk U3) O O O U) ?_;rintro w2⟨i,r⟩;rw[VT _ _ _ (by rw[z6L,if_neg hk])] at i;have R:=r.PO Q (λe=>y e.symm);have da:=jU.kp r (λg e q=>F (q▸e));refine PR (PY O (Qq O (QC O (Qf Rt O (qV (Q0 SF O O R iy) (Q4 O (PX O O (YI (cs:=[_]) (zs:=[Value.int .i64 0]) SF R8 O y00 O O O ψ) ?_)))))));rintro _ w3⟨a0,rfl,⟨MK,J,eS⟩,V⟩;have lb:=i.lt;have z2:=r.size;refine PX O O (pap SF R8 O ψ O O (da.ext J) V.rd (by intro c H;simp at H;subst H;rfl) ω (by simp only[maxLen];omega)) ?_;rintro N w4⟨E,T,A,-⟩;have z3:=J.size;have z4:=T.size;have L:ks.ownBlock≠some c:=λe=>nc (.inl e);have aJ:=T.PO (J.PO R) L;have P:=(i.ext J).kp T F;refine QC O (Qf Rt O (Qc O (S0 z8o O O (zdh E) aJ (by rw[y0A];omega)) ?_));rintro w5⟨aG,a⟩;refine PR<|Rj func188 O ?_
  have s:∀g,N.ownBlock=some g->g≠c:=λg e q=>by
   rcases A g e with h| h
   ·exact L (q▸h)
   ·omega
  have aw:(l++[k]).length=l.length+1:=ξ
  refine⟨_,O,N,.map (some b),O,aG,⟨?_,.inr ⟨b,rfl,?_⟩,ω⟩,λj M=>?_,?_⟩
  ·rw[y0f,aw];exact E.kp a λg e q=>s g e q
  ·rw[y0f];exact P.kp a y
  ·rcases M with M|M
   ·rcases A j M with h| h
    ·exact .inl (.inl h)
    ·exact .inr ω
   ·cases M;rcases p with h| h
    ·exact .inl (.inr (by rw[h]))
    ·exact .inr h
  ·have W:Kp (λj=>j=c\/Fq ks (.map G) j) w w2:=by
    rcases p with h| h
    ·exact(Y.PZ λj e=> .inl e).trans (r.PZ λj e=> .inr (.inr (by rw[h,e])))
    ·exact(Y.PZ λj e=> .inl e).An r (λj e=>ω)
   exact((W.trans J.kp).trans (T.PZ λj e=> .inr (.inl e))).trans (a.PZ λj e=> .inl e)
 case du=>
  rcases X with⟨rfl,rfl⟩|⟨b,rfl,hm⟩
  ·refine Qb O<|Sv O<|PX O O pmm ?_;rintro _ w1⟨b,rfl,p,Z,cU⟩;have U:TR KI w1 b []:=TR.new cU;have Q:=Z.PO hB;refine QC O<|Qf ZL O<|Qc O (S0 z8O O O O Q t) ?_;rintro w2⟨R,r⟩;refine PR ?_;have lb:=U.lt;exact(bF _ _ ⟨b,O,R,U.kp r ω,(B.sl.ext Z).kp r (λg e q=>nc (.inl (q▸e))),.inr ω,Z.kp.trans r,ω,λe=>by have:=B.sl.lt e;omega⟩).qb
  ·refine Us O ?_;exact(bF _ _ ⟨b,O,by rw[z6u m];exact hB,hm,B.sl,.inl O,Kp.refl _ _,λe=>nc (.inr (by rw[e])),λe=>B.ne e O⟩).qb
end
def Arc.li (A:Arc):Nat->List Int
 |0=>A.once
 |1=>A.often
 |2=>A.Qk
 |_=>A.Qh
def Arc.Re (A:Arc):Nat->List Int->Arc
 |0,l=>{A with once:=l}
 |1,l=>{A with often:=l}
 |2,l=>{A with Qk:=l}
 |_,l=>{A with Qh:=l}
theorem Arc.zgM (A:Arc)(d:j<4)(l:List Int)(i:Nat)(hi:i<4):(A.Re j l).li i=if i=j then l else A.li i:=by
 match j,d,i,hi with
 |0,_,0,_|0,_,1,_|0,_,2,_|0,_,3,_|1,_,0,_|1,_,1,_|1,_,2,_|1,_,3,_|2,_,0,_|2,_,1,_|2,_,2,_|2,_,3,_|3,_,0,_|3,_,1,_|3,_,2,_|3,_,3,_=>rfl
def z2l (V:Nat->Value×Value)(j:Nat)(q:Value×Value)(i:Nat):Value×Value:=if i=j then q else V i
def acC (S:Nat)(T:Int)(V:Nat->Value×Value)(p:Nat):List Value:=[I (S:Int),(V 0).1,(V 0).2,(V 1).1,(V 1).2,(V 2).1,(V 2).2,(V 3).1,(V 3).2,I T,.map (some p)]
abbrev FV (V:Nat->Value×Value)(j b:Nat):Prop:=Fq (V j).1 (V j).2 b
structure TY (w:World)(c:Nat)(A:Arc)(V:Nat->Value×Value)(p:Nat):Prop where
 PO:Q8 w c (acC A.size A.target V p) 190
 q:∀j,j<4->QM w (V j).1 (V j).2 (A.li j)
 pins:XR KI w p []
 Wt:∀i j,i<4->j<4->i≠j->∀b,FV V i b->¬FV V j b
 nc:∀j,j<4->¬FV V j c
 np:∀j,j<4->¬FV V j p
 cp:c≠p
def TO (c:Nat)(V:Nat->Value×Value)(p b:Nat):Prop:=b=c\/b=p\/∃j,j<4/\FV V j b
section
variable {S:Nat->Prop}{k:Int}
theorem TY.kp (h:TY w c A V p)(d:Kp S w w')(e:∀b,TO c V p b->¬S b):TY w' c A V p:=
 ⟨d.PO h.PO (e _ (.inl O)),λj l=>(h.q j l).kp d λb n=>e b (.inr (.inr ⟨j,l,n⟩)),d.map h.pins (e _ (.inr (.inl O))),h.Wt,h.nc,h.np,h.cp⟩
theorem TY.ext (h:TY w c A V p)(d:Ext w w'):TY w' c A V p:=h.kp (S:=λ_=>False) d λ_ _=>id
theorem TY.lt (h:TY w c A V p)(d:TO c V p b):b<w.heap.size:=by
 rcases d with e|e|⟨j,l,d⟩
 ·rw[e];exact h.PO.lt
 ·rw[e];exact h.pins.lt
 ·exact(h.q j l).lt d
structure XE (w:World)(c:Nat)(V:Nat->Value×Value)(p:Nat)(w':World)(A':Arc)(V':Nat->Value×Value):Prop where
 m:TY w' c A' V' p
 fp:∀b,TO c V' p b->TO c V p b\/w.heap.size<=b
 k:Kp (TO c V p) w w'
theorem XE.trans (h:XE w c V p w' A' V')(d:XE w' c V' p w2 A2 V2):XE w c V p w2 A2 V2:=
 ⟨d.m,λb l=>by
  rcases d.fp b l with e| e
  ·exact h.fp b e
  ·exact .inr (by have:=h.k.size;omega),h.k.An d.k λb l=>(h.fp b l).symm⟩
theorem TY.r (h:TY w c A V p)(d:Ext w w'):XE w c V p w' A V:=⟨h.ext d,λb e=> .inl e,d.kp⟩
theorem TY.upd (u:j<4)(h:TY w c A V p){l:List Int}(hB:Q8 w' c (acC A.size A.target (z2l V j (ks,mp)) p) 190)(M:(A.Re j l).size=A.size/\(A.Re j l).target=A.target)(T:QM w' ks mp l)(D:∀b,Fq ks mp b->FV V j b\/w.heap.size<=b)(I:Kp (λb=>b=c\/FV V j b) w w'):XE w c V p w' (A.Re j l) (z2l V j (ks,mp)):=by
 have J:∀{b:Nat},TO c V p b->b<w.heap.size:=h.lt
 have N:∀i,i<4->i≠j->∀b,FV V i b->¬(b=c\/FV V j b):=λi hi R b d e=>by
  rcases e with e| e
  ·exact h.nc i hi (e▸d)
  ·exact h.Wt i j hi u R b d e
 have x:∀i,i≠j->z2l V j (ks,mp) i=V i:=λi e=>if_neg e
 have C:z2l V j (ks,mp) j=(ks,mp):=if_pos O
 refine⟨⟨by rw[M.1,M.2];exact hB,λi hi=>?_,I.map h.pins (λe=>?_),λi B hi G K b d r=>?_,λi hi d=>?_,λi hi d=>?_,h.cp⟩,λb d=>?_,I.PZ λb d=>?_⟩
 ·rw[Arc.zgM A u l i hi];by_cases e:i=j
  ·rw[if_pos e,e,C];exact T
  ·rw[if_neg e,x i e];exact(h.q i hi).kp I λb d=>N i hi e b d
 ·rcases e with e| e
  ·exact h.cp e.symm
  ·exact h.np j u e
 ·by_cases e:i=j
  ·have v:B≠j:=λv=>K (e.trans v.symm);unfold FV at d r;rw[e,C] at d;rw[x B v] at r;rcases D b d with n|n
   ·exact h.Wt j B u G (λQ=>v Q.symm) b n r
   ·have:=J (.inr (.inr ⟨B,G,r⟩));omega
  ·unfold FV at d r;rw[x i e] at d;by_cases v:B=j
   ·rw[v,C] at r;rcases D b r with n|n
    ·exact h.Wt i j hi u e b d n
    ·have:=J (.inr (.inr ⟨i,hi,d⟩));omega
   ·rw[x B v] at r;exact h.Wt i B hi G K b d r
 ·by_cases e:i=j
  ·unfold FV at d;rw[e,C] at d;rcases D c d with n|n
   ·exact h.nc j u n
   ·have:=h.PO.lt;omega
  ·unfold FV at d;rw[x i e] at d;exact h.nc i hi d
 ·by_cases e:i=j
  ·unfold FV at d;rw[e,C] at d;rcases D p d with n|n
   ·exact h.np j u n
   ·have:=h.pins.lt;omega
  ·unfold FV at d;rw[x i e] at d;exact h.np i hi d
 ·rcases d with e|e|⟨i,hi,d⟩
  ·exact .inl (.inl e)
  ·exact .inl (.inr (.inl e))
  ·by_cases e:i=j
   ·unfold FV at d;rw[e,C] at d;rcases D b d with n|n
    ·exact .inl (.inr (.inr ⟨j,u,n⟩))
    ·exact .inr n
   ·unfold FV at d;rw[x i e] at d;exact .inl (.inr (.inr ⟨i,hi,d⟩))
 ·rcases d with e| e
  ·exact .inl e
  ·exact .inr (.inr ⟨j,u,e⟩)
def Yf (S:Nat)(T:Int)(V:Nat->Value×Value)(p:Nat)(d:j<4):(acC S T V p)[1+2*j]? =some (V j).1/\(acC S T V p)[1+2*j+1]? =some (V j).2:=by
 match j,d with
 |0,_|1,_|2,_|3,_=>exact⟨O,O⟩
theorem zdL (S:Nat)(T:Int)(V:Nat->Value×Value)(p:Nat)(d:j<4)(ks mp:Value):((acC S T V p).set (1+2*j+1) mp).set (1+2*j) ks=acC S T (z2l V j (ks,mp)) p:=by
 match j,d with
 |0,_|1,_|2,_|3,_=>rfl
theorem zcs (S:Nat)(T:Int)(V:Nat->Value×Value)(p:Nat)(d:j<4)(ks:Value):(acC S T V p).set (1+2*j) ks=acC S T (z2l V j (ks,(V j).2)) p:=by
 match j,d with
 |0,_|1,_|2,_|3,_=>rfl
def z1M (A:Arc)(d:j<4)(l:List Int):(A.Re j l).size=A.size/\(A.Re j l).target=A.target:=by
 match j,d with
 |0,_|1,_|2,_|3,_=>exact⟨O,O⟩
def WU (h:TY w c A V p)(d:j<4):Qx prog 178 [ptr c (1+2*j),I k] w λv w'=>v= .bool (decide (k∈A.li j))/\w'=w:=
 zdG h.PO (Yf _ _ _ _ d).2 (h.q j d)
theorem Rv (h:TY w c A V p)(d:j<4):Qx prog 179 [ptr c (1+2*j),I k] w λv w'=>v= .tuple #[]/\∃V',XE w c V p w' (A.Re j ((A.li j).erase k)) V':=by
 refine(zat h.PO (Yf _ _ _ _ d).1 (Yf _ _ _ _ d).2 (h.q j d) (h.nc j d) (k:=k)).mono λv w' u=>?_
 obtain⟨x,rfl,hB,r,l,n⟩:=u
 rw[zcs _ _ _ _ d] at hB
 exact⟨O,_,h.upd d hB (z1M A d _) r (λb e=> .inl (l b e)) n⟩
def S8 (h:TY w c A V p)(d:j<4)(e:k∉A.li j)(n:(A.li j).length<=8191):Qx prog 188 [ptr c (1+2*j),I k] w λv w'=>v= .tuple #[]/\∃V',XE w c V p w' (A.Re j (A.li j++[k])) V':=by
 refine(zbQ h.PO (Yf _ _ _ _ d).1 (Yf _ _ _ _ d).2 (h.q j d) (h.nc j d) e n).mono λv w' u=>?_
 obtain⟨x,B,rfl,hB,r,l,e⟩:=u
 rw[zdL _ _ _ _ d] at hB
 exact⟨O,_,h.upd d hB (z1M A d _) r l e⟩
def z7v (n:Nat):Arc:=⟨n,[],[],[],[],0⟩
def ze1 {n:Nat}(h:1<=n):(z7v n).Ok:=⟨h,y1K,y03 _,y03 _,y03 _,⟨Int.le_refl _,by show(0:Int)<=(n:Int);omega⟩⟩
theorem zcA (n:Nat)(G:1<=n)(J:n<=4096)(w:World):Qx prog 62 [I (n:Int)] w λv w'=>∃c V p,v= .tuple #[ptr c 0,I 0]/\TY w' c (z7v n) V p/\(∀b,TO c V p b->w.heap.size<=b)/\Ext w w':=by
 refine py (e:=[(0,_)]) func62 O ntmps62 O O<|qN O<|Rw O<|QV O<|RT O<|QW<|Qq O<|RR O<|QW<|R0 O<|Ri O<|Qz O<|PX O O pmm ?_
 rintro _ w1⟨p,rfl,M,r,C⟩
 refine qV (To (cs:=[_,_,_,_,_,_,_,_,_,_,_]) ziT O zkI O O)<|PX O O (Sy O (cs:=acC n 0 (λ_=>(.slice none 0 0,.map none)) p) O) ?_
 rintro _ w2⟨c,rfl,K,u,B⟩
 refine Rw O<|PQ func62 O ?_
 have x:TR KI w1 p []:=TR.new C
 have N:=x.lt
 have q:∀b,¬Fq (.slice none 0 0) (.map none) b:=λb e=>by rcases e with e|e<;>cases e
 refine⟨_,O,c,_,p,O,⟨B,λj d=>⟨?_,?_,?_⟩,u.map x.l,λi j hi d D b h=>absurd h (q b),λj d=>q c,λj d=>q p,ω⟩,λb h=>?_,r.trans u⟩
 ·have e:(z7v n).li j=[]:=by match j,d with|0,_|1,_|2,_|3,_=>rfl
  rw[e];exact Sl.nil _ _ _
 ·left
  refine⟨O,?_⟩
  match j,d with|0,_|1,_|2,_|3,_=>rfl
 ·have e:(z7v n).li j=[]:=by match j,d with|0,_|1,_|2,_|3,_=>rfl
  rw[e];exact y03 _
 ·rcases h with e|e|⟨j,d,h⟩
  ·have:=r.size;omega
  ·omega
  ·exact absurd h (q b)
end
section
variable {k:Int}
theorem TY.cells (h:TY w c A V p):Q8 w c [I (A.size:Int),(V 0).1,(V 0).2,(V 1).1,(V 1).2,(V 2).1,(V 2).2,(V 3).1,(V 3).2,I A.target,.map (some p)] 190:=h.PO
theorem z3N (h:TY w c A V p):Qx prog 177 [ptr c 0,I k] w λv w'=>v= .bool (decide (k∈A.once\/k∈A.often))/\w'=w:=by
 have n:=WU h (j:=0) (k:=k) ψ
 have q:=WU h (j:=1) (k:=k) ψ
 rw[show A.li 0=A.once from rfl] at n
 rw[show A.li 1=A.often from rfl] at q
 refine py (e:=[(0,_),(1,_)]) func177 O ntmps177 O O<|qN O<|RZ O<|qV (z6v zbm O O)<|Qq O<|QC O<|Qf RS O<|Q4 O<|Qj YP O n ?_
 rintro _ w⟨rfl,rfl⟩
 by_cases d:k∈A.once
 ·rw[decide_eq_true d];refine Q4 O<|Sc<|Sc<|qS<|Sh O<|Sh O<|Qe O<|PQ func177 O ?_;exact⟨_,O,by rw[decide_eq_true (Or.inl d)];rfl,rfl⟩
 ·rw[decide_eq_false d];refine Qq O<|QC O<|Qf SC O<|Q4 O<|Qj YP O q ?_;rintro _ w⟨rfl,rfl⟩;refine R0 O<|Sh O<|Qe O<|PQ func177 O (⟨_,O,?_,O⟩);by_cases l:k∈A.often
  ·simp[d,l,Rn]
  ·simp[d,l,Rn]
def Z0:List Int->Value
 |[]=> .tuple #[I 0,.bool false]
 |a::_=> .tuple #[I a,.bool true]
theorem WR (h:TY w c A V p)(M:j<4):Qx prog 189 [ptr c 0,ptr c (1+2*j)] w λv w'=>v=Z0 (A.li j)/\w'=w:=by
 have hB:=h.cells
 have hg:=(Yf A.size A.target V p M).1
 have u:=h.q j M
 obtain⟨B,C,G,D⟩:∃a c,(V j).1= .slice a (A.li j).length c/\(a=none->(A.li j).length=0):=u.sl.rd.shape
 rw[G] at hg
 have d:=u.sl.rd
 have T:=u.n
 rw[G] at d
 refine py (e:=[(0,_),(1,_)]) func189 O ntmps189 O O<|qN O<|Rw O<|QV O<|QC O<|Qf Rt O<|qV (Q0 SF O O h.PO hg)<|SS SF O<|Q4 O<|PR<|PT ?_
 cases N:A.li j with
 | nil =>
   rw[N] at d;refine SN (α:=Unit) () (λ_=>[(0,ptr c 0),(12,.slice B 0 C),(13,I 0),(14,I 0)]) (λ_ w'=>w'=w) (λ_=>0) ?hI ?hround
   case hI=>rfl
   case hround=>
    rintro i w2 rfl U
    try dsimp only
    refine qN O<|RT O<|QW<|PR<|It<|PW O<|Q7 O<|qN O<|RZ O<|Rw O<|PQ func189 O ?_
    exact⟨_,O,O,O⟩
 | cons x r =>
   rw[N] at d D T
   obtain⟨Y,rfl⟩:∃b,B=some b:=by
    cases B with
    |none=>have:=D O;simp at this
    |some b=>exact⟨b,O⟩
   obtain⟨Z,lo,g,Q⟩:∃b o l,Value.slice (some Y) (x::r).length C= .slice (some ⟨b,o,none⟩) (x::r).length l:=by
    rcases d.2 with⟨c,J,R⟩|⟨b,off,l,J,-⟩
    ·simp at R
    ·exact⟨b,off,l,J⟩
   cases Q;have f:0<(x::r).length:=ξ
   refine SN (α:=Unit) () (λ_=>[(0,ptr c 0),(12,.slice (some ⟨Z,lo,none⟩) (x::r).length C),(13,I ((x::r).length:Int)),(14,I ((0:Nat):Int))]) (λ_ w'=>w'=w) (λ_=>0) ?hI ?hround
   case hI=>rfl
   case hround=>
    rintro i w2 rfl U
    try dsimp only
    refine qN O (RT O (SD (PR (It (Qb O (PS (RU (qN O (qV (Rk SF R8 O O ω) (qV (QH U3 O O (Rg d (i:=0) (show((x::r).map I)[0]? =some (I x) from rfl))) (RZ O (QC O (Qf z1J O ?_)))))))))))));refine qV (Q0 XC O O hB O)<|Q4 O<|qV (ylk (k:=x) (K:=KI) XC (Tk U3) R8 O O h.pins)<|Ss O<|SD<|PR<|Qb O<|Qz O<|Rw O<|PQ func189 O ?_;exact⟨_,O,O,O⟩
theorem z3Y (h:TY w c A V p)(n:A.Ok)(x:A.size<=1000):Qx prog 190 [ptr c 0] w λv w'=>v= .bool (decide (A.once.length+A.often.length=A.size))/\Ext w w':=by
 have hB:=h.cells
 have B:=n.held
 obtain⟨r,c0,d,-⟩:∃a c,(V 0).1= .slice a A.once.length c/\_:=(h.q 0 ψ).sl.rd.shape
 obtain⟨u,c1,l,-⟩:∃a c,(V 1).1= .slice a A.often.length c/\_:=(h.q 1 ψ).sl.rd.shape
 rw[d,l] at hB
 have hg:=Ext.Qm w
 refine py (e:=[(0,_)]) func190 O ntmps190 O O<|RY O<|It<|Sq (λw'=>Ext w w') O<|Ql 0 O O hg<|PV 1 O (Rs O) hg<|PV 2 O (QE RS O) hg<|PV 3 O (QE Rt O) hg<|qT 4 O (λ_ h=>Q0 SF O O (h.PO hB) O) hg<|PV 5 O (TM SF O) hg<|Ql 6 O O hg<|PV 7 O (Rs O) hg<|PV 8 O (QE SC O) hg<|PV 9 O (QE Rt O) hg ?_
 refine qT 10 O (λ_ h=>Q0 SF O O (h.PO hB) O) hg<|PV 11 O (TM SF O) hg<|PV 12 O (W7 O O ω) hg<|Ql 13 O O hg<|PV 14 O (Rs O) hg<|PV 15 O (QE TD O) hg<|qT 16 O (λ_ h=>Q0 U3 O O (h.PO hB) O) hg<|PV 17 O (yeq O O) hg<|PV 18 O (SG O) hg<|qE<|PQ func190 O (⟨_,O,?_,hg⟩)
 show Value.bool _=Value.bool _
 congr 1
 exact decide_eq_decide.2 ω
end
end Go.Proofs.YtbihggbffaigjaaGreatDoor
