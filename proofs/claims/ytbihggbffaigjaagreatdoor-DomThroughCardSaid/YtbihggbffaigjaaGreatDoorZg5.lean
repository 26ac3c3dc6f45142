/- Merged by program. -/
import Derived.Test.YtbihggbffaigjaaGreatDoorZg4
set_option linter.all false
set_option maxRecDepth 1000000
set_option maxHeartbeats 16000000
namespace Go.Proofs.YtbihggbffaigjaaGreatDoor
open Go Go.RowKit Go.Proofs.Tryz
variable {A A' A2:Arc}{E:List (Nat×Nat)}{F X:Nat->Prop}{H L W:List Bool}{P:Program}{V V' V2:Nat->Value×Value}{a b b5 bytes c cap fb gb gi i j k m o p pb z:Nat}{aft:Array Edge}{ca ks mp:Value}{cs:List Value}{el kt t t' ty:TypeId}{f:Fm}{g:List (List Nat)}{kv:List (Int×Value)}{nm:String}{s:P8}{w w' w2:World}{y:Operand}
theorem z2b (n:Nat):PZ (List.replicate n false)=0:=by
 rw[<-Wz,Qx];simp
theorem z6e (b:List Bool)(k:Nat):PZ (b++List.replicate k false)=PZ b*2^k:=by
 rw[Sh,z2b,y08,y1e]
theorem z3d (b:List Bool)(k:Nat):PZ (List.replicate k false++b)=PZ b:=by
 rw[Sh,z2b];simp
theorem z1F {D:List Bool}(d:m<=D.length+a)(e:m<=D.length+b):(D++List.replicate a false).take m=(D++List.replicate b false).take m:=by
 rw[y2u,y2u,y2O,y2O,y0B ω,y0B ω]
def wdB (H:List Bool)(a:Nat):List Bool:=List.replicate (a%8) false++(H.drop a++List.replicate 64 false).take (64-a%8)
def z8w (H:List Bool)(a:Nat):(wdB H a).length=64:=by
 unfold wdB
 rw[Pe,y08,y0d,Pe,y08]
 omega
theorem z9F {fq n:Nat}(u:8*fq<H.length)(v:n=min 8 ((H.length+7) / 8-fq)):
  PA (((PJ H).drop fq).take n)++List.replicate (64-8*n) false=(H.drop (8*fq)++List.replicate 64 false).take 64:=by
 obtain⟨z,d,q,r⟩:=SM H
 rw[Vp,Uf,d,y1j ω]
 have l:(H.drop (8*fq)).length=H.length-8*fq:=y07
 generalize H.drop (8*fq)=D at l
 rcases y0a n 8 with h| h
 ·have e:8*n=D.length+z:=ω
  rw[y0N (by rw[Pe,y08];omega),y05,y2R];rw[z1F (a:=64) (b:=z+(64-8*n)) ω ω,y0N (by rw[Pe,y08];omega)]
 ·have e:n=8:=ω
  subst e;rw[show 64-8*8=0 from rfl,y2w,y0o];exact z1F ω ω
def z9B (l:W.length=64){d:Nat}(n:d<=64):PZ W%2^(64-d)=PZ (List.replicate d false++W.drop d):=by
 have e:=Sh (W.take d) (W.drop d)
 rw[y1c,y07,l] at e
 have h:=RD (W.drop d)
 rw[y07,l] at h
 rw[z3d,e,y1x,Nat.add_mul_mod_self_right,y0g h]
def z9X (e:a<H.length):List.replicate (a%8) false++((H.drop (8*(a / 8))++List.replicate 64 false).take 64).drop (a%8)=wdB H a:=by
 unfold wdB
 congr 1
 have d:a%8<=(H.drop (8*(a / 8))).length:=by rw[y07];omega
 rw[y1y,y1j d,y0E,show 8*(a / 8)+a%8=a by omega]
theorem zcb {r:Nat}(e:a<H.length)(h:a / 8*8+64=H.length+r):∃q,PZ (wdB H a)=q*2^r:=by
 have d:(H.drop a).length=H.length-a:=y07
 refine⟨PZ (List.replicate (a%8) false++H.drop a),?_⟩
 rw[<-z6e]
 congr 1
 unfold wdB
 rw[y05,z1F (a:=64) (b:=r) ω ω,y0N (by rw[Pe,y08];omega)]
theorem zaa {d:Nat}(l:d<=64):18446744073709551615 / 2^d=2^(64-d)-1:=by
 have n:0<2^d:=y0v d
 have e:2^64=2^d*2^(64-d):=by rw[<-y0M,show d+(64-d)=64 by omega]
 have q:0<2^(64-d):=y0v _
 have h:18446744073709551615=(2^d-1)+2^d*(2^(64-d)-1):=by
  rw[Nat.mul_sub,<-e,y0c];have r:2^d<=2^64:=y0r ψ l;omega
 rw[h,y2t _ _ n,y2q ω,y09]
def z8P {b:List Bool}(h:b.length=64):PZ b<18446744073709551616:=by
 have:=RD b
 rw[h] at this
 exact this
def zgc (l:List Nat)(f:Fm)(d:f.high=12+(PJ (SV f.width l)).length){n:Nat}(h:o+n<=(PJ (hiB f.width 0 0 l)).length):((YZ l f).drop (f.high+o)).take n=((PJ (hiB f.width 0 0 l)).drop o).take n:=by
 unfold YZ
 exact piece (by rw[Pe,show PJ (PF 32 f.n++PF 64 f.u)=PJ (TE f) from rfl,Vr,d]) h
theorem Wb.high {l:List Nat}(d:Wb l f z):f.high=12+(PJ (SV f.width l)).length:=by
 unfold Fm.high
 rw[PY,US,d.n]
theorem Wb.bits {l:List Nat}(d:Wb l f z):f.bits=(hiB f.width 0 0 l).length:=by
 rw[z2i f.width d.nof d.last]
 rw[d.fe]
 show(z+1-1) / _+_=_
 rw[y1g]
 rfl
theorem z7m {u:Value}{l:List Nat}(N:Wb l f z)(R:Src t u (YZ l f))(hI:R.inv X w)(hX:∀k,X k->k<w.heap.size){x b3 B v0:Nat}(p:X x)(o:X b3)(b:X B)(c:B≠x/\B≠b3)(hB:Pm w x (elC f t u) 293)(T:Pm w b3 [ptr x 0] 156)(bh:Pm w B [Pt v0] 39)(ha:a<f.bits):
  PN prog 247 [I (a:Int),ptr b3 0,ptr B 0] w λr w'=>r=I 0/\R.inv X w'/\Kp (λk=>¬X k\/k=B) w w'/\Pm w' B [Pt (PZ (wdB (hiB f.width 0 0 l) a))] 39:=by
 have aB:=N.len
 obtain⟨xF,yC⟩:=N.size_le
 have s:=N.small
 have nY:=Fm.XO s
 have fJ:=s.2.2
 have F:=N.bits
 have yE:=N.high
 have gT:(PJ (hiB f.width 0 0 l)).length=(f.bits+7) / 8:=by rw[PY,F]
 replace hB:Pm w x [I (f.n:Int),Pt f.u,I (f.width:Int),I (f.bits:Int),.iface t u] 293:=hB
 refine py (e:=[(0,_),(1,_),(2,_)]) func247 O ntmps247 O O<|qN O<|Rq O<|qV (zh8 O O ω)<|Ro O<|qV (Pl z2C O O T O)<|PQ O<|Pr SR O<|Pr ZD O<|qV (Pl U3 O O hB O)<|Qj O<|qV (X5 O O ω)<|Ph O<|qV (X5 O O ω) ?_
 refine RR O ?_
 rw[show((f.bits:Int)+7) / 8-((a / 8*8:Nat):Int) / 8=(((f.bits+7) / 8-a / 8:Nat):Int) by omega]
 refine qV (ymi O O) ?_
 rw[show min (8:Int) (((f.bits+7) / 8-a / 8:Nat):Int)=((min 8 ((f.bits+7) / 8-a / 8):Nat):Int) by omega]
 obtain⟨n,V⟩:∃n,n=min 8 ((f.bits+7) / 8-a / 8):=⟨_,O⟩
 rw[<-V]
 have hg:=Ext.Pz w
 refine Pq O<|OY<|RI (λw'=>Kp (λk=>¬X k) w w') O<|qT 0 O (λ_ G=>(Pl z2C O O (G.OZ T (λe=>e o)) O)) hg.kp<|P7 1 O (QL O) hg.kp<|P7 2 O (PU z4k O) hg.kp<|qT 3 O (λ_ G=>(Pl z2E O O (G.OZ hB (λe=>e p)) O)) hg.kp<|qT 4 O (λ_ G=>(Pl z2C O O (G.OZ T (λe=>e o)) O)) hg.kp<|P7 5 O (QL O) hg.kp<|P7 6 O (PU SR O) hg.kp<|Pu 9 O O hg.kp<|P7 10 O (X5 O O ω) hg.kp<|Pu 12 O O hg.kp<|qT 7 O (λ_ G=>PO (news:=fmC f) Zt O TU O ((G.OZ hB (λe=>e p)).cells (n:=4) O) O) hg.kp ?_
 refine P7 13 O (zkz O) hg.kp<|Pu 14 O O hg.kp<|Tl 8 O zf5 O (z6f f s _) ?_
 rintro _ w1⟨rfl,j⟩
 refine⟨(hg.trans j).kp,?_⟩
 have C:=hg.trans j
 refine P7 11 O (Vu O O ω) ((hg.trans j).kp) ?_
 rw[show(f.high:Int)+((a / 8*8:Nat):Int) / 8=((f.high+a / 8:Nat):Int) by omega]
 have kz:=R.ext hI C (λk J=> .inl J)
 have fu:∀k,X k->k<w1.heap.size:=λk J=>by have:=hX k J;have:=C.size;omega
 have uo:a / 8+n<=(PJ (hiB f.width 0 0 l)).length:=by rw[gT];omega
 have uq:f.high+a / 8+n<=(YZ l f).length:=by
  rw[aB];have e:f.size=f.Vw+4*((f.n+63) / 64):=rfl;have e2:f.Vw=f.high+(f.bits+7) / 8:=rfl;omega
 have lI:=zgc l f yE uo
 have nZ:=z9F (H:=hiB f.width 0 0 l) (fq:=a / 8) (n:=n) ω (by rw[<-F];exact V)
 refine qO 15<|Xc (i:=15) O O O (yci R.cr R.mr O O) (R.rd (f.high+a / 8) n kz fu uq) ?_
 rintro _ w2⟨rfl,cH,D⟩
 refine⟨C.kp.trans D,?_⟩
 rw[lI]
 have Z:Kp (λk=>¬X k) w w2:=C.kp.trans D
 have ak:=Z.OZ hB (λe=>e p)
 have dq:=Z.OZ T (λe=>e o)
 have u3:=Z.OZ bh (λe=>e b)
 have Es:(((PJ (hiB f.width 0 0 l)).drop (a / 8)).take n).length=n:=by rw[y0d,y07];omega
 generalize ((PJ (hiB f.width 0 0 l)).drop (a / 8)).take n=pt at nZ Es
 refine Pu 16 O O (C.kp.trans D)<|P7 17 O (S9 O O) (C.kp.trans D)<|P7 18 O (S9 O O) (C.kp.trans D)<|P7 19 O (S6 O) (C.kp.trans D)<|P7 20 O (S6 O) (C.kp.trans D)<|qE<|PM.qb (e:=[(0,_),(1,_),(2,_),(4,_),(5,_),(6,_),(7,_),(8,_)]) ?_
 refine PL O<|Px z8U O (XG pt ω w2) ?_
 rintro _ w3⟨rfl,K⟩
 refine Ph O<|qV (Y8 O O ω)<|RR O ?_
 rw[show(64:Int)-8*(n:Int)=((64-8*n:Nat):Int) by omega]
 refine qV (RN (64-8*n) (2^(64-8*n)) O O ω O) ?_
 have g:=z6e (PA pt) (64-8*n)
 rw[nZ] at g
 have Lz:((hiB f.width 0 0 l).drop (8*(a / 8))++List.replicate 64 false).take 64=((hiB f.width 0 0 l).drop (8*(a / 8))++List.replicate 64 false).take 64:=rfl
 obtain⟨Q,yF⟩:∃Q,Q=((hiB f.width 0 0 l).drop (8*(a / 8))++List.replicate 64 false).take 64:=⟨_,O⟩
 have yG:Q.length=64:=by rw[yF,y0d,Pe,y08];omega
 have A:=z9X (H:=hiB f.width 0 0 l) (a:=a) ω
 rw[<-yF] at g A
 have P:=z9B yG (d:=a%8) ω
 rw[A] at P
 have o4:=z8P yG
 rw[<-g,y0g o4]
 refine Po O (QZ TH O O O (K.OZ u3) ξ) ?_
 rintro y⟨Y,U⟩
 replace Y:Pm y B [Pt (PZ Q)] 39:=Y
 have aF:=U.OZ (K.OZ ak) (λe=>c.1 e.symm)
 have dv:=U.OZ (K.OZ dq) (λe=>c.2 e.symm)
 have mR:=R.own (R.ext cH K (λk J=> .inl J)) U (λk e=>by rw[e];exact b)
 have v:=Ext.Pz y
 refine P4<|OY<|PC [6] (λw'=>Ext y w') Pd O<|qL 0 O (λ_ h=>Pl RW O O (h.OZ Y) O) v<|Qm 1 O O v<|Qm 2 O O v<|PH 3 O (Yf O O ω) v ?_
 rw[show(a:Int)-((a / 8*8:Nat):Int)=((a%8:Nat):Int) by omega]
 refine PH 4 O (Vk (m:=18446744073709551615) (a%8) (2^(a%8)) O O (by show a%8<=64;omega) O) v ?_
 rw[zaa (d:=a%8) ω]
 have LA:2^(64-a%8)<=2^64:=y0r ψ ω
 refine PH 5 O (Va O O ω ω) v ?_
 rw[y0X,P]
 refine TV [6]<|qO 6<|Q0 (i:=6) O O (QZ TH O O O (v.OZ Y) ξ) ?_
 rintro w5⟨M,S⟩
 refine⟨trivial,?_⟩
 replace M:Pm w5 B [Pt (PZ (wdB (hiB f.width 0 0 l) a))] 39:=M
 have aD:=S.OZ (v.OZ aF) (λe=>c.1 e.symm)
 have cQ:=S.OZ (v.OZ dv) (λe=>c.2 e.symm)
 have W:=R.own (R.ext mR v (λk J=> .inl J)) S (λk e=>by rw[e];exact b)
 have L:Kp (λk=>¬X k\/k=B) w w5:=(((Z.Pk λk e=> .inl e).trans K.kp).trans (U.Pk λk e=> .inr e)).trans (v.kp.trans (S.Pk λk e=> .inr e))
 have Eu:=z8P (z8w (hiB f.width 0 0 l) a)
 refine qE<|Qi O<|Qj O<|qV (Pl z2C O O cQ O)<|PQ O<|Pr SR O<|Pr ZD O<|qV (Pl U3 O O aD O)<|RR O<|Pq O<|PM.qb (e:=[(2,_),(4,_),(8,_),(9,_)]) ?_
 refine PL O<|R8 O<|P4<|Pn O (λh0=>?_)<|λh0=>?_
 ·obtain⟨r,hr⟩:∃r,a / 8*8+64=f.bits+r:=⟨a / 8*8+64-f.bits,ω⟩;obtain⟨q,hq⟩:=zcb (H:=hiB f.width 0 0 l) (a:=a) (r:=r) ω ω;rw[show((a / 8*8:Nat):Int)+64-(f.bits:Int)=(r:Int) by omega];have hp:=y0v r
  have yH:PZ (wdB (hiB f.width 0 0 l) a) / 2^r*2^r%18446744073709551616=PZ (wdB (hiB f.width 0 0 l) a):=by
   rw[y0g (y1X (y1A _ _) Eu),hq,Nat.mul_div_cancel _ hp]
  refine Pc O (qV (Pl RW O O M O) (Ph O (qV (Vk r (2^r) O O (by show r<=64;omega) O) ?_)));refine Ph O (qV (RN r (2^r) O O ω O) ?_);rw[yH];refine Po O (QZ TH O O O M ξ) ?_;rintro w6⟨kA,E⟩;refine qM O<|Ph O<|Pq O<|P3 func247 O ?_;exact⟨_,O,O,R.own W E (λk e=>by rw[e];exact b),L.trans (E.Pk λk e=> .inr e),kA⟩
 ·refine P5<|PL O<|Pq O<|P3 func247 O ?_;exact⟨_,O,O,W,L,M⟩
def z6d:∀{W:List Bool} {k p:Nat},S4 W k=some p->∃z r,W=List.replicate z false++true::r
 |true::W,k,p,h=>⟨0,W,rfl⟩
 | false :: W, k, p, h => by
   simp only[S4,y1Y] at h;obtain⟨q,d,-⟩:=h;obtain⟨z,r,e⟩:=z6d d
   exact⟨z+1,r,by rw[e,y12];rfl⟩
 |[],k,p,h=>by simp[S4] at h
theorem z6W (z:Nat)(r:List Bool)(k:Nat):S4 (List.replicate z false++true::r) (k+1)=S4 (List.replicate (z+1) false++r) k:=by
 rw[Vl,Vl,S4,y22]
 congr 1
 funext j;show j+1+z=j+(z+1);omega
theorem zb4 (z:Nat)(r:List Bool):S4 (List.replicate z false++true::r) 0=some z:=by
 rw[Vl,S4];simp
def z7W (z:Nat)(r:List Bool):Qn (PZ (List.replicate z false++true::r))=r.length+1:=by
 rw[YN]
 have:=RD r
 exact z8a ω (by rw[y1L];omega)
theorem z33 (n:Nat):(List.replicate n false).count true=0:=by
 rw[List.count_replicate];rfl
theorem z2Q (H:List Bool)(a:Nat):(wdB H a).count true=((H.drop a).take (64-a%8)).count true:=by
 unfold wdB
 rw[y3j,z33,y09,y2u,y3j,y2O,z33];omega
def zew (h:W.length=64):(PF 64 (PZ W)).count true=W.count true:=by
 have:=z1K W
 rw[h] at this
 rw[this]
def zev {q:Nat}(h:S4 (H.drop a) k=some q)(d:k<(wdB H a).count true):S4 (wdB H a) k=some (a%8+q):=by
 rw[z2Q] at d
 have e:=WY ((H.drop a).take (64-a%8)) ((H.drop a).drop (64-a%8)) k
 rw[y1c,if_pos d,h] at e
 unfold wdB
 rw[Vl,y2u,WY,if_pos d,<-e]
 show some (q+a%8)=_
 rw[y1x]
theorem z9t {q:Nat}(h:S4 (H.drop a) k=some q)(r:(wdB H a).count true<=k):64-a%8<=q/\S4 (H.drop (a / 8*8+64)) (k-(wdB H a).count true)=some (q-(64-a%8)):=by
 rw[z2Q] at r⊢
 have e:=WY ((H.drop a).take (64-a%8)) ((H.drop a).drop (64-a%8)) k
 rw[y1c,if_neg ω,h] at e
 obtain⟨p,d,l⟩:=y1Y.1 e.symm
 have n:=(z0W d).1
 rw[y07] at n
 rw[y0d,y0B ω] at l
 rw[y0E,show a+(64-a%8)=a / 8*8+64 by omega] at d
 exact⟨ω,by rw[d];congr 1;omega⟩
theorem z9v {u:Value}{l:List Nat}(g:Wb l f z)(R:Src t u (YZ l f))(hI:R.inv X w)(hX:∀k,X k->k<w.heap.size){x:Nat}(m:X x)(hB:Pm w x (elC f t u) 293){q:Nat}(aK:k<=1000000)(hq:S4 ((hiB f.width 0 0 l).drop p) k=some q):
  PN prog 239 [ptr x 0,I (p:Int),I (k:Int)] w λr w'=>r= .tuple #[I ((p+q:Nat):Int),I 0]/\R.inv X w'/\Kp (λj=>¬X j) w w':=by
 have bX:=g.bits
 have fJ:=g.small.2.2
 have eg:=hX x m
 refine py (e:=[(0,_),(1,_),(2,_)]) func239 O ntmps239 O O<|qN O<|Pb O O (RP O (cs:=[ptr x 0]) O) ?_
 rintro _ w1⟨b3,rfl,eh,ad,ao⟩
 refine SO O<|Ro O<|Pb O O (S5 (cs:=[_]) TH O) ?_
 rintro _ w2⟨d,rfl,j7,c,Q⟩
 have z1:=ad.size
 have z2:=c.size
 have l3:=ao.lt
 have l8:=Q.lt
 have b:=ad.trans c
 have cH:R.inv (λj=>X j\/j=b3\/j=d) w2:=R.ext hI b (λj B=>by rcases B with e|e|e;exact .inl e;exact .inr ω;exact .inr ω)
 replace Q:Pm w2 d [Pt 0] 39:=Q
 refine qM O<|qV (ymf (first:=[]) (caps:=[.tmp 3,.tmp 8]) O O)<|Pq O<|Qi O<|Pq O<|P6<|RX (α:=Nat×Nat×Nat×Nat) (p,k,q,0) (λy=>[(2,I (y.2.1:Int)),(3,ptr b3 0),(8,ptr d 0),(9,.func (.func 247) #[] #[ptr b3 0,ptr d 0]),(10,I (y.1:Int))]) (λy w'=>R.inv (λj=>X j\/j=b3\/j=d) w'/\Kp (λj=>¬X j) w w'/\w2.heap.size<=w'.heap.size/\Pm w' x (elC f t u) 293/\Pm w' b3 [ptr x 0] 156/\Pm w' d [Pt y.2.2.2] 39/\S4 ((hiB f.width 0 0 l).drop y.1) y.2.1=some y.2.2.1/\y.1+y.2.2.1=p+q/\y.2.1<=1000000) (λy=>f.bits-y.1) ?hI ?hround
 case hI=>exact⟨cH,b.kp,y02 _,b.OZ hB,c.OZ ao,Q,hq,O,aK⟩
 case hround =>
  rintro⟨a,U,F,v4⟩ w4 ⟨mR,ar,IF,K,T,eO,S,DI,yI⟩ ih;dsimp only at mR ar IF K T eO S DI yI;have yJ:=(z0W S).1;rw[y07] at yJ;have BO:a<f.bits:=ω
  have Ev:∀j,(X j\/j=b3\/j=d)->j<w4.heap.size:=λj B=>by
   rcases B with e|e| e
   ·have:=hX j e;omega
   ·omega
   ·omega
  have fw:Pm w4 x [I (f.n:Int),Pt f.u,I (f.width:Int),I (f.bits:Int),.iface t u] 293:=K
  try dsimp only
  refine Qi O<|qV (Pl z2C O O T O)<|PQ O<|Pr SR O<|Pr ZD O<|qV (Pl U3 O O fw O)<|QY O<|P4<|Pn O (λh0=>?_)<|λh0=>?_
  ·refine P5 (R0 (OY (QG O (Rj O O (SE ziJ O O) (z7m g R mR Ev (.inl m) (.inr (.inl O)) (.inr (.inr O)) ⟨ω,ω⟩ K T eO BO) ?_))));rintro _ P⟨rfl,lR,M,N⟩;have z5:=M.size;have dh:Kp (λj=>¬X j) w P:=ar.It M (λj B=>by rcases B with e|e;exact .inr (λh=>e (.inl h));exact .inl ω);have aD:=M.OZ K (λe=>by rcases e with e|e;exact e (.inl m);omega);have cQ:=M.OZ T (λe=>by rcases e with e|e;exact e (.inr (.inl O));omega);have J:=z8w (hiB f.width 0 0 l) a;have yL:=z8P J;have pn:=zew J;have po:=λh=>zev (H:=hiB f.width 0 0 l) S h;have V:=λh=>z9t (H:=hiB f.width 0 0 l) S h
   generalize wdB (hiB f.width 0 0 l) a=W at J yL pn po V N
   have ff:W.count true<=64:=by rw[<-J];exact List.count_le_length
   refine Rq O<|R5 O<|QC O<|OY<|qN O<|qV (Pl RW O O N O)<|Px zk3 O (zdb (PZ W) yL P) ?_;rintro _ P⟨rfl,rfl⟩;rw[pn];refine Ro O<|PB O<|zle O<|P4<|Pn O (λh1=>?_)<|λh1=>?_
   ·obtain⟨dU,dr⟩:=V ω;refine QG O<|RR O<|Pq O<|Pf O<|Ra O ?_;rw[show(U:Int)-((W.count true:Nat):Int)=((U-W.count true:Nat):Int) by omega];refine qV (zh8 O O ω)<|Qj O<|Pq O ?_;rw[show((a / 8*8:Nat):Int)+64=((a / 8*8+64:Nat):Int) by omega];exact(ih (a / 8*8+64,U-W.count true,F-(64-a%8),PZ W) _ ⟨lR,dh,ω,aD,cQ,N,dr,by dsimp only;omega,by dsimp only;omega⟩ (by dsimp only;omega)).qb
   ·have ph:=po ω;refine P5<|R0<|RX (α:=List Bool×Nat) (W,U) (λy=>[(2,I (y.2:Int)),(8,ptr d 0),(10,I (a:Int))]) (λy w'=>R.inv (λj=>X j\/j=b3\/j=d) w'/\Kp (λj=>¬X j) w w'/\Pm w' d [Pt (PZ y.1)] 39/\y.1.length=64/\S4 y.1 y.2=some (a%8+F)/\y.2<=1000000) (λy=>y.2) ?hI ?hround
    case hI=>exact⟨lR,dh,N,J,ph,yI⟩
    case hround=>
     rintro⟨W6,s⟩ w6 ⟨E,Z,G,A,C,Ew⟩ o;dsimp only at E Z G A C Ew;obtain⟨Y,r,rfl⟩:=z6d C;have yM:=z7W Y r;have LC:=YN Y r;have lB:=RD r;have yN:=z8P A;rw[Pe,y08,y01] at A
     try dsimp only
     refine Qi O<|R8 O<|P4<|Pn O (λh2=>?_)<|λh2=>?_
     ·obtain⟨D,rfl⟩:∃D,s=D+1:=⟨s-1,ω⟩;rw[z6W] at C;have v:=Ext.Pz w6;refine P5 (R0 (PC [6] (λw'=>Ext w6 w') Pd O (qL 0 O (λ_ h=>Pl RW O O (h.OZ G) O) v (qL 1 O (λ_ h=>Pl RW O O (h.OZ G) O) v (Ry (i:=2) Pd (Sm (i:=2) O O O (yc zeV O) (zbk _ yN _) ?_))))));rintro _ w7⟨rfl,rfl⟩;refine⟨v,?_⟩;rw[yM];refine PH 3 O (Yf O O ω) v ?_;rw[show(63:Int)-((64-(r.length+1):Nat):Int)=(r.length:Int) by omega];refine PH 4 O (RN r.length (2^r.length) O O ω O) v ?_;have gT:2^r.length<=2^63:=y0r ψ ω;rw[show 1*2^r.length%18446744073709551616=2^r.length by rw[y1h];exact y0g ω];rw[LC];refine PH 5 O (zkX ω lB O O O) v (TV [6] (qO 6 (Q0 (i:=6) O O (QZ TH O O O (v.OZ G) ξ) ?_)));rintro w8⟨L,aH⟩;refine⟨trivial,?_⟩;replace L:Pm w8 d [Pt (PZ r)] 39:=L;refine qE<|An<|Ra O<|RR O<|Pq O ?_;rw[show((D+1:Nat):Int)-1=(D:Int) by omega];refine(o (List.replicate (Y+1) false++r,D) _ ⟨R.own (R.ext E v (λj B=> .inl B)) aH (λj e=> .inr (.inr e)),(Z.trans v.kp).It aH (λj e=> .inl ω),?_,?_,C,by dsimp only;omega⟩ (by dsimp only;omega)).qb
      ·dsimp only;rw[z3d];exact L
      ·dsimp only;rw[Pe,y08];omega
     ·have Ex:s=0:=ω
      subst Ex;rw[zb4] at C;have Ot:Y=a%8+F:=RZ C;refine Pf O (PL O (qV (zh8 O O ω) (qV (Pl RW O O G O) (Px zeV O (zbk _ yN _) ?_))));rintro _ w7⟨rfl,rfl⟩;rw[yM];refine Qj O ?_;rw[show((a / 8*8:Nat):Int)+((64-(r.length+1):Nat):Int)=((p+q:Nat):Int) by omega];refine QS O<|P3 func239 O ?_;exact⟨_,O,O,R.ext E (Ext.refl _) (λj B=> .inl (.inl B)),Z⟩
  ·omega
theorem zbb (l:List Nat)(f:Fm)(e:f.Vw=12+(PJ (SV f.width l)).length+(PJ (hiB f.width 0 0 l)).length)(q:(PJ (SA f.width l)).length=4):((YZ l f).drop f.Vw).take 4=PJ (SA f.width l):=by
 have h:=piece (A:=PJ (PF 32 f.n++PF 64 f.u)++PJ (SV f.width l)++PJ (hiB f.width 0 0 l)) (B:=PJ (SA f.width l)) (C:=[]) (off:=f.Vw) (n:=4) (o:=0) (by rw[Pe,Pe,show PJ (PF 32 f.n++PF 64 f.u)=PJ (TE f) from rfl,Vr,e];omega) ω
 have d:((PJ (SA f.width l)).drop 0).take 4=PJ (SA f.width l):=by rw[y13];exact y0N ω
 rw[y0o] at h
 exact h.trans d
theorem zbi {l:List Nat}{y:Nat}(h:l[0]? =some y)(v:y<4294967296):PZ (PA (PJ (SA k l)))=y / 2^k/\(PJ (SA k l)).length=4:=by
 obtain⟨r,rfl⟩:∃r,l=y::r:=by
  cases l with
  |nil=>simp at h
  |cons a r=>simp at h;subst h;exact⟨r,O⟩
 have n:SA k (y::r)=PF 32 (y / 2^k):=rfl
 obtain⟨z,d,e,u⟩:=SM (PF 32 (y / 2^k))
 rw[bitsN_length] at e
 have q:z=0:=ω
 rw[n,d,q,y2w,y0o,Qx,PY,bitsN_length]
 have:=y0R y (2^k)
 exact⟨y0g ω,O⟩
theorem z2Y {u:Value}{l:List Nat}(d:Wb l f z)(R:Src t u (YZ l f))(hI:R.inv X w)(U:∀k,X k->k<w.heap.size){x:Nat}(G:X x)(hB:Pm w x (elC f t u) 293){v:Nat}(J:l[i]? =some v):
  PN prog 228 [ptr x 0,I (i:Int)] w λr w'=>r= .tuple #[Pt v,I 0]/\R.inv X w'/\Kp (λj=>¬X j) w w':=by
 have df:=(y0m.1 J).1
 have a:=d.len
 have jB:=d.n2
 have pX:=d.n
 have xa:=d.zb
 have mQ:f.width<=30:=by rw[d.fe];exact ZN ω
 have ur:=d.small
 have s:∀j y k Y,l[j]? =some y->l[k]? =some Y->j<=k->y<=Y:=λj y k Y o q yO=>by
  obtain⟨W,a2⟩:=y0m.1 o;obtain⟨b1,b2⟩:=y0m.1 q;rcases y0a j k with h| h
  ·have:=y1z.1 d.nof j k W b1 h
   rwa [a2,b2] at this
  ·have e:j=k:=Nat.le_antisymm yO h;subst e;rw[o] at q;cases q;exact y02 _
 have Iu:v<=z:=s i v _ z J d.last ω
 obtain⟨C,N⟩:∃y,l[0]? =some y:=⟨_,y03 ω⟩
 have L:C<=v:=s 0 C i v N J (y00 _)
 obtain⟨o5,ic⟩:=zbi (k:=f.width) N ω
 have P:=zbb l f (by
  have e:f.Vw=f.high+(f.bits+7) / 8:=rfl
  rw[e,d.high,PY (hiB f.width 0 0 l),d.bits]) ic
 have g:=z2t f.width l 0 0 0 C d.nof N (λy _=>y00 _)
 have F:=z2t f.width l 0 0 i v d.nof J (λy _=>y00 _)
 simp only[y1e,y2z] at g F
 have M:=ZL (hiB f.width 0 0 l) 0 (C / 2^f.width) i g
 rw[y09,F] at M
 have Z:C / 2^f.width<=v / 2^f.width:=y1M L
 have A:f.Vw+4<=(YZ l f).length:=by
  rw[a];have e:f.size=f.Vw+4*((f.n+63) / 64):=rfl;rw[e,pX];omega
 have fR:f.Vw<=40000000:=by have:=d.size_le.1;rw[a] at A;omega
 replace hB:Pm w x [I (f.n:Int),Pt f.u,I (f.width:Int),I (f.bits:Int),.iface t u] 293:=hB
 refine py (e:=[(0,_),(1,_)]) func228 O ntmps228 O O<|qN O<|QS O<|R0<|PL O<|qV (Qz z2C O O)<|Pq O<|P9 O<|PL O<|QY O<|Qb<|PB O<|Ph O<|PQ O ?_
 refine Pr SR O<|Pr Zh O<|qV (Pl U3 O O hB O)<|Uj O<|Qb<|Ql O<|Pq O<|Tj O<|An<|OY ?_
 have hg:=Ext.Pz w
 refine RI (λw'=>Kp (λk=>¬X k) w w') O<|Pu 0 O O hg.kp<|P7 1 O (QL O) hg.kp<|P7 2 O (PU z4k O) hg.kp<|qT 3 O (λ_ h=>Pl z2E O O (h.OZ hB (λe=>e G)) O) hg.kp<|Pu 4 O O hg.kp<|P7 5 O (QL O) hg.kp<|P7 6 O (PU SR O) hg.kp<|Pu 9 O O hg.kp<|P7 10 O (X5 O O ω) hg.kp<|P7 11 O (Y8 O O ω) hg.kp<|qT 7 O (λ_ hS=>PO (news:=fmC f) Zt O TU O ((hS.OZ hB (λe=>e G)).cells (n:=4) O) O) hg.kp<|P7 13 O (zkz O) hg.kp<|Pu 14 O O hg.kp ?_
 refine Tl 8 O zf2 O (z6j f ur _) ?_
 rintro _ w1⟨rfl,Q⟩
 refine⟨(hg.trans Q).kp,?_⟩
 have B:=hg.trans Q
 have kz:=R.ext hI B (λk q=> .inl q)
 have fu:∀k,X k->k<w1.heap.size:=λk q=>by have:=U k q;have:=B.size;omega
 refine P7 12 O (Vu O O ω) ((hg.trans Q).kp) ?_
 rw[show(f.Vw:Int)+4*((i:Int) / 64)=((f.Vw:Nat):Int) by omega]
 refine qO 15<|Xc (i:=15) O O O (yci R.cr R.mr O O) (R.rd f.Vw 4 kz fu A) ?_
 rintro _ w2⟨rfl,cH,D⟩
 refine⟨B.kp.trans D,?_⟩
 rw[P]
 have ez:Kp (λk=>¬X k) w w2:=B.kp.trans D
 refine Pu 16 O O (B.kp.trans D)<|P7 17 O (S9 O O) (B.kp.trans D)<|P7 18 O (S9 O O) (B.kp.trans D)<|P7 19 O (S6 O) (B.kp.trans D)<|P7 20 O (S6 O) (B.kp.trans D)<|qE<|PM.qb (e:=[(0,_),(1,_),(4,_),(5,_),(6,_),(7,_)]) ?_
 refine Qi O<|R5 O<|QC O<|QG O<|Px z8U O (XG (PJ (SA f.width l)) ω w2) ?_
 rintro _ E⟨rfl,c⟩
 rw[o5]
 have S:Kp (λk=>¬X k) w E:=ez.trans c.kp
 have yP:=R.ext cH c (λk q=> .inl q)
 have pf:∀k,X k->k<E.heap.size:=λk q=>by have:=U k q;have:=S.size;omega
 have ao:=S.OZ hB (λe=>e G)
 have LE:C / 2^f.width<=C:=y0R _ _
 have V:v / 2^f.width<=v:=y0R _ _
 have p:v / 2^f.width*2^f.width%18446744073709551616 |||v%2^f.width=v:=by
  have h1:=y1A v (2^f.width);rw[y0g ω,y0J,<-y21 (y15 _ (y0v _))];exact y2n v (2^f.width)
 have io:v%2^f.width<=v:=Nat.mod_le _ _
 generalize LG:v / 2^f.width=K at M Z V p
 generalize C / 2^f.width=yq at M Z LE
 refine qV (Q8 O RW U3 ω)<|Ph O<|qV (yre O O ω) ?_
 rw[show(i:Int)%64=(i:Int) by omega]
 refine Px zjQ O (z9v d R yP pf G ao (k:=i) ω M) ?_
 rintro _ w4⟨rfl,mR,ar⟩
 rw[show yq+(K+i-yq)=K+i by omega]
 have T:=S.trans ar
 have H:∀k,X k->k<w4.heap.size:=λk q=>by have:=U k q;have:=T.size;omega
 have aF:=T.OZ hB (λe=>e G)
 refine Ph O<|Ta O<|QS O<|Qi O<|R5 O<|QC O<|QG O<|Px zjE O (z9T d R mR H G aF J) ?_
 rintro _ w5⟨rfl,lR,ai⟩
 have m:=T.trans ai
 have b:=m.OZ hB (λe=>e G)
 have BL:=d.u
 refine Ph O<|Ta O<|QS O<|PM.qb (e:=[(0,_),(1,_),(4,_),(5,_),(7,_),(8,_),(9,_)]) ?_
 refine Qi O<|R5 O<|QC O<|QG O<|RR O ?_
 rw[show((K+i:Nat):Int)-(i:Int)=(K:Int) by omega]
 refine qV (QH O U3 RW ω)<|Ph O<|PQ O<|Pr SR O<|Pr TN O<|qV (Pl U3 O O b O)<|qV (RN f.width (2^f.width) O O ω O)<|Ph O ?_
 have BP:=y15 (K*2^f.width) (show 0<18446744073709551616 by decide)
 refine qV (z2q O O ω ω) ?_
 rw[p]
 refine Pq O<|OY<|QG O<|QY O<|Qb<|PB O<|Ph O<|PQ O<|Pr SR O<|Pr zdB O<|qV (Pl RW O O b O)<|Uj O<|Qb<|Ql O ?_
 refine P4<|PM.qb (e:=[(4,_),(5,_),(10,_),(93,_)]) ?_
 refine Tj O<|PL O<|QS O<|P3 func228 O ?_
 exact⟨_,O,O,lR,m⟩
def zd9 (a b:P8)(w:World)(d:(a++b).length<=100000000000):PN prog 150 [S (a++b),S a] w λu w'=>u= .bool true/\w'=w:=by
 rw[Pe] at d
 have h:(a++b).length=a.length+b.length:=Pe
 have ht:(a++b).take a.length=a:=y3n
 refine py (e:=[(0,_),(1,_)]) func150 O ntmps150 O O<|qN O<|Rq O<|qV (WW U9 O)<|Ph O<|qV (WW U9 O)<|Uj O<|RO<|PB O<|Ph O<|qV (WW U9 O)<|qV (z57 U9 O O ω)<|Ph O ?_
 rw[ht]
 refine qV (zkH O O)<|RO<|Rr O<|Pq O<|P3 func150 O ?_
 exact⟨_,O,O,O⟩
def zbh (a b:P8)(w:World)(h:(a++b).length<=100000000000):PN prog 202 [S (a++b),S a] w λu w'=>u= .tuple #[S b,.bool true]/\w'=w:=by
 have l:(a++b).length=a.length+b.length:=Pe
 have d:(a++b).drop a.length=b:=y2L
 refine py (e:=[(0,_),(1,_)]) func202 O ntmps202 O O<|qN O<|QS O<|OY<|QG O<|Px zis O (zd9 a b w h) ?_
 rintro _ w⟨rfl,rfl⟩
 refine qV (SD O)<|QC O<|QG O<|qV (WW U9 O)<|qV (z1H U9 O O ω) ?_
 rw[d]
 refine QS O<|P3 func202 O ?_
 exact⟨_,O,O,O⟩
def z7Y (a b:P8)(w:World)(d:(a++b).length<=100000000000):PN prog 170 [S (a++b),S a] w λu w'=>u= .tuple #[S b,.bool true]/\w'=w:=by
 refine py (e:=[(0,_),(1,_)]) func170 O ntmps170 O O<|qN O<|SO O<|Ro O<|PB O<|Px zjD O (zbh a b w d) ?_
 rintro _ w⟨rfl,rfl⟩
 refine Ta O<|QS O<|P3 func170 O ?_
 exact⟨_,O,O,O⟩
theorem Tv {r b6 b7:Nat}(h:Ul w r s a)(B:Pm w b6 [ptr r 0] 289)(J:Pm w b7 [.bool false] 4)(l:b6≠r/\b7≠r/\b6≠b7)(n v:Nat)(Q:n<=64)(R:v<2^n)(Z:v<=134217728)(rest:List Bool)(C:(PA s).drop a=PF n v++rest):
  PN prog 172 [I (n:Int),ptr b6 0,ptr b7 0] w λu w'=>u=I (v:Int)/\Ul w' r s (a+n)/\Pm w' b6 [ptr r 0] 289/\Pm w' b7 [.bool false] 4/\Kp (λk=>k=r\/k=b7) w w':=by
 have Y:a+n<=8*s.length:=by
  have e:=congrArg List.length C;rw[y07,bitsT_length,Pe,bitsN_length] at e;have:=h.2.1;omega
 have T:PZ (((PA s).drop a).take n)=v:=by
  rw[C,y1f ξ,Qx];exact y0g R
 refine py (e:=[(0,_),(1,_),(2,_)]) func172 O ntmps172 O O<|qN O<|Ro O<|qV (Pl UU O O B O)<|Ph O<|Px z4r O (Wf h n Q) ?_
 rintro U w1 M
 have S:U= .tuple #[Pt v,I 0]/\Ul w1 r s (a+n)/\Kp (λk=>k=r) w w1:=by
  rcases M with⟨-,e,d,N⟩|⟨e,-,-⟩
  ·rw[T] at e;exact⟨e,d,N⟩
  ·omega
 obtain⟨rfl,d,q⟩:=S
 have D:=q.OZ J l.2.1
 have G:=q.OZ B l.1
 refine Ph O<|Ta O<|SO O<|Ro O<|qV (Pl U4 O O D O)<|PB O<|R5 O<|Ql O<|PB O<|R8 O<|Qb<|Ql O<|Po O (QZ TZ O O O D ξ) ?_
 rintro w2⟨K,x⟩
 refine qM O<|Ph O<|qV (Va O O ω ω) ?_
 rw[show v&&&268435455=v from(y0X v 28).trans (y0g ω)]
 refine qV (Q8 O RW U3 ω)<|Pq O<|P3 func172 O ?_
 exact⟨_,O,O,⟨x.OZ d.1 (λe=>l.2.1 e.symm),d.2⟩,x.OZ G l.2.2,K,(q.Pk λk e=> .inl e).trans (x.Pk λk e=> .inr e)⟩
def TD {s:List Bool}{n v:Nat}{rest:List Bool}(h:s.drop a=PF n v++rest):s.drop (a+n)=rest:=by
 rw[<-y0E,h,y19 ξ]
theorem zdW (h:PHd):PA (PJ (RS (ZH h)))=PF 32 h.n++(PF 32 h.m++(PF 8 h.p.PE++(PF 8 h.p.chain++(PF 8 h.p.interval++(PF 8 h.p.zeta++(PF 32 h.p.most++(PF 64 h.bits++[]))))))):=by
 obtain⟨z,d,l,q⟩:=SM (RS (ZH h))
 have r:=Vc h
 have e:z=0:=ω
 rw[d,e,y2w,y0o]
 rfl
theorem z9K (h:PHd)(t:h.R1)(w:World):PN prog 141 [S (hdT h)] w λu w'=>u= .tuple #[hdV h,I 0]/\Ext w w':=by
 obtain⟨g1,g2,g3,g4,g5⟩:=id t
 obtain⟨q1,q2,q3⟩:=id g5
 obtain⟨r1,r2,r3,r4⟩:=id q1
 have a0:h.p.PE<=16:=r1
 have a1:h.p.interval<=64:=by
  have:h.p.interval=0\/2<=h.p.interval/\h.p.interval<=64:=r2;omega
 have a2:h.p.zeta<=16:=r4
 have LH:=XM h
 have M:=zdW h
 rw[show PA (PJ (RS (ZH h)))=(PA (PJ (RS (ZH h)))).drop 0 from y13.symm] at M
 have gT:(PJ (RS (ZH h))).length=24:=by rw[PY,Vc]
 refine py (e:=[(0,_)]) func141 O ntmps141 O O<|qN O<|Pb O O (S5 (cs:=[_,_,_,_,_,_,_,_]) Up O) ?_
 rintro _ w1⟨b2,rfl,bU,c,g⟩
 refine Rq O<|Rj O O (yc (args:=[.tmp 11,.const (Value.string (⟨#[119,116,108,49]⟩))]) zhc O) (z7Y z8y (PJ (RS (ZH h))) _ (by rw[show z8y++PJ (RS (ZH h))=hdT h from rfl];omega)) ?_
 rintro _ w1⟨rfl,rfl⟩
 refine Ph O<|Ta O<|QS O<|Qi O<|qV (SD O)<|PB O<|qV (WW U9 O)<|QY O<|Qb<|Ql O<|QC O<|PL O ?_
 generalize PJ (RS (ZH h))=pt at M gT
 refine Px z8H O (Xs pt ω w1) ?_
 rintro _ w2⟨r,rfl,Y,f,dl⟩
 refine Pb O O (S5 (cs:=[_]) z38 O) ?_
 rintro _ w3⟨b6,rfl,oT,T,aJ⟩
 refine Po O (QZ z38 O O O aJ ξ) ?_
 rintro w4⟨N,U⟩
 replace N:Pm w4 b6 [ptr r 0] 289:=N
 refine qM O<|Pb O O (S5 (cs:=[_]) TZ O) ?_
 rintro _ w5⟨b7,rfl,kR,D,bE⟩
 refine Po O (QZ TZ O O O bE ξ) ?_
 rintro v⟨Q,B⟩
 replace Q:Pm v b7 [.bool false] 4:=Q
 have z1:=c.size
 have z2:=f.size
 have z3:=T.size
 have z4:=U.size
 have z5:=D.size
 have lr:=Y.1.lt
 have l6:=N.lt
 have l2:=g.lt
 have uv:=B.OZ (D.OZ N) ω
 have eX:Ul v r pt 0:=⟨B.OZ (D.OZ (U.OZ (T.OZ Y.1) ω)) ω,Y.2⟩
 have aY:Ext w1 v:=(((f.trans T).It U (λi e=>ω)).trans D).It B (λi e=>ω)
 refine qM O<|qV (ymf (first:=[]) (caps:=[.tmp 6,.tmp 7]) O O)<|Rq O<|Rj O O (SE z0K O O) (Tv eX uv Q ⟨ω,ω,ω⟩ 32 h.n ψ ω ω _ M) ?_
 rintro _ v0⟨rfl,EB,yR,yS,A⟩
 have E:=TD M
 refine Ph O<|Rj O O (SE z0K O O) (Tv EB yR yS ⟨ω,ω,ω⟩ 32 h.m ψ ω ω _ E) ?_
 rintro _ v1⟨rfl,F,yW,yX,H⟩
 have L:=TD E
 refine qV (T3 (cs:=[_,_,_,_,_,_,_,_]) Up O zfR O O)<|Pb O O (S5 (cs:=[_,_,_,_,_,_,_,_]) Up O) ?_
 rintro _ w7⟨G,rfl,mO,o,j⟩
 have a4:=A.size
 have a5:=H.size
 have z7:=o.size
 have z6:=B.size
 have l9:=j.lt
 refine Po O (Qh (news:=[I (h.n:Int),I (h.m:Int),I 0,I 0,I 0,I 0,I 0,I 0]) Up O O O O j ξ) ?_
 rintro x⟨Z,aH⟩
 replace Z:Pm x G [I (h.n:Int),I (h.m:Int),I 0,I 0,I 0,I 0,I 0,I 0] 153:=Z
 have l7:=Q.lt
 have J:Ext v1 x:=o.It aH (λi e=>ω)
 have wg:Ul x r pt (0+32+32):=⟨J.OZ F.1,F.2⟩
 have iK:=J.OZ yW
 have EC:=J.OZ yX
 have p8:Kp (λk=>k=r\/k=b7) v x:=(A.trans H).trans J.kp
 refine P4<|PM.qb (e:=[(2,_),(3,_),(7,_),(8,_),(9,_)]) ?_
 refine PL O<|Rj O O (SE z0K O O) (Tv wg iK EC ⟨ω,ω,ω⟩ 8 h.p.PE ψ ω ω _ L) ?_
 rintro _ v2⟨rfl,ED,zd,zh,EE⟩
 have W:=TD L
 refine Ph O<|Rj O O (SE z0K O O) (Tv ED zd zh ⟨ω,ω,ω⟩ 8 h.p.chain ψ ω ω _ W) ?_
 rintro _ v3⟨rfl,EF,zj,zk,EG⟩
 have X:=TD W
 refine Ph O<|Rj O O (SE z0K O O) (Tv EF zj zk ⟨ω,ω,ω⟩ 8 h.p.interval ψ ω ω _ X) ?_
 rintro _ v4⟨rfl,EH,zn,zo,EI⟩
 have zp:=TD X
 refine Ph O<|Rj O O (SE z0K O O) (Tv EH zn zo ⟨ω,ω,ω⟩ 8 h.p.zeta ψ ω ω _ zp) ?_
 rintro _ v5⟨rfl,EJ,zr,zt,EK⟩
 have zu:=TD zp
 refine Ph O<|Rj O O (SE z0K O O) (Tv EJ zr zt ⟨ω,ω,ω⟩ 32 h.p.most ψ ω ω _ zu) ?_
 rintro _ v6⟨rfl,zv,zw,zx,EL⟩
 have P:=TD zu
 have y:Kp (λk=>k=r\/k=b7) x v6:=(((EE.trans EG).trans EI).trans EK).trans EL
 have EM:=y.OZ Z ω
 refine qV (T3 (cs:=[_,_,_,_,_]) S8 O zds O O)<|Pr Z9 O<|Po O (Qh (news:=VW h.p) S8 O O O O EM ξ) ?_
 rintro z⟨a,C⟩
 replace a:Pm z G [I (h.n:Int),I (h.m:Int),I (h.p.PE:Int),I (h.p.chain:Int),I (h.p.interval:Int),I (h.p.zeta:Int),I (h.p.most:Int),I 0] 153:=a
 have rJ:Ul z r pt (0+32+32+8+8+8+8+32):=⟨C.OZ zv.1 ω,zv.2⟩
 have iL:=C.OZ zw ω
 have EN:=C.OZ zx ω
 refine qM O<|Ph O<|Rj O O (SE z0K O O) (Tv rJ iL EN ⟨ω,ω,ω⟩ 64 h.bits ψ ω ω _ P) ?_
 rintro _ v7⟨rfl,LI,II,zD,V⟩
 have LJ:=TD P
 have EO:=V.OZ a ω
 refine Pr VE O<|Po O (QZ Qe O O O EO ξ) ?_
 rintro d⟨K,b⟩
 replace K:Pm d G (hdC h) 153:=K
 have zF:=b.OZ zD ω
 have zH:Kp (λk=>k=r\/k=b7\/k=G) v d:=((((p8.trans y).Pk λk e=>ω).trans (C.Pk λk e=>ω)).trans (V.Pk λk e=>ω)).trans (b.Pk λk e=>ω)
 have s:Ext w1 d:=aY.It zH (λk e=>ω)
 refine P4<|OY<|qN O<|qV (Pl U4 O O zF O)<|Ph O<|qV (PO (news:=hdC h) z0g O Up O (K.cells (n:=8) O) O)<|Px zbO O (YG h t _) ?_
 rintro _ a3⟨rfl,R⟩
 refine R5 O<|Ql O<|P4<|PM.qb (e:=[(2,_),(3,_),(9,_),(51,_)]) ?_
 refine Tj O<|qN O<|qV (PO (news:=hdC h) z0g O Up O ((R.OZ K).cells (n:=8) O) O) ?_
 have zI:=(s.trans R).OZ g
 refine Po O (Qh (news:=hdC h) Up O O O O zI ξ) ?_
 rintro q⟨l,bu⟩
 replace l:Pm q b2 (hdC h) 153:=l
 replace l:Pm q b2 [I (h.n:Int),I (h.m:Int),I (h.p.PE:Int),I (h.p.chain:Int),I (h.p.interval:Int),I (h.p.zeta:Int),I (h.p.most:Int),I (h.bits:Int)] 153:=l
 refine Pq O<|PK func141 (.cell z0g O Up O (Pm.cells (n:=8) l (news:=[_,_,_,_,_,_,_,_]) O) O (.tmp O .nil)) ?_
 exact⟨_,O,O,((c.trans s).trans R).It bu (λk e=>ω)⟩
theorem za0 (h:PHd)(B:h.R1)(M:h.n<=500)(w:World):PN prog 142 [hdV h] w λu w'=>u= .tuple #[I ((28+(h.bits+7) / 8+(Ur (h.n+1) (h.bits+1)).size:Nat):Int),I 0]/\Ext w w':=by
 obtain⟨N,Q,R,g4,S⟩:=id B
 have C:=z3P (n:=h.n+1) (u:=h.bits+1) ω ω ω ω
 have G:(Ur (h.n+1) (h.bits+1)).size<=40000000:=by
  have T:=Fm.XO C;obtain⟨U,Y,Z⟩:=C;unfold Fm.size Fm.Vw;omega
 refine py (e:=[(0,_)]) func142 O ntmps142 O O<|qN O<|Pb O O (RP O (cs:=hdC h) O) ?_
 rintro _ w1⟨b1,rfl,K,D,d⟩
 replace d:Pm w1 b1 [I (h.n:Int),I (h.m:Int),I (h.p.PE:Int),I (h.p.chain:Int),I (h.p.interval:Int),I (h.p.zeta:Int),I (h.p.most:Int),I (h.bits:Int)] 153:=d
 refine QS O<|OY<|qN O<|qV (PO (news:=hdC h) z0g O Up O (d.cells (n:=8) O) O)<|Px zbO O (YG h B _) ?_
 rintro _ w2⟨rfl,r⟩
 have l:=r.OZ d
 refine Rq O<|R5 O<|QC O<|qN O<|Pr UH O<|qV (Pl U3 O O l O)<|Qj O<|Pr VE O<|qV (Pl U3 O O l O)<|qV (QH O U3 RW ω) ?_
 rw[show(h.n:Int)+1=((h.n+1:Nat):Int) by omega]
 refine Px zjR O (z6r (h.n+1) h.bits ω ω ω _) ?_
 rintro _ a⟨rfl,x⟩
 have J:=x.OZ l
 refine Ph O<|qV (S9 (v:=I ((Ur (h.n+1) (h.bits+1)).size:Int)) O O)<|qV (S9 (v:=I 0) O O) ?_
 generalize (Ur (h.n+1) (h.bits+1)).size=q at G
 refine SO O<|Ro O<|Pr VE O<|qV (Pl U3 O O J O)<|Qj O<|qV (X5 O O ω)<|Qj O<|Ph O<|Qj O<|Ph O<|QS O<|PM.qb (e:=[(2,_),(3,_)]) ?_
 refine P3 func142 O (⟨_,O,?_,(D.trans r).trans x⟩)
 show Value.tuple #[I (28+((h.bits:Int)+7) / 8+(q:Int)),I 0]= .tuple #[I ((28+(h.bits+7) / 8+q:Nat):Int),I 0]
 rw[show(28:Int)+((h.bits:Int)+7) / 8+(q:Int)=((28+(h.bits+7) / 8+q:Nat):Int) by omega]
section
variable {e:Env}{d:Option Nat}{pos:String}{g:Option (Nat×Bool)}{x:Operand}
theorem z74 {f:FuncId}{l:String}{u:Value}(h:methT P t l=some f):(nilAhead (P.types.size+Made.depth) t u l).run P w= .ok (some false) w:=by
 rw[show P.types.size+Made.depth=P.types.size+(Made.depth-1)+1 from rfl]
 unfold methT at h
 split at h<;>try cases h
 rename_i i hi
 split at h<;>try cases h
 rename_i m C
 split at h<;>try cases h
 rename_i f' pr q r
 have v:i.methods.find? (·.name==l)=some m:=by rw[<-C,Array.find?_toList]
 unfold nilAhead
 split at h<;>try cases h
 ·rename_i el n
  cases pr<;>simp at h;subst h;simp[Ui hi,v,q,followBlind,r]
 ·rename_i D B n
  cases pr<;>simp at h;subst h;simp only[y06,Ui hi,y0D,v,q,followBlind,y04,r,run_underlying n];cases D<;>first|exact absurd rfl (B _)|rfl
def zjm {h:TypeDesc}{v:Value}(ht:P.underlying t=some h)(l:∀ms,h≠ .interface ms)(n:look e x=some v):Y P e ⟨d,.makeInterface t x,ty,pos,aft,g⟩ (.iface t v) w w:=fun ρ q=>by
 simp only[execOp,q _ _ n,Instr.makeInterface,y06,run_underlying ht,y0D]
 cases h<;>first|rfl|exact(l _ rfl).elim
def ymm {v:Value}(h:look e x=some v):Y P e ⟨d,.makeFunc (.method nm) #[x] #[],ty,pos,aft,g⟩ (.func (.method nm) #[v] #[]) w w:=fun ρ l=>by
 simp[execOp,l _ _ h,Instr.makeFunc]
def zlR {f:FuncId}{tx:TypeId}{v:Value}(h:methT P tx nm=some f)(n:look e x=some (.func (.method nm) #[.iface tx v] #[])):Y P e ⟨d,.nilCheck x,ty,pos,aft,g⟩ (.func (.method nm) #[.iface tx v] #[]) w w:=fun ρ q=>by
 have l:=z74 (w:=w) (u:=v) h
 have r:(program).run P w= .ok P w:=rfl
 simp[execOp,q _ _ n,r,l]
end
def z0p (t:TypeId)(u:Value)(a n:Nat):Value:= .agg #[.iface t u,I (a:Int),I (n:Int)]
theorem z6i (t:TypeId)(u:Value)(a n:Nat)(w:World):PN prog 293 [z0p t u a n] w λv w'=>v=I (n:Int)/\Ext w w':=by
 unfold z0p
 refine py (e:=[(0,_)]) func293 O ntmps293 O O<|qN O<|Pb O O (RP O (cs:=[.iface t u,I (a:Int),I (n:Int)]) O) ?_
 rintro _ w1⟨b1,rfl,q,h,l⟩
 refine Ro O<|Pr z3Q O<|qV (Pl U3 O O l O)<|Pq O<|P3 func293 O ?_
 exact⟨_,O,O,h⟩
theorem z7Q {u:Value}{T:P8}(R:Src t u T)(a n:Nat)(M:a+n<=T.length)(K:T.length<=100000000000)(off m:Nat)(D:R.inv X w)(G:∀k,X k->k<w.heap.size)(h:off+m<=n):
  PN prog 294 [z0p t u a n,I (off:Int),I (m:Int)] w λv w'=>v= .tuple #[S ((((T.drop a).take n).drop off).take m),I 0]/\R.inv X w'/\Kp (λk=>¬X k) w w':=by
 have e:(((T.drop a).take n).drop off).take m=(T.drop (a+off)).take m:=by
  rw[y1y,y1E,y0E,show min m (n-off)=m by omega]
 rw[e]
 unfold z0p
 refine py (e:=[(0,_),(1,_),(2,_)]) func294 O ntmps294 O O<|qN O<|Pb O O (RP O (cs:=[.iface t u,I (a:Int),I (n:Int)]) O) ?_
 rintro _ w1⟨b1,rfl,J,q,l⟩
 refine QS O<|Qi O<|QY O<|PB O<|QY O<|Qb<|Ql O<|PB O<|Pr z3Q O<|qV (Pl U3 O O l O)<|R8 O<|Qb<|Ql O<|PB O ?_
 refine Pr z3Q O<|qV (Pl U3 O O l O)<|Ph O<|RR O<|R8 O<|Qb<|Ql O<|P4<|PM.qb (e:=[(1,_),(2,_),(3,_),(6,_),(7,_),(27,_)]) ?_
 refine Tj O<|qN O<|Pr zes O<|qV (Pl z2E O O l O)<|Pr zdT O<|qV (Pl U3 O O l O)<|Ph O<|Qj O<|Ph O ?_
 rw[show(a:Int)+(off:Int)=((a+off:Nat):Int) by omega]
 refine Rj O O (yci R.cr R.mr O O) (R.rd (a+off) m (R.ext D q (λk r=> .inl r)) (λk r=>by have:=G k r;have:=q.size;omega) ω) ?_
 rintro _ w2⟨rfl,C,B⟩
 refine Ta O<|QS O<|P3 func294 O ?_
 exact⟨_,O,O,C,q.kp.trans B⟩
def zfz {t:TypeId}{u:Value}{T:P8}(R:Src t u T)(a n:Nat)(B:P8)(q:a+n<=T.length)(l:T.length<=100000000000)(hB:(T.drop a).take n=B):Src 249 (z0p t u a n) B where
 inv:=R.inv
 fl:=293
 fr:=294
 cl:=zka
 cr:=zi8
 ml:=Pd
 mr:=Pd
 ext:=R.ext
 step:=R.step
 len:=fun {X w} h=>by
  have e:B.length=n:=by rw[<-hB,y0d,y07];omega
  rw[e];exact z6i t u a n w
 rd:=fun {X w} off m h hX ho=>by
  have e:B.length=n:=by rw[<-hB,y0d,y07];omega
  rw[<-hB];exact z7Q R a n q l off m h hX ω
def WD (p:QR)(g:List (List Nat))(E:List (Nat×Nat)):PHd:=⟨g.length,Qp g,p,(R3 p g E g.length).length⟩
def pfm (p:QR)(g:List (List Nat))(E:List (Nat×Nat)):Fm:=Ur (g.length+1) ((R3 p g E g.length).length+1)
structure Tq (p:QR)(g:List (List Nat))(E:List (Nat×Nat)):Prop where
 R1:p.R1
 gr:QJ g
 n1:1<=g.length
 pk:zbf p g E
section
variable {p:QR}
def Tq.head (h:Tq p g E):(WD p g E).R1:=by
 have l:=h.gr.n
 have e:=h.pk.bits
 have d:=Ut h.gr g.length
 rw[y0F] at d
 exact⟨h.n1,(by show g.length<=_;omega),(by show Qp g<=_;omega),(by show(R3 p g E g.length).length<=_;omega),h.R1⟩
theorem Tq.ef (h:Tq p g E):Wb (WX p g E g.length) (pfm p g E) (R3 p g E g.length).length:=by
 have l:=h.gr.n
 have e:=h.pk.bits
 have d:=z4n p g E g.length
 refine⟨ω,ω,z8l p g E g.length,?_,ω,?_⟩
 ·rw[d,y1g];exact z1c p g E (y02 g.length)
 ·rw[d];rfl
def WQ (p:QR)(g:List (List Nat))(E:List (Nat×Nat)):Nat:=28+((R3 p g E g.length).length+7) / 8
theorem Tq.len (h:Tq p g E):(Ym p g E).length=WQ p g E+(pfm p g E).size:=by
 unfold Ym WQ
 rw[Pe,Pe,XM,PY]
 have:=h.ef.len
 show _+(YZ (WX p g E g.length) (pfm p g E)).length=_
 rw[this]
def Tq.small (h:Tq p g E):(Ym p g E).length<=50000000/\40<=(Ym p g E).length:=by
 have e:=h.ef.size_le
 have d:=h.len
 have l:=h.pk.bits
 unfold WQ at d
 omega
theorem ze8:((Ym p g E).drop 0).take 28=hdT (WD p g E):=by
 unfold Ym
 rw[y13,y05,<-XM (WD p g E)]
 exact y3n
theorem Tq.index (h:Tq p g E):((Ym p g E).drop (WQ p g E)).take (pfm p g E).size=YZ (WX p g E g.length) (pfm p g E):=by
 have d:(hdT (WD p g E)++PJ (R3 p g E g.length)).length=WQ p g E:=by
  rw[Pe,XM,PY];rfl
 have e:=h.ef.len
 unfold Ym
 show((hdT (WD p g E)++PJ (R3 p g E g.length)++YZ (WX p g E g.length) (pfm p g E)).drop _).take _=_
 rw[<-d,y2L,<-e,y0F]
theorem zem (h:Tq p g E)(a n:Nat)(d:8*(a+n)<=(R3 p g E g.length).length+7):((Ym p g E).drop (28+a)).take n=((PJ (R3 p g E g.length)).drop a).take n:=by
 unfold Ym
 exact piece (by rw[XM]) (by rw[PY];omega)
end
def gwC (h:PHd)(t:TypeId)(u:Value)(x:Nat):List Value:=[I (h.n:Int),I (h.m:Int),I (h.p.PE:Int),I (h.p.chain:Int),I (h.p.interval:Int),I (h.p.zeta:Int),I (h.p.most:Int),I (h.bits:Int),.iface t u,ptr x 0]
theorem z6N {u:Value}{p:QR}(D:Tq p g E)(R:Src t u (Ym p g E))(r:R.inv X w)(hX:∀k,X k->k<w.heap.size):
  PN prog 107 [.iface t u] w λv w'=>∃k x,v= .tuple #[ptr k 0,I 0]/\Pm w' k (gwC (WD p g E) t u x) 158/\Pm w' x (elC (pfm p g E) 249 (z0p t u (WQ p g E) (pfm p g E).size)) 293/\w.heap.size<=x/\w.heap.size<=k/\x≠k/\R.inv (λj=>X j\/j=x\/j=k) w'/\Kp (λj=>¬X j) w w':=by
 have S:=D.len
 obtain⟨dU,dr⟩:=D.small
 have hn:=D.gr.n
 have ci:=D.n1
 have rM:=D.pk.bits
 have hg:=Ext.Pz w
 have V:=D.head
 have EP:(WD p g E).bits=(R3 p g E g.length).length:=rfl
 have Ou:WQ p g E=28+((WD p g E).bits+7) / 8:=rfl
 have Ov:(WD p g E).n=g.length:=rfl
 refine py (e:=[(0,_)]) func107 O ntmps107 O O<|qN O<|QS O<|Qi O<|qV (zf4 z2E O O)<|QC O<|OY<|RI (λw'=>R.inv X w'/\Kp (λk=>¬X k) w w') O<|Pu 0 O O (⟨R.ext r hg (λk d=> .inl d),hg.kp⟩)<|Pu 1 O O (⟨R.ext r hg (λk d=> .inl d),hg.kp⟩)<|P7 4 O (ymm O) (⟨R.ext r hg (λk d=> .inl d),hg.kp⟩)<|P7 5 O (zlR R.mr O) (⟨R.ext r hg (λk d=> .inl d),hg.kp⟩)<|Pu 6 O O (⟨R.ext r hg (λk d=> .inl d),hg.kp⟩)<|qO 2 ?_
 refine Xc (i:=2) O O O (yci R.cl R.ml O O) (R.len (R.ext r hg (λk d=> .inl d))) ?_
 rintro _ w1⟨rfl,J⟩
 refine⟨⟨R.ext r (hg.trans J) (λk d=> .inl d),(hg.trans J).kp⟩,?_⟩
 have q:=hg.trans J
 rw[S]
 refine P7 3 O (ymi O O) (⟨R.ext r (hg.trans J) (λk d=> .inl d),(hg.trans J).kp⟩) ?_
 rw[show min (28:Int) ((WQ p g E+(pfm p g E).size:Nat):Int)=((28:Nat):Int) by omega]
 have kz:=R.ext r q (λk d=> .inl d)
 have y:∀k,X k->k<w1.heap.size:=λk d=>by have:=hX k d;have:=q.size;omega
 refine qO 7<|Xc (i:=7) O O O (yci R.cr R.mr O O) (R.rd 0 28 kz y ω) ?_
 rintro _ w2⟨rfl,C,B⟩
 refine⟨⟨C,q.kp.trans B⟩,?_⟩
 rw[ze8]
 have s:Kp (λk=>¬X k) w w2:=q.kp.trans B
 have fQ:∀k,X k->k<w2.heap.size:=λk d=>by have:=y k d;have:=B.size;omega
 refine Pu 8 O O (⟨C,q.kp.trans B⟩)<|P7 9 O (S9 O O) (⟨C,q.kp.trans B⟩)<|P7 10 O (S9 O O) (⟨C,q.kp.trans B⟩)<|P7 11 O (S6 O) (⟨C,q.kp.trans B⟩)<|P7 12 O (S6 O) (⟨C,q.kp.trans B⟩)<|qE<|Qi O<|R5 O<|QC O<|PL O<|Px zkx O (z9K (WD p g E) V w2) ?_
 rintro _ w3⟨rfl,o⟩
 refine Ph O<|qV (S9 (v:=hdV (WD p g E)) O O)<|qV (S9 (v:=I 0) O O)<|Pb O O (S5 (cs:=[_,_,_,_,_,_,_,_]) Up O) ?_
 rintro _ w4⟨b6,rfl,oT,ay,aJ⟩
 refine Po O (Qh (news:=hdC (WD p g E)) Up O O O O aJ ξ) ?_
 rintro W⟨M,ai⟩
 replace M:Pm W b6 (hdC (WD p g E)) 153:=M
 have bL:Ext w3 W:=ay.It ai (λi e=>ω)
 have iC:=o.trans bL
 refine Pq O<|PM.qb (e:=[(0,_),(2,_),(3,_),(5,_),(6,_)]) ?_
 refine Qi O<|R5 O<|QC O<|OY<|qN O<|qV (PO (news:=hdC (WD p g E)) z0g O Up O (M.cells (n:=8) O) O)<|Px zhz O (za0 (WD p g E) V (by show g.length<=_;omega) _) ?_
 rintro _ w6⟨rfl,f⟩
 have A:=iC.trans f
 have P:=R.ext C A (λk d=> .inl d)
 have uv:=f.OZ M
 refine Ph O<|qV (S9 (v:=I ((WQ p g E+(pfm p g E).size:Nat):Int)) O O)<|qV (S9 (v:=I 0) O O)<|SO O<|Rq O<|R5 O<|Qb<|PB O<|Ph O<|Rj O O (yci R.cl R.ml O O) (R.len P) ?_
 rintro _ w7⟨rfl,Z⟩
 rw[S]
 have EQ:=A.trans Z
 have N:=Z.OZ uv
 refine R5 O<|Qb<|Ql O ?_
 replace N:Pm w7 b6 [I ((WD p g E).n:Int),I ((WD p g E).m:Int),I ((WD p g E).p.PE:Int),I ((WD p g E).p.chain:Int),I ((WD p g E).p.interval:Int),I ((WD p g E).p.zeta:Int),I ((WD p g E).p.most:Int),I ((WD p g E).bits:Int)] 153:=N
 refine QC O<|qN O<|Pr VE O<|qV (Pl U3 O O N O)<|Qj O<|qV (X5 O O ω)<|Qj O ?_
 rw[show 28+((((WD p g E).bits:Nat):Int)+7) / 8=(WQ p g E:Int) by omega]
 refine Pq O<|PM.qb (e:=[(0,_),(2,_),(3,_),(5,_),(6,_),(9,_)]) ?_
 refine QG O<|Ph O ?_
 have L:=R.ext P Z (λk d=> .inl d)
 refine Rj O O (yci R.cl R.ml O O) (R.len L) ?_
 rintro _ w8⟨rfl,U⟩
 rw[S]
 have K:=EQ.trans U
 have Eo:=R.ext L U (λk d=> .inl d)
 have F:=U.OZ N
 have c:=K.size
 refine Ph O<|RR O ?_
 rw[show((WQ p g E+(pfm p g E).size:Nat):Int)-(WQ p g E:Int)=((pfm p g E).size:Int) by omega]
 refine qV (T3 (cs:=[_,_,_]) zjj O zio O O)<|qV (zjm zcH (λ_ h=>by cases h) rfl) ?_
 have a0:=F.lt
 have LK:=R.ext (Y:=λk=>X k\/k=b6) C K (λk d=>d.imp id λe=>by have:=o.size;omega)
 have mj:∀k,(X k\/k=b6)->k<w8.heap.size:=λk d=>by
  rcases d with d| e
  ·have:=fQ k d;have:=K.size;omega
  ·omega
 refine Px zjg O (z6w D.ef (zfz R (WQ p g E) (pfm p g E).size (YZ (WX p g E g.length) (pfm p g E)) ω ω D.index) (X:=λk=>X k\/k=b6) LK mj) ?_
 rintro _ b⟨x,rfl,a,hx,jH,T⟩
 have H:=T.OZ F (λhh=>hh (.inr O))
 have ER:Kp (λk=>¬X k) w2 b:=K.kp.trans (T.Pk λk d e=>d (.inl e))
 have z9:=T.size
 refine Ph O<|qV (S9 (v:=ptr x 0) O O)<|qV (S9 (v:=I 0) O O)<|QS O<|R0<|PL O<|R5 O<|Pq O<|P9 O<|OY ?_
 have l:=Ext.Pz b
 refine RI (λw'=>Ext b w') O<|Pu 0 O O l<|P7 2 O (PU UH O) l<|qT 3 O (λ_ h=>Pl U3 O O (h.OZ H) O) l<|P7 4 O (Vu O O ω) l<|Tl 1 O zhR O (zaV (l.OZ a)) ?_
 rintro _ a2⟨rfl,rfl⟩
 refine⟨l,?_⟩
 rw[show(pfm p g E).n=(WD p g E).n+1 from rfl]
 refine P7 5 O (yne O O) l<|P7 6 O (S6 O) l<|qE<|PM.qb (e:=[(0,_),(2,_),(3,_),(6,_),(10,_),(69,_)]) ?_
 have ik:=l.OZ H
 have zJ:=l.OZ a
 refine Pn O (λz=>?_)<|λz=>?_
 ·exact absurd ω z
 ·refine P5<|An<|qN O<|qV (PO (news:=hdC (WD p g E)) z0g O Up O (Pm.cells (n:=8) ik O) O)<|PB O<|qV (T3 (cs:=[_,_,_,_,_,_,_,_,_,_]) zj6 O zjT O O)<|Pb O O (RP O (cs:=gwC (WD p g E) t u x) O) ?_;rintro _ a3⟨k,rfl,d,aW,aZ⟩;refine QS O<|P3 func107 O ?_;have Q:=l.trans aW;have a4:=s.size;have c:=K.size;have a5:=l.size;have a1:=zJ.lt;refine⟨_,O,k,x,O,aZ,Q.OZ a,ω,ω,ω,R.ext jH Q (λj G=>?_),(s.trans ER).trans Q.kp⟩;rcases G with G|G|G
  ·exact .inl (.inl (.inl G))
  ·exact .inl (.inr G)
  ·exact .inr ω
structure Vs {t:TypeId}{u:Value}{p:QR}{g:List (List Nat)}{E:List (Nat×Nat)}(R:Src t u (Ym p g E))(k x:Nat)(X:Nat->Prop)(w:World):Prop where
 ok:Tq p g E
 OZ:Pm w k (gwC (WD p g E) t u x) 158
 ix:Pm w x (elC (pfm p g E) 249 (z0p t u (WQ p g E) (pfm p g E).size)) 293
 xk:X k
 xx:X x
 inv:R.inv X w
 lt:∀j,X j->j<w.heap.size
 x1:X 1
 x2:X 2
 gam:Pm w 1 (SI .gamma) 314
 una:Pm w 2 (SI .unary) 314
section
variable {u:Value}{p:QR}{R:Src t u (Ym p g E)}{x:Nat}{Y S:Nat->Prop}
def Vs.grow (h:Vs R k x X w)(d:Ext w w')(q:∀j,Y j->X j\/(w.heap.size<=j/\j<w'.heap.size))(l:∀j,X j->Y j):Vs R k x Y w':=
 ⟨h.ok,d.OZ h.OZ,d.OZ h.ix,l _ h.xk,l _ h.xx,R.ext h.inv d (λj n=>(q j n).imp id And.left),λj n=>by
  rcases q j n with e| e
  ·have:=h.lt j e;have:=d.size;omega
  ·exact e.2,l _ h.x1,l _ h.x2,d.OZ h.gam,d.OZ h.una⟩
def Vs.ext (h:Vs R k x X w)(e:Ext w w'):Vs R k x X w':=h.grow e (λj d=> .inl d) λj d=>d
def Vs.less (h:Vs R k x Y w)(e:∀j,X j->Y j)(q:X k)(r:X x)(l:X 1)(n:X 2):Vs R k x X w:=
 ⟨h.ok,h.OZ,h.ix,q,r,R.ext h.inv (Ext.refl w) (λj d=> .inl (e j d)),λj d=>h.lt j (e j d),l,n,h.gam,h.una⟩
theorem Vs.step (h:Vs R k x X w)(d:Kp S w w')(l:∀j,S j->X j/\j≠k/\j≠x/\j≠1/\j≠2)(r:∀j,Y j->X j\/(w.heap.size<=j/\j<w'.heap.size))(q:∀j,X j->Y j):Vs R k x Y w':=
 ⟨h.ok,d.OZ h.OZ (λe=>(l _ e).2.1 O),d.OZ h.ix (λe=>(l _ e).2.2.1 O),q _ h.xk,q _ h.xx,R.step h.inv d (λj n=>(l j n).1) (λj n=>(r j n).imp id And.left),λj n=>by
  rcases r j n with e| e
  ·have:=h.lt j e;have:=d.size;omega
  ·exact e.2,q _ h.x1,q _ h.x2,d.OZ h.gam (λe=>(l _ e).2.2.2.1 O),d.OZ h.una (λe=>(l _ e).2.2.2.2 O)⟩
def Vs.own (h:Vs R k x X w)(d:Kp S w w')(l:∀j,S j->X j/\j≠k/\j≠x/\j≠1/\j≠2):Vs R k x X w':=
 ⟨h.ok,d.OZ h.OZ (λe=>(l _ e).2.1 O),d.OZ h.ix (λe=>(l _ e).2.2.1 O),h.xk,h.xx,R.own h.inv d (λj n=>(l j n).1),λj n=>by have:=h.lt j n;have:=d.size;omega,h.x1,h.x2,d.OZ h.gam (λe=>(l _ e).2.2.2.1 O),d.OZ h.una (λe=>(l _ e).2.2.2.2 O)⟩
def Vs.src (h:Vs R k x X w)(d:Kp (λj=>¬X j) w w')(l:R.inv X w'):Vs R k x X w':=
 ⟨h.ok,d.OZ h.OZ (λe=>e h.xk),d.OZ h.ix (λe=>e h.xx),h.xk,h.xx,l,λj n=>by have:=h.lt j n;have:=d.size;omega,h.x1,h.x2,d.OZ h.gam (λe=>e h.x1),d.OZ h.una (λe=>e h.x2)⟩
def Vs.R2 (R:Src t u (Ym p g E))(h:Tq p g E):Src 249 (z0p t u (WQ p g E) (pfm p g E).size) (YZ (WX p g E g.length) (pfm p g E)):=
 zfz R (WQ p g E) (pfm p g E).size _ (by have:=h.len;omega) (by have:=h.small;omega) h.index
theorem Vs.cells (h:Vs R k x X w):Pm w k [I ((WD p g E).n:Int),I ((WD p g E).m:Int),I ((WD p g E).p.PE:Int),I ((WD p g E).p.chain:Int),I ((WD p g E).p.interval:Int),I ((WD p g E).p.zeta:Int),I ((WD p g E).p.most:Int),I ((WD p g E).bits:Int),.iface t u,ptr x 0] 158:=h.OZ
def zec (h:Vs R k x X w):PN prog 37 [ptr k 0] w λv w'=>v=I (g.length:Int)/\w'=w:=by
 have hB:=h.cells
 refine py (e:=[(0,_)]) func37 O ntmps37 O O<|Re O<|Qi O<|qV (Qz U28 O O)<|QC O<|PL O<|PQ O<|Pr Wj O<|Pr UH O<|qV (Pl U3 O O hB O)<|Pq O<|P3 func37 O ?_
 exact⟨_,O,O,O⟩
theorem z80 (h:Vs R k x X w){v:Nat}(C:v<g.length)(q:Rd w (.slice (some ⟨b,0,none⟩) 1 c) 1 1 [I (v:Int)]):PN prog 183 [ptr k 0,.slice (some ⟨b,0,none⟩) 1 c] w λv w'=>v=I 0/\w'=w:=by
 have hB:=h.cells
 have B:(WD p g E).n=g.length:=rfl
 refine py (e:=[(0,_),(1,_)]) func183 O ntmps183 O O<|Re O<|Qi O<|qV (Qz U28 O O)<|QC O<|Qi O<|RQ Rp O<|Ph O<|P4<|P6<|RX (α:=Nat) (0) (λi=>[(0,ptr k 0),(9,.slice (some ⟨b,0,none⟩) 1 c),(10,I 1),(11,I (i:Int))]) (λi w'=>w'=w/\i<=1) (λi=>1-i) ?hI ?hround
 case hI=>exact⟨O,y00 _⟩
 case hround=>
  rintro i w2⟨rfl,hi⟩ r
  try dsimp only
  refine qN O<|QY O<|P4<|OY<|Pn O (λl=>?_)<|λl=>?_
  ·have d:i=0:=ω
   subst d;refine P5 (R0 (qN O (qV (Qc Rp Qe O O ω) (qV (PG U3 O O (Qs q O)) (Rq O (QY O (Qb (PB O (Ph O (PQ O (Pr Wj O (Pr UH O (qV (Pl U3 O O hB O) ?_)))))))))))));refine Uj O<|Qb<|Ql O<|QC O<|An<|Pc O<|Qj O<|Ph O<|P4 ?_;exact(r 1 _ ⟨O,ω⟩ ω).qb
  ·refine Pf O<|Re O<|P3 func183 O ?_;exact⟨_,O,O,O⟩
theorem zaN {p:QR}{v n:Nat}(l:((PJ (R3 p g E g.length)).drop (a / 8)).take n=s)(h:(R3 p g E v).length=a)(G:v<g.length)(D:a+(YH p g E v).length<=8*(a / 8+n)):∃rest,(PA s).drop (a%8)=YH p g E v++rest:=by
 have B:∃r,R3 p g E g.length=R3 p g E (v+1)++r:=by
  have key:∀d i,∃r,R3 p g E (i+d)=R3 p g E i++r:=λd i=>by
   induction d with
   |zero=>exact⟨[],ξ⟩
   | succ d C =>
     obtain⟨r,e⟩:=C;exact⟨r++YH p g E (i+d),by rw[<-y1t,Ty,e,y05]⟩
  obtain⟨r,e⟩:=key (g.length-(v+1)) (v+1);rw[show v+1+(g.length-(v+1))=g.length by omega] at e;exact⟨r,e⟩
 obtain⟨r,e⟩:=B
 obtain⟨z,q,-,-⟩:=SM (R3 p g E g.length)
 rw[<-l,Vp,Uf,q,e,Ty,y1y,y0E,show 8*(a / 8)+a%8=a by omega,y05,y05,y19 h,y2u,y0N ω]
 exact⟨_,O⟩
theorem z6u (h:Vs R k x X w){v:Nat}(H:v<g.length):PN prog 209 [ptr k 0,I (v:Int)] w λr w'=>∃(b a e:Nat)(s:P8) (rest:List Bool),r= .tuple #[ptr b 0,I (e:Int),I 0]/\Ul w' b s a/\(PA s).drop a=YH p g E v++rest/\a+(YH p g E v).length=e/\w.heap.size<=b/\Vs R k x (λj=>X j\/j=b) w'/\Kp (λj=>¬X j) w w':=by
 have hn:=h.ok.gr.n
 have rM:=h.ok.pk.bits
 have hB:=h.cells
 have f:=z1c p g E (n:=g.length) (i:=v) ω
 have zK:=z1c p g E (n:=g.length) (i:=v+1) ω
 have P:=Xt p g E (g.length-(v+1)) (v+1)
 rw[show v+1+(g.length-(v+1))=g.length by omega] at P
 have y:=Ty p g E v
 have W:=congrArg List.length y
 rw[Pe] at W
 refine py (e:=[(0,_),(1,_)]) func209 O ntmps209 O O<|qN O<|SO O<|SO O<|Rq O<|PQ O<|Pr z9h O<|qV (Pl z2C O O hB O)<|Ph O<|Px zfh O (z2Y h.ok.ef (Vs.R2 R h.ok) h.inv h.lt h.xx h.ix f) ?_
 rintro _ w1⟨rfl,V,K⟩
 have l:=h.src K V
 have m:=l.cells
 refine Ph O<|Ta O<|QS O<|Qi O<|R5 O<|QC O<|PL O<|PQ O<|Pr z9h O<|qV (Pl z2C O O m O)<|Ph O<|Qj O ?_
 rw[show(v:Int)+1=((v+1:Nat):Int) by omega]
 refine Px zfh O (z2Y l.ok.ef (Vs.R2 R l.ok) l.inv l.lt l.xx l.ix zK) ?_
 rintro _ w2⟨rfl,o,Q⟩
 have B:=l.src Q o
 have N:=B.cells
 have Z:=K.trans Q
 obtain⟨d,J⟩:∃n,(R3 p g E v).length=n:=⟨_,O⟩
 obtain⟨bl,z⟩:∃n,(R3 p g E (v+1)).length=n:=⟨_,O⟩
 rw[J,z]
 have EP:(WD p g E).bits=(R3 p g E g.length).length:=rfl
 refine Ph O<|Ta O<|QS O<|PM.qb (e:=[(0,_),(4,_),(5,_),(6,_),(7,_),(8,_),(9,_)]) ?_
 refine R0<|PL O<|R5 O<|Pq O<|P9 O<|QG O<|R8 O<|Qb<|PB O<|Ph O<|PQ O<|Pr Wj O<|Pr VE O<|qV (Pl U3 O O N O) ?_
 refine qV (QH O U3 RW ω)<|R8 O<|Qb<|Ql O<|Pq O<|Tj O<|An<|PL O<|qV (zho O O O (by simp only[IntKind.bits];omega) ω) ?_
 refine qV (Q8 O RW U3 ω)<|Pq O<|PM.qb (e:=[(0,_),(4,_),(5,_),(6,_),(7,_),(8,_),(9,_),(10,_)]) ?_
 refine PL O<|PQ O<|Pr zdo O<|qV (Pl z2E O O N O)<|Ph O<|Qj O<|Ph O<|qV (VD O O)<|qV (Q8 O RW U3 ω)<|qV (X5 O O ω)<|Ph O<|RR O ?_
 have sh:28+d / 8+((bl+7) / 8-d / 8)<=(Ym p g E).length:=by have:=h.ok.len;unfold WQ at this;omega
 rw[show 28+((d / 8:Nat):Int)=((28+d / 8:Nat):Int) by omega]
 rw[show(((bl+7)%18446744073709551616:Nat):Int) / 8-((d / 8:Nat):Int)=(((bl+7) / 8-d / 8:Nat):Int) by omega]
 refine Rj O O (yci R.cr R.mr O O) (R.rd (28+d / 8) ((bl+7) / 8-d / 8) B.inv B.lt sh) ?_
 rintro _ w3⟨rfl,yP,C⟩
 have c:=B.src C yP
 rw[zem h.ok (d / 8) ((bl+7) / 8-d / 8) ω]
 obtain⟨s,G⟩:∃s,((PJ (R3 p g E g.length)).drop (d / 8)).take ((bl+7) / 8-d / 8)=s:=⟨_,O⟩
 rw[G]
 refine Ph O<|Ta O<|QS O<|PM.qb (e:=[(4,_),(5,_),(6,_),(7,_),(8,_),(9,_),(10,_),(11,_)]) ?_
 refine Qi O<|R5 O ?_
 have fR:s.length=(bl+7) / 8-d / 8:=by
  rw[<-G,y0d,y07,PY];omega
 obtain⟨rest,o6⟩:∃rest,(PA s).drop (d%8)=YH p g E v++rest:=zaN G J H ω
 refine QC O<|PL O<|Px z8H O (Xs s ω w3) ?_
 rintro _ w4⟨b,rfl,U,T,hb⟩
 have lb:=U.1.lt
 have A:Vs R k x (λj=>X j\/j=b) w4:=c.grow T (λj D=>D.imp id λe=>ω) (λj D=> .inl D)
 have q:¬X b:=λe=>by have:=c.lt b e;omega
 refine Ro O<|PB O<|qV (Q8 O RW U3 ω)<|Ph O<|qV (Y8 O O ω)<|RR O ?_
 rw[show(d:Int)-8*((d / 8:Nat):Int)=((d%8:Nat):Int) by omega]
 refine Px zbP O (ZU U (d%8) ω) ?_
 rintro _ w5⟨rfl,L,M⟩
 have F:=A.own M (λj e=>by
  subst e
  exact⟨.inr O,λe=>q (e▸h.xk),λe=>q (e▸h.xx),λe=>q (e▸h.x1),λe=>q (e▸h.x2)⟩)
 refine qM O<|PB O<|qV (Q8 O RW U3 ω)<|Ph O<|qV (Y8 O O ω)<|RR O ?_
 rw[show(bl:Int)-8*((d / 8:Nat):Int)=((bl-8*(d / 8):Nat):Int) by omega]
 refine SO O<|QS O<|PM.qb (e:=[(4,_),(5,_),(6,_)]) ?_
 refine P3 func209 O ?_
 have a0:=(Z.trans C).size
 exact⟨_,O,b,d%8,bl-8*(d / 8),s,rest,O,L,o6,ω,ω,F,((Z.trans C).trans T.kp).It M (λj e=> .inl ω)⟩
end
def Pa (g:List (List Nat))(v:Nat):List Nat:=(g[v]?).getD []
def PT (g:List (List Nat))(E:List (Nat×Nat))(v:Nat):Nat:=if Pa g v=[] then 0 else((E[v]?).getD (0,0)).1
def U7 (p:QR)(g:List (List Nat))(E:List (Nat×Nat))(v:Nat):List (Cd×Nat):=if Pa g v=[] then [] else UZ p.list v (Pa g v) (R7 g v (PT g E v)) (PT g E v)
def z9x (p:QR)(g:List (List Nat))(E:List (Nat×Nat))(v:Nat):YH p g E v=PD (R4 p.list (Pa g v).length (PT g E v))++PD (U7 p g E v):=by
 unfold YH U7 PT
 rw[<-SX]
 by_cases h:Pa g v=[]
 ·have d:(g[v]?).getD []=[]:=h;rw[if_pos h,if_pos h,d,h]
  rfl
 ·rw[if_neg h,if_neg h];have:=z1R p.list v (ref:=R7 g v ((E[v]?).getD (0,0)).1) ((E[v]?).getD (0,0)).1 h;rw[<-this];rfl
section
variable {u:Value}{p:QR}{R:Src t u (Ym p g E)}{x:Nat}
theorem Tq.ent (h:Tq p g E){v:Nat}(n:v<g.length):z0N p g E v (Pa g v).length ((E[v]?).getD (0,0)):=by
 have l:=h.pk.el
 obtain⟨e,d⟩:∃e,E[v]? =some e:=⟨_,y03 ω⟩
 have:=h.pk.ok.ent v e d
 rw[d];exact this
def Tq.z3z (h:Tq p g E){v:Nat}(d:v<g.length):PT g E v<=p.PE/\PT g E v<=v:=by
 unfold PT
 split
 ·omega
 ·rcases h.ent d with e| e
  ·rw[e];exact⟨y00 _,y00 _⟩
  ·exact⟨e.2.1,e.2.2.1⟩
def Tq.suc (h:Tq p g E){v:Nat}(e:v<g.length):Q4 (Pa g v)/\(Pa g v).length<=g.length/\∀y∈Pa g v,y<g.length:=by
 have d:Pa g v∈g:=by
  unfold Pa;rw[y03 e];exact y1d e
 exact⟨h.gr.ok _ d,h.gr.len d,h.gr.lt _ d⟩
theorem z7j (h:Vs R k x X w){v:Nat}(m:v<g.length):PN prog 185 [ptr k 0,I (v:Int)] w λr w'=>∃(b a:Nat)(s:P8) (rest:List Bool),r= .tuple #[.agg #[I ((Pa g v).length:Int),I (PT g E v:Int)],ptr b 0,I ((a+(PD (U7 p g E v)).length:Nat):Int),I 0]/\Ul w' b s a/\(PA s).drop a=PD (U7 p g E v)++rest/\w.heap.size<=b/\Vs R k x (λj=>X j\/j=b) w'/\Kp (λj=>¬X j) w w':=by
 have hn:=h.ok.gr.n
 obtain⟨dU,dr,pd⟩:=h.ok.suc m
 have g8:=h.ok.z3z m
 have H:=z9x p g E v
 have zL:(Pa g v).length=0->PT g E v=0:=λe=>by unfold PT;rw[if_pos (y0t e)]
 refine py (e:=[(0,_),(1,_)]) func185 O ntmps185 O O<|qN O<|Pb O O (S5 (cs:=[_,_]) SH O) ?_
 rintro _ w1⟨G,rfl,g7,B,y⟩
 have l4:=y.lt
 have h1:Vs R k x (λj=>X j\/j=G) w1:=h.grow B (λj l=>l.imp id λe=>ω) (λj l=> .inl l)
 have D:∀j,X j->j≠G:=λj l e=>by have:=h.lt j l;omega
 refine SO O<|SO O<|Ro O<|PB O<|Px zkv O (z6u h1 m) ?_
 rintro _ w2⟨b,a,e,s,rest,rfl,U,f,he,hb,F,z⟩
 have bz:=z.OZ y (λe=>e (.inr O))
 have W:=F.cells
 have lb:=U.1.lt
 have q:∀j,X j->j≠b:=λj l e=>by have:=h.lt j l;have:=B.size;omega
 have o7:∀j,j=b->(X j\/j=G)\/j=b:=λj e=> .inr e
 refine Ph O<|qV (S9 (v:=ptr b 0) O O)<|qV (S9 (v:=I (e:Int)) O O)<|qV (S9 (v:=I 0) O O)<|SO O<|QS O<|Qi O<|R5 O<|QC O<|QG O<|PQ O<|Pr Wj O<|Pr Z9 O<|qV (PO (news:=VW p) Ys O S8 O (Pm.cells (i:=2) (n:=5) W O) O) ?_
 refine Px z1Y O (Tt p w2) ?_
 rintro _ w3⟨rfl,C⟩
 have c:=F.ext C
 have fT:Ul w3 b s a:=⟨C.OZ U.1,U.2⟩
 rw[H,y05] at f
 refine Px zfv O (z3b fT p.list h.ok.R1.1 c.gam c.una (λe=>q 1 h.x1 e) (λe=>q 2 h.x2 e) (Pa g v).length (PT g E v) ω g8.1 zL _ f) ?_
 rintro _ L⟨rfl,A,M⟩
 have V:=SL f
 have h4:=c.own M (λj e=>⟨.inr e,λd=>q k h.xk (d▸e),λd=>q x h.xx (d▸e),λd=>q 1 h.x1 (d▸e),λd=>q 2 h.x2 (d▸e)⟩)
 have cD:=M.OZ (C.OZ bz) (λe=>ω)
 have fR:=congrArg List.length H
 rw[Pe] at fR
 refine Ph O<|qV (S9 (v:= .agg #[I ((Pa g v).length:Int),I (PT g E v:Int)]) O O)<|qV (S9 (v:=I 0) O O)<|Pb O O (S5 (cs:=[_,_]) SH O) ?_
 rintro _ w5⟨Q,rfl,jb,aS,aZ⟩
 refine Po O (Qh (news:=[I ((Pa g v).length:Int),I (PT g E v:Int)]) SH O O O O aZ ξ) ?_
 rintro K⟨o,aG⟩
 replace o:Pm K Q [I ((Pa g v).length:Int),I (PT g E v:Int)] 303:=o
 have J:Ext L K:=aS.It aG (λj e=>ω)
 have h6:=h4.ext J
 have Z:Ul K b s (a+(PD (R4 p.list (Pa g v).length (PT g E v))).length):=⟨J.OZ A.1,A.2⟩
 refine Pq O<|PM.qb (e:=[(4,_),(5,_),(6,_),(7,_),(8,_),(9,_),(10,_),(11,_)]) ?_
 refine Qi O<|R5 O<|Qb<|PB O<|Px Zc O (UF Z) ?_
 rintro _ K⟨rfl,rfl⟩
 refine Ph O<|R8 O<|Qb<|Ql O<|QC O<|qN O<|qV (PO (news:=[I ((Pa g v).length:Int),I (PT g E v:Int)]) z2r O SH O (Pm.cells (n:=2) o O) O)<|PB O ?_
 have bR:=J.OZ cD
 refine Po O (Qh (news:=[I ((Pa g v).length:Int),I (PT g E v:Int)]) SH O O O O bR ξ) ?_
 rintro P⟨T,N⟩
 replace T:Pm P G [I ((Pa g v).length:Int),I (PT g E v:Int)] 303:=T
 have h7:=(h6.own N (λj e=>⟨.inl (.inr e),λd=>D k h.xk (d▸e),λd=>D x h.xx (d▸e),λd=>D 1 h.x1 (d▸e),λd=>D 2 h.x2 (d▸e)⟩)).less (X:=λj=>X j\/j=b) (λj l=>l.imp .inl id) (.inl h.xk) (.inl h.xx) (.inl h.x1) (.inl h.x2)
 have LM:Ul P b s (a+(PD (R4 p.list (Pa g v).length (PT g E v))).length):=⟨N.OZ Z.1 ω,Z.2⟩
 refine SO O<|QS O<|PK func185 (.cell z2r O SH O (Pm.cells (n:=2) T (news:=[_,_]) O) O (.tmp O (.tmp O (.tmp O .nil)))) (⟨_,O,b,a+(PD (R4 p.list (Pa g v).length (PT g E v))).length,s,rest,?_,LM,V,by have:=B.size;omega,h7,?_⟩)
 ·rw[show a+(PD (R4 p.list (Pa g v).length (PT g E v))).length+(PD (U7 p g E v)).length=e by omega]
  rfl
 ·have p8:Kp (λj=>¬X j) w L:=((B.kp.trans (z.Pk λj e d=>e (.inl d))).trans C.kp).It M (λj e=> .inl (by have:=B.size;omega));exact(p8.trans J.kp).It N (λj e=> .inl ω)
end
section
variable {u:Value}{p:QR}{R:Src t u (Ym p g E)}{x:Nat}{Y S:Nat->Prop}
abbrev z60 (w:World)(vv:Value)(l:List Nat):Prop:=Sl w vv 42 1 l.length (l.map PX)
def Un (E:List (Nat×Nat))(v:Nat):Nat:=((E[v]?).getD (0,0)).2
structure TdM (R:Src t u (Ym p g E))(k x gb pb fb:Nat)(X:Nat->Prop)(w:World):Prop where
 gw:Vs R k x X w
 bg:Pm w gb [ptr k 0] 28
 bp:Pm w pb [I (p.PE:Int),I (p.chain:Int),I (p.interval:Int),I (p.zeta:Int),I (p.most:Int)] 93
 bf:Pm w fb [.func (.func 184) #[] #[ptr gb 0,ptr pb 0,ptr fb 0]] 301
 xg:X gb
 xp:X pb
 xf:X fb
theorem TdM.step (h:TdM R k x gb pb fb X w)(n:Kp S w w')(l:∀j,S j->X j->False)(q:Vs R k x Y w')(d:∀j,X j->Y j):TdM R k x gb pb fb Y w':=
 ⟨q,n.OZ h.bg (λe=>l _ e h.xg),n.OZ h.bp (λe=>l _ e h.xp),n.OZ h.bf (λe=>l _ e h.xf),d _ h.xg,d _ h.xp,d _ h.xf⟩
def XR (R:Src t u (Ym p g E))(k x gb pb fb v behind:Nat)(X:Nat->Prop)(w:World):Prop:=
 PN prog 184 [I (v:Int),I (behind:Int),ptr gb 0,ptr pb 0,ptr fb 0] w λr w'=>∃d,r= .tuple #[d,I 0]/\z60 w' d (Pa g v)/\(∀b,d.ownBlock=some b->w.heap.size<=b)/\Vs R k x (λj=>X j\/d.ownBlock=some j) w'/\Kp (λj=>¬X j) w w'
def Tq.back (h:Tq p g E){v:Nat}(M:v<g.length)(d:0<PT g E v):PT g E v<=v/\Un E v=Un E (v-PT g E v)+1/\R7 g v (PT g E v)=Pa g (v-PT g E v)/\0<(Pa g (v-PT g E v)).length/\(Pa g (v-PT g E v)).length<=p.most/\(Pa g v).length<=p.most/\Pa g v≠[]/\Un E v<=p.chain:=by
 have n:Pa g v≠[]:=λe=>by unfold PT at d;rw[if_pos e] at d;omega
 have C:PT g E v=((E[v]?).getD (0,0)).1:=by unfold PT;rw[if_neg n]
 rcases h.ent M with e|⟨G,I,q,l,O,r,B,J,K⟩
 ·rw[C,e] at d;cases d
 ·rw[<-C] at G I q r B;have N:=of_decide_eq_true K;have D:Pa g (v-PT g E v)=l:=by unfold Pa;rw[r];rfl
  refine⟨q,?_,?_,by rw[D];omega,by rw[D];omega,ω,n,?_⟩
  ·unfold Un;rw[B];exact J
  ·unfold R7;rw[if_neg ω];rfl
  ·show((E[v]?).getD (0,0)).2<=_;omega
theorem zac (d:Tq p g E)(jk:g.length<50){v:Nat}(N:v<g.length){rest:List Bool}(q:Ul w b s a)(M:(PA s).drop a=PD (U7 p g E v)++rest)(i:Pm w 1 (SI .gamma) 314)(k:Pm w 2 (SI .unary) 314)(Z:¬1=b)(f:¬2=b)
  {vb:Value} (U:PT g E v=0->vb= .slice none 0 0) (L:0<PT g E v->z60 w vb (Pa g (v-PT g E v))) (F:∀j,vb.ownBlock=some j->j≠b):
  PN prog 186 [ptr b 0,I (v:Int),I (g.length:Int),.agg #[I ((Pa g v).length:Int),I (PT g E v:Int)],vb,lpV p.list] w λr w'=>∃Q,r= .tuple #[Q,I 0]/\z60 w' Q (Pa g v)/\(∀j,Q.ownBlock=some j->w.heap.size<=j)/\Ul w' b s (a+(PD (U7 p g E v)).length)/\Kp (λj=>j=b) w w':=by
 obtain⟨J,dr,o⟩:=d.suc N
 have K:=d.z3z N
 by_cases h:Pa g v=[]
 ·have A:PT g E v=0:=by unfold PT;rw[if_pos h]
  have D:U7 p g E v=[]:=by unfold U7;rw[if_pos h]
  rw[A,U A,D,h];refine(z4l p.list d.R1.1 v ω g.length ω).mono λr w' V=>?_;obtain⟨rfl,m⟩:=V;exact⟨_,O,Sl.nil _ _ _,λj e=>(by cases e),⟨m.OZ q.1,q.2⟩,m.kp⟩
 ·have D:U7 p g E v=UZ p.list v (Pa g v) (R7 g v (PT g E v)) (PT g E v):=by unfold U7;rw[if_neg h]
  have B:Q4 (R7 g v (PT g E v))/\(R7 g v (PT g E v)).length<=60:=by
   have hn:=d.gr.n;rcases XJ g v (PT g E v) with e| e
   ·rw[e];exact⟨⟨y1p,λy W=>(by cases W)⟩,ξ⟩
   ·exact⟨d.gr.ok _ e,by have:=d.gr.len e;omega⟩
  have JM:=z06 d.R1.1 (x:=v) ω J B.1 K.1 ω B.2;rw[D] at M⊢;rcases y0y (PT g E v) with l|l
  ·have C:R7 g v (PT g E v)=[]:=by unfold R7;rw[if_pos l]
   rw[U l];have:=z0O q p.list d.R1.1 v ω g.length ω (ra:=none) (rc:=0) (Pa g v) (R7 g v (PT g E v)) J h ω o B.1 (PT g E v) K.1 (λ_=>C) i k Z f (λw2 T=>by rw[C];exact(Sl.nil _ 42 1).rd) (by rw[C];exact y02 _) ω rest M;rw[C] at this⊢;exact this
  ·obtain⟨q1,q2,z,q4,q5,q6,q7,q8⟩:=d.back N l;have G:=L l;rw[<-z] at G
   obtain⟨H,gc,rfl,X⟩:∃a c,vb= .slice a (R7 g v (PT g E v)).length c/\(R7 g v (PT g E v)).length<=c:=by
    rcases G.shape with⟨-,e⟩|⟨b,c,e,P⟩
    ·rw[z] at e;omega
    ·exact⟨_,c,e,P⟩
   exact z0O q p.list d.R1.1 v ω g.length ω (ra:=H) (rc:=gc) (Pa g v) (R7 g v (PT g E v)) J h ω o B.1 (PT g E v) K.1 (λe=>ω) i k Z f (λw2 T=>(G.kp T λj e=>F j e).rd) X ω rest M
end
section
variable {u:Value}{p:QR}{R:Src t u (Ym p g E)}{x:Nat}{Y:Nat->Prop}
theorem z0J (jk:g.length<50){v behind:Nat}(U:v<g.length)(BQ:behind+Un E v<=p.chain)(ht:TdM R k x gb pb fb X w)
  (ih:0<PT g E v->∀(X':Nat->Prop)(w':World),TdM R k x gb pb fb X' w'->XR R k x gb pb fb (v-PT g E v) (behind+1) X' w'):XR R k x gb pb fb v behind X w:=by
 have M:=ht.gw.ok
 have hn:=M.gr.n
 have Ow:p.chain<=1000000:=by have:=M.R1.2.1;omega
 obtain⟨dU,dr,pd⟩:=M.suc U
 have g8:=M.z3z U
 have yD:=ht.bg
 unfold XR
 refine py (e:=[(0,_),(1,_),(2,_),(3,_),(4,_)]) func184 O ntmps184 O O<|qN O<|SO O<|Ro O<|qV (Pl U28 O O yD O)<|Ph O<|Px zhx O (z7j ht.gw U) ?_
 rintro _ w1⟨b,a,s,rest,rfl,z,ub,bP,h1,aK⟩
 have a1:=z.1.lt
 have B:∀j,X j->j≠b:=λj l e=>by have:=ht.gw.lt j l;omega
 refine Ph O<|qV (S9 (v:= .agg #[I ((Pa g v).length:Int),I (PT g E v:Int)]) O O)<|qV (S9 (v:=ptr b 0) O O)<|qV (S9 (v:=I ((a+(PD (U7 p g E v)).length:Nat):Int)) O O)<|qV (S9 (v:=I 0) O O)<|Pb O O (S5 (cs:=[_,_]) SH O) ?_
 rintro _ w2⟨C,rfl,mO,ae,cB⟩
 refine Po O (Qh (news:=[I ((Pa g v).length:Int),I (PT g E v:Int)]) SH O O O O cB ξ) ?_
 rintro D⟨K,aq⟩
 replace K:Pm D C [I ((Pa g v).length:Int),I (PT g E v:Int)] 303:=K
 have f:Ext w1 D:=ae.It aq (λj e=>ω)
 have a0:=K.lt
 have a3:=f.size
 have N:Vs R k x (λj=>(X j\/j=b)\/j=C) D:=h1.grow f (λj l=>l.imp id λe=>ω) (λj l=> .inl l)
 have m:Kp (λj=>¬X j) w D:=aK.trans f.kp
 have Z:TdM R k x gb pb fb (λj=>(X j\/j=b)\/j=C) D:=ht.step m (λj e d=>e d) N (λj l=> .inl (.inl l))
 have fT:Ul D b s a:=⟨f.OZ z.1,z.2⟩
 refine SO O<|QS O<|Qi O<|R5 O<|QC O<|Re O<|OY<|qN O<|Pr T0 O<|qV (Pl U3 O O K O)<|R8 O<|P4<|PM.qb (e:=[(0,_),(1,_),(2,_),(3,_),(4,_),(7,_),(8,_),(9,_),(10,_),(11,_),(12,_),(13,_),(28,_)]) ?_
 refine Qf (λd w'=>∃vb,d=[(0,I (v:Int)),(2,ptr gb 0),(3,ptr pb 0),(9,ptr C 0),(10,ptr b 0),(11,I ((a+(PD (U7 p g E v)).length:Nat):Int)),(13,vb)]/\Vs R k x (λj=>(X j\/j=b)\/j=C) w'/\Kp (λj=>¬((X j\/j=b)\/j=C)) D w'/\(PT g E v=0->vb= .slice none 0 0)/\(0<PT g E v->z60 w' vb (Pa g (v-PT g E v)))/\(∀j,vb.ownBlock=some j->j≠b)) ?bI<|λbI=>?cZ
 case bI=>
  rintro d Q⟨vb,rfl,T,J,wj,fL,EW⟩;have L:TdM R k x gb pb fb (λj=>(X j\/j=b)\/j=C) Q:=Z.step J (λj e d=>e d) T (λj l=>l);have mm:=J.OZ K (λe=>e (.inr O));have ep:Ul Q b s a:=⟨J.OZ fT.1 (λe=>e (.inl (.inr O))),fT.2⟩;have EX:=L.bg;have y:=L.bp;have EY:=L.gw.cells;have q:=Ext.Pz Q;refine OY ?_;have F:gb≠b:=B gb ht.xg;have nk:k≠b:=B k ht.gw.xk;have H:pb≠b:=B pb ht.xp;have n9:C≠b:=ω
  refine RI (λw'=>Kp (λj=>j=b) Q w') O<|Pu 0 O O q.kp<|Pu 1 O O q.kp<|qT 2 O (λ_ h=>(Pl U28 O O (h.OZ EX F) O)) q.kp<|P7 3 O (QL O) q.kp<|P7 4 O (PU Wj O) q.kp<|P7 5 O (PU UH O) q.kp<|qT 6 O (λ_ h=>(Pl U3 O O (h.OZ EY nk) O)) q.kp<|Pu 8 O O q.kp<|qT 7 O (λ_ hS=>PO (news:=[I ((Pa g v).length:Int),I (PT g E v:Int)]) z2r O SH O (Pm.cells (n:=2) (hS.OZ mm n9) O) O) q.kp<|qT 9 O (λ_ h=>PO (news:=VW p) Ys O S8 O (Pm.cells (n:=5) (h.OZ y H) O) O) q.kp<|Tl 10 O z1Y O (Tt p Q.drew) ?_;rintro _ w5⟨rfl,V⟩;refine⟨(q.trans V).kp,?_⟩;have r:=q.trans V;have A:=T.ext r;have ie:Ul w5 b s a:=⟨r.OZ ep.1,ep.2⟩;have EZ:¬1=b:=λe=>B 1 ht.gw.x1 e;have F0:¬2=b:=λe=>B 2 ht.gw.x2 e;refine Tl 11 O zjY O (zac M jk U ie ub A.gam A.una EZ F0 wj (λe=>(fL e).ext r) EW) ?_;rintro _ w6⟨i,rfl,g9,nh,eX,G⟩;refine⟨r.kp.trans G,?_⟩;refine Pu 12 O O (r.kp.trans G)<|P7 13 O (S9 (v:=i) O O) (r.kp.trans G)<|P7 15 O (S6 O) (r.kp.trans G)<|P7 14 O (S9 (v:=I 0) O O) (r.kp.trans G)<|P7 16 O (S6 O) (r.kp.trans G)<|qE<|Qi O<|R5 O<|PB O<|Px Zc O (UF eX) ?_;rintro _ w6⟨rfl,rfl⟩;refine Ph O<|R5 O<|Qb<|Ql O<|P4<|PM.qb (e:=[(14,_),(92,_)]) ?_;refine Tj O<|PL O<|QS O<|P3 func184 O ?_;have a4:=J.size;have a5:=r.size;have a2:=m.size;have h6:=(A.step (Y:=λj=>((X j\/j=b)\/j=C)\/i.ownBlock=some j) G (λj e=>⟨.inl (.inr e),λd=>B k ht.gw.xk (d▸e),λd=>B x ht.gw.xx (d▸e),λd=>B 1 ht.gw.x1 (d▸e),λd=>B 2 ht.gw.x2 (d▸e)⟩) (λj l=>l.imp id λe=>⟨nh j e,g9.lt e⟩) (λj l=> .inl l)).less (X:=λj=>X j\/i.ownBlock=some j) (λj l=>l.imp (λe=> .inl (.inl e)) id) (.inl ht.gw.xk) (.inl ht.gw.xx) (.inl ht.gw.x1) (.inl ht.gw.x2);exact⟨_,O,i,O,g9,λj e=>by have:=nh j e;omega,h6,((m.trans (J.Pk λj e d=>e (.inl (.inl d)))).trans r.kp).trans (G.Pk λj e d=>B j d e)⟩
 case cZ=>
  refine Pn O (λh0=>?_)<|λh0=>?_
  ·have wP:0<PT g E v:=ω
   obtain⟨q1,q2,q3,q4,q5,q6,q7,q8⟩:=M.back U wP;have o9:=Z.bp;have F9:=Z.bf;refine OY<|qN O<|Pr T0 O<|qV (Pl U3 O O K O)<|Ph O<|R8 O<|Qb<|PB O<|Pr ZO O<|qV (Pl U3 O O o9 O)<|Uj O<|Qb<|Ql O<|Ph O ?_;refine Pr TR O<|qV (Pl U3 O O K O)<|Pr Ua O<|qV (Pl U3 O O o9 O)<|R8 O<|Qb<|Ql O<|P4<|PM.qb (e:=[(0,_),(1,_),(2,_),(3,_),(4,_),(7,_),(8,_),(9,_),(10,_),(11,_),(12,_),(13,_),(45,_)]) ?_;refine Tj O<|OY<|qN O<|qV (Pl zhV O O F9 O)<|Ph O<|Pr T0 O<|qV (Pl U3 O O K O)<|RR O ?_;rw[show(v:Int)-(PT g E v:Int)=((v-PT g E v:Nat):Int) by omega];refine Ph O<|Qj O ?_;rw[show(behind:Int)+1=((behind+1:Nat):Int) by omega];have P:=ih wP _ D Z;unfold XR at P;refine Rj O O (SE zfT O O) (P) ?_;rintro _ Q⟨vb,rfl,W,pY,T,J⟩
   obtain⟨vo,vc,rfl,BD⟩:∃o c,vb= .slice (some ⟨o,0,none⟩) (Pa g (v-PT g E v)).length c/\D.heap.size<=o:=by
    rcases W.shape with⟨-,e⟩|⟨o,c,e,hc⟩
    ·omega
    ·exact⟨o,c,e,pY o (by rw[e];rfl)⟩
   refine Ph O<|qV (S9 (v:= .slice (some ⟨vo,0,none⟩) (Pa g (v-PT g E v)).length vc) O O)<|qV (S9 (v:=I 0) O O)<|SO O<|Rq O<|R5 O ?_;have y:=(Z.step J (λj e d=>e d) T (λj l=> .inl l)).bp;refine P4<|PM.qb (e:=[(0,_),(2,_),(3,_),(7,_),(8,_),(9,_),(10,_),(11,_),(12,_),(13,_),(58,_)]) ?_;refine Tj O<|PL O<|RQ PS O<|Rx O<|Qb<|PB O<|RQ PS O<|Pr Ua O<|qV (Pl U3 O O y O)<|R8 O<|Qb<|Ql O<|QC O ?_;exact(bI _ _ ⟨_,O,T.less (λj l=> .inl l) N.xk N.xx N.x1 N.x2,J,λe=>ω,λ_=>W,λj e=>by have d:vo=j:=RZ e;omega⟩).qb
  ·refine P5 ?_;exact(bI _ _ ⟨_,O,N,Kp.refl _ _,λ_=>rfl,λe=>ω,λj e=>by cases e⟩).qb
theorem z1J (h:g.length<50):∀(d:Nat) {v behind:Nat} {X:Nat->Prop} {w:World},Un E v<=d->v<g.length->behind+Un E v<=p.chain->TdM R k x gb pb fb X w->XR R k x gb pb fb v behind X w
 | 0, v, behind, X, w, hd, hv, BQ, ht => z0J h hv BQ ht λe => by
   obtain⟨n,q,-⟩:=ht.gw.ok.back hv e
   omega
 | d + 1, v, behind, X, w, hd, hv, BQ, ht => z0J h hv BQ ht λe X' w' l => by
   obtain⟨n,q,-⟩:=ht.gw.ok.back hv e;exact z1J h d ω ω ω l
def Tq.zc4 (h:Tq p g E){v:Nat}(n:v<g.length):Un E v<=p.chain:=by
 rcases h.ent n with e|⟨B,C,D,l,r,G,I,J,d⟩
 ·unfold Un;rw[e];exact y00 _
 ·have q:=of_decide_eq_true d;unfold Un;omega
theorem z7z (jk:g.length<50){v:Nat}(G:v<g.length)(h:Vs R k x X w):PN prog 153 [ptr k 0,I (v:Int)] w λr w'=>∃d,r= .tuple #[d,I 0]/\z60 w' d (Pa g v)/\(∀b,d.ownBlock=some b->w.heap.size<=b)/\Vs R k x (λj=>X j\/d.ownBlock=some j) w'/\Kp (λj=>¬X j) w w':=by
 refine py (e:=[(0,_),(1,_)]) func153 O ntmps153 O O<|qN O<|Pb O O (RP O (cs:=[ptr k 0]) O) ?_
 rintro _ w1⟨gb,rfl,LP,C,f⟩
 refine QS O<|OY<|qN O<|qV (Pl U28 O O f O)<|Ph O<|Pb O O (YD (cs:=[_]) (zs:=[Value.int .i64 0]) Rp Qe O Pd O O O ψ) ?_
 rintro _ w2⟨vb,rfl,⟨fW,q,Ox⟩,s⟩
 have Z:=(h.ext C).ext q
 have K:=q.OZ f
 have o:=Z.cells
 have z1:=C.size
 have z2:=q.size
 refine Px ziI O (z80 Z G s.rd) ?_
 rintro _ w2⟨rfl,rfl⟩
 refine Rq O<|R5 O<|QC O<|qN O<|qV (Pl U28 O O K O)<|PQ O<|Pr Wj O<|Pr Z9 O<|qV (PO (news:=VW p) Ys O S8 O (Pm.cells (i:=2) (n:=5) o O) O)<|Pb O O (S5 (cs:=[_,_,_,_,_]) S8 O) ?_
 rintro _ w3⟨pb,rfl,rM,Q,rR⟩
 refine Po O (Qh (news:=VW p) S8 O O O O rR ξ) ?_
 rintro M⟨B,A⟩
 replace B:Pm M pb [I (p.PE:Int),I (p.chain:Int),I (p.interval:Int),I (p.zeta:Int),I (p.most:Int)] 93:=B
 have T:Ext w2 M:=Q.It A (λj e=>ω)
 refine qM O<|Pb O O (S5 (cs:=[_]) zeQ O) ?_
 rintro _ w5⟨fb,rfl,Oy,z,H⟩
 refine qM O<|qV (ymf (first:=[]) (caps:=[.tmp 2,.tmp 7,.tmp 8]) O O)<|Po O (QZ zeQ O O O H ξ) ?_
 rintro N⟨m,y⟩
 have D:Ext M N:=z.It y (λj e=>ω)
 have J:=T.trans D
 have z6:=J.size
 have lg:=K.lt
 have lp:=B.lt
 have lf:=m.lt
 have a0:=T.size
 have z3:=Q.size
 have a1:=D.size
 have a:=(C.trans q).trans J
 have V:Vs R k x (λj=>X j\/j=gb\/j=pb\/j=fb) N:=h.grow a (λj l=>l.imp id λe=>ω) (λj l=> .inl l)
 have c:TdM R k x gb pb fb (λj=>X j\/j=gb\/j=pb\/j=fb) N:=⟨V,J.OZ K,D.OZ B,m,.inr (.inl O),.inr (.inr (.inl O)),.inr (.inr (.inr O))⟩
 have zN:=c.bf
 have U:=z1J jk _ (behind:=0) (y02 _) G (by have:=h.ok.zc4 G;omega) c
 unfold XR at U
 refine qM O<|qV (Pl zhV O O zN O)<|Ph O<|Rj O O (SE zfT O O) U ?_
 rintro _ w7⟨d,rfl,P,oW,W,F⟩
 refine qV (S9 (v:=d) O O)<|qV (S9 (v:=I 0) O O)<|QS O<|PM.qb (e:=[(4,_),(5,_)]) ?_
 refine P3 func153 O ?_
 exact⟨_,O,d,O,P,λj e=>by have:=oW j e;omega,W.less (λj l=>l.imp .inl id) (.inl h.xk) (.inl h.xx) (.inl h.x1) (.inl h.x2),a.kp.trans (F.Pk λj e L=>e (.inl L))⟩
end
def stV (b:Bool):Value:= .int .u8 (if b then 1 else 0)
structure Ye (w:World)(m gi:Nat)(L:List Bool):Prop where
 OZ:Pm w m [I 2,.slice (some ⟨gi,0,none⟩) L.length L.length,.slice none 0 0,.bool false] 135
 sl:Sl w (.slice (some ⟨gi,0,none⟩) L.length L.length) 185 1 L.length (L.map stV)
 ne:gi≠m
 n:L.length<=4096
 n2:2<=L.length
section
variable {S:Nat->Prop}
def Ye.kp (h:Ye w m gi L)(d:Kp S w w')(l:¬S m)(q:¬S gi):Ye w' m gi L:=
 ⟨d.OZ h.OZ l,h.sl.kp d λg e=>by cases e;exact q,h.ne,h.n,h.n2⟩
theorem Ye.ext (h:Ye w m gi L)(d:Ext w w'):Ye w' m gi L:=h.kp (S:=λ_=>False) d id id
def Ye.ltm (h:Ye w m gi L):m<w.heap.size:=h.OZ.lt
def Ye.ltg (h:Ye w m gi L):gi<w.heap.size:=h.sl.lt O
theorem Ye.get (h:Ye w m gi L){b:Bool}(hi:L[i]? =some b):w.cell? ⟨gi,0+i*1,none⟩=some (stV b):=
 Qs h.sl.rd (by rw[y0i,hi];rfl)
theorem z9C (B:Nat)(hB:2<=B/\B<=4096)(w:World):PN prog 31 [I 2,I (B:Int)] w λv w'=>∃m gi,v= .tuple #[ptr m 0,I 0]/\Ye w' m gi (List.replicate B false)/\w.heap.size<=m/\w.heap.size<=gi/\Ext w w':=by
 refine py (e:=[(0,_),(1,_)]) func31 O ntmps31 O O<|qN O<|QS O<|Qi O<|QY O<|Qb<|PB O<|Ph O<|R8 O<|Qb<|Ql O<|PB O<|R8 O<|Qb ?_
 refine Ql O<|QC O<|QG O<|Pb O O (pmk (c:=B) (n:=B) W4 z3p O O O (y02 _) ω (by simp only[maxLen];omega)) ?_
 rintro _ w1⟨gi,rfl,⟨C,d,r⟩,l⟩
 refine qV (T3 (cs:=[_,_,_,_]) zki O zk0 O O)<|Pb O O (RP O (cs:=[I 2,.slice (some ⟨gi,0,none⟩) B B,.slice none 0 0,.bool false]) O) ?_
 rintro _ w2⟨m,rfl,u,h,q⟩
 refine QS O<|P3 func31 O ?_
 have:=d.size
 have x:=l.lt (g:=gi) O
 refine⟨_,O,m,gi,O,⟨by rw[y08];exact q,?_,ω,by rw[y08];omega,by rw[y08];omega⟩,ω,ω,d.trans h⟩
 rw[y08,List.map_replicate]
 exact l.ext h
def Qr (L:List Bool)(s n:Nat)(b:Bool):List Bool:=L.take s++(List.replicate n b++L.drop (s+n))
theorem QE {s n:Nat}{b:Bool}(h:s+n<=L.length):(Qr L s n b).length=L.length:=by
 unfold Qr
 rw[Pe,Pe,y0d,y08,y07];omega
theorem zaE (L:List Bool)(s:Nat)(b:Bool):Qr L s 0 b=L:=by simp[Qr]
theorem zaM {s n:Nat}{b:Bool}(h:s+n<L.length):(Qr L s n b).set (s+n) b=Qr L s (n+1) b:=by
 have d:(L.take s++List.replicate n b).length=s+n:=by rw[Pe,y0d,y08];omega
 unfold Qr
 rw[<-y05,y1F _ _ ω,d,y1b,y2r h,y2i,List.replicate_succ',y05,y05]
 rfl
theorem z2R (h:Ye w m gi L)(s n:Nat)(b:Bool)(Y:s+n<=L.length):PN prog 136 [ptr m 0,.agg #[I (s:Int),I (n:Int)],stV b] w λv w'=>v= .tuple #[]/\Ye w' m gi (Qr L s n b)/\Kp (λk=>k=gi) w w':=by
 have U:=h.n
 refine py (e:=[(0,_),(1,_),(2,_)]) func136 O ntmps136 O O<|qN O<|Pb O O (RP O (cs:=[I (s:Int),I (n:Int)]) O) ?_
 rintro _ w1⟨G,rfl,T,x,l⟩
 have a:=h.ltg
 have Z:=l.lt
 have M:=h.ext x
 refine qM O<|Pr RB O<|qV (Pl U3 O O l O)<|Ph O<|P4<|P6<|RX (α:=Nat) (0) (λi=>[(0,ptr m 0),(2,stV b),(4,ptr G 0),(8,I (n:Int)),(9,I (i:Int))]) (λi w'=>Ye w' m gi (Qr L s i b)/\Kp (λk=>k=gi) w1 w'/\i<=n) (λi=>n-i) ?hI ?hround
 case hI=>exact⟨by rw[zaE];exact M,Kp.refl _ _,y00 _⟩
 case hround=>
  rintro i w2⟨d,q,hi⟩ Q
  try dsimp only
  refine qN O<|QY O<|P4<|OY<|Pn O (λK=>?_)<|λK=>?_
  ·have u:i<n:=ω
   have r:=QE (L:=L) (s:=s) (n:=i) (b:=b) ω;have B:=d.OZ;have J:=q.OZ l ω;have hg:=Ext.Pz w2;refine P5 (R0 (PL O (Pq O (PC [10] (λw'=>Ext w2 w') Pd O (Qm 0 O O hg (PH 1 O (QL O) hg (PH 2 O (PU VL O) hg (qL 3 O (λ_ h=>(Pl W4 O O (h.OZ B) O)) hg (PH 4 O (PU Rs O) hg (qL 5 O (λ_ h=>(Pl U3 O O (h.OZ J) O)) hg (Qm 6 O O hg (PH 7 O (Vu O O ω) hg (Qm 8 O O hg ?_)))))))))))));refine PH 9 O (Qc W4 z3p O O ω) hg (TV [10] (qO 10 (Q0 (i:=10) O O (Sf z3p O O O (d.ext hg).sl (by rw[y0k,r];omega)) ?_)));rintro R⟨D,C⟩;refine⟨trivial,?_⟩
   have N:Ye R m gi (Qr L s (i+1) b):=by
    refine⟨?_,?_,d.ne,by rw[QE ω];exact h.n,by rw[QE ω];exact h.n2⟩
    ·rw[QE ω,<-r];exact C.OZ (hg.OZ B) (λe=>d.ne e.symm)
    ·rw[show 0+(s+i)*1=s+i by omega,<-y2N,zaM ω] at D;rw[QE ω,<-r];exact D
   refine qE<|An<|Pc O<|Qj O<|Ph O<|P4 ?_;exact(Q (i+1) _ ⟨N,q.trans (hg.kp.trans C),ω⟩ ω).qb
  ·have u:i=n:=ω
   subst u;refine Pf O<|Qu func136 O ?_;exact⟨_,O,O,d,x.kp.trans q⟩
end
structure Pre (L:List Bool)(a:Nat):Prop where
 a2:2<=a
 le:a<=L.length
 tk:∀i,2<=i->i<a->L[i]? =some true
 fr:∀i,a<=i->i<L.length->L[i]? =some false
section
variable {S:Nat->Prop}
theorem Zj {l x:Nat}(Y:Ye w m gi L)(Z:Pre L a)(ha:a<L.length)(F:Pm w x [ptr m 0] 66)(J:World->Prop)(hJ:∀w w',J w->Ext w w'->J w')
  (hround:∀w',Ext w w'->z2a prog l [.agg #[I (a:Int),I ((L.length-a:Nat):Int)]] w' λv r=>(v= .bool true/\J r/\Pm r x [ptr m 0] 66/\Ye r m gi L)\/(v= .bool false/\J r)):
  PN prog 88 [.func (.yield l) #[] #[],ptr x 0] w λv w'=>v= .tuple #[]/\J w':=by
 have hn:=Y.n
 have tI:=Z.a2
 have hB:=Y.OZ
 refine py (e:=[(0,_),(1,_)]) func88 O ntmps88 O O<|qN O<|qV (Pl U66 O O F O)<|PQ O<|Pr z8A O<|qV (Pl U3 O O hB O)<|Pq O<|P6<|RX (α:=Nat) (2) (λi=>[(0,.func (.yield l) #[] #[]),(1,ptr x 0),(3,I (i:Int))]) (λi w'=>Pm w' x [ptr m 0] 66/\Ye w' m gi L/\((2<=i/\i<=a/\Ext w w')\/(i=L.length+1/\J w'))) (λi=>L.length+1-i) ?hI ?hround
 case hI=>exact⟨F,Y,.inl ⟨y02 _,tI,Ext.refl _⟩⟩
 case hround=>
  rintro i w1⟨o,f,y⟩ A;have X:=f.OZ
  try dsimp only
  refine Qi O<|qV (Pl U66 O O o O)<|PQ O<|Pr VL O<|qV (Pl W4 O O X O)<|RQ W4 O<|QY O<|P4<|Pn O (λh0=>?_)<|λh0=>?_
  ·have uA : 2 <= i /\ i <= a /\ Ext w w1 := by
    rcases y with h| h
    ·exact h
    ·omega
   obtain⟨dw,Oz,s⟩:=uA;refine P5<|R0<|PL O<|qV (T3 (cs:=[_,_]) Rw O zjr O O)<|Pb O O (S5 (cs:=[_,_]) Rw O) ?_;rintro _ w2⟨M,rfl,g7,Q,W⟩;refine Po O (Qh (news:=[I (i:Int),I 0]) Rw O O O O W ξ) ?_;rintro p⟨B,aq⟩;replace B:Pm p M [I (i:Int),I 0] 124:=B;have K:Ext w1 p:=Q.It aq (λj e=>ω);have g:=K.OZ o;have E:=f.ext K;have T:=E.OZ;refine P4<|R0<|RX (α:=Nat) (i) (λj=>[(0,.func (.yield l) #[] #[]),(1,ptr x 0),(3,I (j:Int)),(4,ptr M 0)]) (λj w'=>w'=p/\i<=j/\j<=L.length/\(i<j->i=a)) (λj=>L.length-j) ?hI ?hround
   case hI=>exact⟨O,y02 _,ω,λh=>absurd h ω⟩
   case hround =>
    rintro j w4⟨rfl,gW,OA,N⟩ c
    try dsimp only
    rcases y0a j L.length with U|U
    ·obtain⟨b,D⟩:∃b,L[j]? =some b:=⟨_,y03 U⟩;have t:=E.get D;refine Qi O<|qV (Pl U66 O O g O)<|PQ O<|Pr VL O<|qV (Pl W4 O O T O)<|RQ W4 O<|QY O<|RO<|Ph O<|qV (Pl U66 O O g O)<|PQ O<|Pr VL O<|qV (Pl W4 O O T O)<|Ph O ?_;refine qV (Qc W4 z3p O O ω) ?_
     cases b with
     | true =>
       refine qV (PG (v:= .int .u8 1) zci O O t) ?_
       have LR:i<a:=by
        rcases y0a i a with h| h
        ·exact h
        ·have:=Z.fr j ω U;rw[this] at D;cases D
       have s6:j=i:=by
        rcases y0a i j with h| h
        ·have:=N h;omega
        ·omega
       subst s6;refine Rx O (Qb (Rr O (P4 (P9 O (Pf O (PL O (Pr Rs O (qV (Pl U3 O O B O) (RR O (Pr RB O (Po O (QZ Qe O O O B ξ) ?_)))))))))));rintro u⟨d,R⟩;rw[show(j:Int)-(j:Int)=0 by omega] at d;replace d:Pm u M [I (j:Int),I 0] 124:=d;have C:Ext w1 u:=K.It R (λq e=>by have:=Q.size;omega);refine qM O<|Pr RB O<|qV (Pl U3 O O d O)<|R8 O<|Ph O<|QV<|QV<|Ql O<|QC O<|An<|Ra O<|Qj O<|Pq O ?_
       exact(A (j+1) u ⟨C.OZ o,f.ext C,.inl ⟨ω,ω,s.trans C⟩⟩ ω).qb
     | false =>
       refine qV (PG (v:= .int .u8 0) zci O O t)<|Rx O<|RO<|Rr O ?_
       have k:i=a:=by
        rcases y0a i a with h| h
        ·rcases y0a i j with z|z
         ·exact N z
         ·have e:j=i:=ω
          subst e;have:=Z.tk j dw h;rw[this] at D;cases D
        ·omega
       refine P4<|Pp O<|P5<|P6<|Ra O<|Qj O<|Pq O<|An ?_;exact(c (j+1) _ ⟨O,ω,ω,λ_=>k⟩ ω).qb
    ·have P:j=L.length:=ω
     subst P;have k:=N ω;subst k;refine Qi O<|qV (Pl U66 O O g O)<|PQ O<|Pr VL O<|qV (Pl W4 O O T O)<|RQ W4 O<|QY O<|Qb<|Ph O<|QV<|QV<|QV<|QV<|Ql O ?_;refine P4 (P9 O (Pf O (PL O (Pr Rs O (qV (Pl U3 O O B O) (RR O (Pr RB O (Po O (QZ Qe O O O B ξ) ?_))))))));rintro u⟨d,R⟩;rw[show(L.length:Int)-(i:Int)=((L.length-i:Nat):Int) by omega] at d;replace d:Pm u M [I (i:Int),I ((L.length-i:Nat):Int)] 124:=d;have C:Ext w1 u:=K.It R (λq e=>by have:=Q.size;omega);refine qM O<|Pr RB O<|qV (Pl U3 O O d O)<|R8 O<|RO<|PB O<|qV (PO (news:=[I (i:Int),I ((L.length-i:Nat):Int)]) VU O Rw O (Pm.cells (n:=2) d O) O)<|z7d O O (yy O O) (hround u (s.trans C)) ?_;rintro v w6 hv;rcases hv with⟨rfl,G,H,V⟩|⟨rfl,G⟩
     ·refine qV (SD O)<|Rr O<|QC O<|An<|Ra O<|Qj O<|Pq O ?_;exact(A (L.length+1) w6 ⟨H,V,.inr ⟨O,G⟩⟩ ω).qb
     ·refine qV (SD O)<|Rr O<|P4<|Pp O<|P3 func88 O ?_;exact⟨_,O,O,G⟩
  ·rcases y with⟨-,h,-⟩|⟨-,G⟩
   ·omega
   ·refine Pf O<|Qu func88 O ?_;exact⟨_,O,O,G⟩
theorem Z4 (w:World)(m:Nat):PN prog 57 [ptr m 0] w λv w'=>∃d,v= .func (.func 88) #[] #[ptr d 0]/\Pm w' d [ptr m 0] 66/\w.heap.size<=d/\Ext w w':=by
 refine py (e:=[(0,_)]) func57 O ntmps57 O O<|qN O<|Pb O O (RP O (cs:=[ptr m 0]) O) ?_
 rintro _ w1⟨d,rfl,n,h,l⟩
 refine Ro O<|qV (ymf (first:=[]) (caps:=[.tmp 1]) O O)<|Pq O<|P3 func57 O ?_
 exact⟨_,O,d,O,l,ω,h⟩
theorem z7L (h:Ye w m gi L)(hp:Pre L a)(ha:a<L.length):PN prog 25 [ptr m 0] w λv w'=>v=I ((L.length-a:Nat):Int)/\Ext w w':=by
 have hn:=h.n
 refine py (e:=[(0,_)]) func25 O ntmps25 O O<|qN O<|Ro O<|Pb O O (S5 (cs:=[_]) Qe O) ?_
 rintro _ w1⟨b3,rfl,eh,b,ao⟩
 refine Po O (QZ Qe O O O ao ξ) ?_
 rintro w2⟨G,X⟩
 replace G:Pm w2 b3 [I 0] 3:=G
 have W:Ext w w2:=b.It X (λj e=>ω)
 refine P4<|Qi O<|qV (z4x U66 O O)<|P4<|Pp O<|PL O<|Px zkA O (Z4 w2 m) ?_
 rintro _ x⟨bm,rfl,U,o7,M⟩
 have c:=W.trans M
 have f:=M.OZ G
 have o:=h.ext c
 have l3:=f.lt
 have a0:=G.lt
 have lm:=U.lt
 have a2:=h.ltm
 have a1:=h.ltg
 have z1:=b.size
 refine P4<|P6<|Tb (ps:=[9]) (p:=[]) (q:=[_]) O ziS ?_
 rintro l wl r fM cO hD F d g
 have Fe:=zcy d g
 have zl:=r.size
 refine PN.mono (Zj (o.ext r) hp ha (r.OZ U)
  (λw'=>F .ready none w'/\Pm w' b3 [I ((L.length-a:Nat):Int)] 3/\Kp (λk=>k=l\/k=b3) wl w')
  (λw w' h R=>⟨R.kp.rc (S:=λ_=>False) d h.1 id,R.OZ h.2.1,h.2.2.trans R.kp⟩) ?_) ?_
 ·intro s u;have J:=Kp.rc (S:=λ_=>False) u d g id;have dv:=u.OZ (r.OZ f);have z4:=u.size;refine Uo d J O O<|Pc O<|Pb O O (S5 (cs:=[_,_]) Rw O) ?_;rintro _ w5⟨b4,rfl,g7,V,H⟩;refine Po O (Qh (news:=[I (a:Int),I ((L.length-a:Nat):Int)]) Rw O O O O H ξ) ?_;rintro t⟨B,P⟩;replace B:Pm t b4 [I (a:Int),I ((L.length-a:Nat):Int)] 124:=B;have C:Ext s t:=V.It P (λj e=>ω);have z:=Kp.rc (S:=λ_=>False) C d J id;have a3:=C.size;have l4:=B.lt;refine P4<|run_beginRound O d z ?_;rintro w7 h7 N;have i:=N.OZ (C.OZ dv) ω;have bc:=N.OZ B ω;refine P6<|Pc O<|qV (Pl U3 O O i O)<|Pr RB O<|qV (Pl U3 O O bc O)<|Qj O ?_;rw[show(0:Int)+((L.length-a:Nat):Int)=((L.length-a:Nat):Int) by omega];refine Po O (QZ Qe O O O i ξ) ?_;rintro w8⟨ns,Y⟩;have h8:=Kp.rc Y d h7 ω;refine P4<|An<|T2 d h8 ?_;intro w9 h9 Z;have T:Kp (λk=>k=l\/k=b3) s w9:=((C.kp.trans (N.Pk λk e=> .inl e)).trans (Y.Pk λk e=> .inr e)).trans (Z.Pk λk e=> .inl e);exact .inl ⟨O,⟨h9,Z.OZ ns ω,u.kp.trans T⟩,T.OZ (u.OZ (r.OZ U)) ω,((o.ext r).ext u).kp T ω ω⟩
 ·rintro v wz⟨rfl,J,A,Q⟩;refine⟨_,_,J,ξ,λK D=>?_⟩;have zz:=Q.size;have zy:=D.size;have E:=D.OZ A ω;have qC:=D.heap (Q.heap hD ω) ω;refine An (qN O (qV (Pl U3 O O E O) (Pq O (z4o ξ (XS qC) func25 O ?_))));have z3:=M.size;have cJ:Kp (λk=>k=x.heap.size) K (T4 [.mk x.heap.size] K):=QW K x.heap.size (.deferred none);have y:Kp (λk=>k=l\/k=b3\/k=x.heap.size) x (T4 [.mk x.heap.size] K):=((r.kp.trans (Q.Pk λk e=>ω)).trans (D.Pk λk e=>ω)).trans (cJ.Pk λk e=>ω);exact⟨_,O,O,c.It y (λk e=>ω)⟩
end
section
variable {S:Nat->Prop}
theorem z50 (h:Ye w m gi L)(hp:Pre L a){n:Nat}(ci:1<=n)(pu:a+n<=L.length):PN prog 96 [ptr m 0,I (n:Int)] w λv w'=>v= .tuple #[.agg #[I (a:Int),I (n:Int)],I 0]/\Ye w' m gi (Qr L a n true)/\Kp (λk=>k=gi) w w':=by
 have hn:=h.n
 refine py (e:=[(0,_),(1,_)]) func96 O ntmps96 O O<|qN O<|Pb O O (RP O (cs:=[ptr m 0]) O) ?_
 rintro _ w1⟨b2,rfl,bU,y,z⟩
 refine Pb O O (RP O (cs:=[I (n:Int)]) O) ?_
 rintro _ w2⟨b3,rfl,eh,f,A⟩
 refine Pb O O (S5 (cs:=[_,_]) Rw O) ?_
 rintro _ w3⟨E,rfl,g7,M,t⟩
 refine Pb O O (S5 (cs:=[_]) z5N O) ?_
 rintro _ w4⟨b5,rfl,gp,D,s⟩
 have l2:=z.lt
 have l3:=A.lt
 have l4:=t.lt
 have l5:=s.lt
 have z1:=y.size
 have z2:=f.size
 have z3:=M.size
 have z4:=D.size
 have i:=D.OZ (M.OZ (f.OZ z))
 have H:=D.OZ (M.OZ A)
 have cD:=D.OZ t
 refine P4<|R0<|qN O<|qV (Pl U66 O O i O)<|qV (Qz U66 O O)<|Pq O<|P9 O<|qN O<|qV (Pl U3 O O H O)<|QY O<|Qb<|Pq O<|Tj O<|An ?_
 refine OY<|qN O<|qV (Pl U66 O O i O)<|Px zkA O (Z4 w4 m) ?_
 rintro _ w5⟨bm,rfl,W,o7,c⟩
 have F:=(((y.trans f).trans M).trans D).trans c
 have X:=h.ext F
 have lm:=W.lt
 have a1:=h.ltm
 have a0:=h.ltg
 have z5:=c.size
 refine P4<|P6<|Tb (ps:=[17]) (p:=[]) (q:=[_]) O ziS ?_
 rintro l wl B fM cO hD Rc d P
 have Fe:=zcy d P
 have zl:=B.size
 have yz:=c.trans B
 refine PN.mono (Zj (X.ext B) hp ω (B.OZ W)
  (λw'=>Rc .done (some .ret) w'/\Pm w' E [I (a:Int),I (n:Int)] 124/\Pm w' b5 [I 0] 45/\Ye w' m gi (Qr L a n true)/\Kp (λk=>k=l\/k=E\/k=b5\/k=gi) wl w')
  (λw w' h J=>⟨J.kp.rc (S:=λ_=>False) d h.1 id,J.OZ h.2.1,J.OZ h.2.2.1,h.2.2.2.1.ext J,h.2.2.2.2.trans J.kp⟩) ?_) ?_
 ·intro w6 C;have Y:=Kp.rc (S:=λ_=>False) C d P id;have z6:=C.size;refine Uo d Y O O<|Pc O<|Pb O O (S5 (cs:=[_,_]) Rw O) ?_;rintro _ w7⟨b6,rfl,oT,cm,aJ⟩;refine Po O (Qh (news:=[I (a:Int),I ((L.length-a:Nat):Int)]) Rw O O O O aJ ξ) ?_;rintro w8⟨U,aH⟩;replace U:Pm w8 b6 [I (a:Int),I ((L.length-a:Nat):Int)] 124:=U;have K:Ext w6 w8:=cm.It aH (λj e=>ω);have wQ:=Kp.rc (S:=λ_=>False) K d Y id;have z8:=K.size;have l6:=U.lt;refine P4<|run_beginRound O d wQ ?_;rintro w9 h9 r;have b:=(yz.trans C).trans K;have uD:=r.OZ (b.OZ H) ω;have uE:=r.OZ (b.OZ i) ω;have V:=r.OZ U ω;have LY:=((((X.ext B).ext C).ext K).kp r ω ω);refine P6 (qN O (Pr RB O (qV (Pl U3 O O V O) (qV (Pl U3 O O uD O) (Uj O (RO (P4 (Pp O (qN O (qV (Pl U3 O O uD O) (Pr RB O (Po O (QZ Qe O O O V ξ) ?_))))))))))));rintro o⟨Z,u⟩;replace Z:Pm o b6 [I (a:Int),I (n:Int)] 124:=Z;have zP:=u.OZ uE ω;have Fg:=LY.kp u ω ω;have il:=Kp.rc u d h9 ω;refine qM O<|qV (Pl U66 O O zP O)<|qV (PO (news:=[I (a:Int),I (n:Int)]) VU O Rw O (Pm.cells (n:=2) Z O) O)<|Px zfd O (z2R Fg a n true pu) ?_;rintro _ a2⟨rfl,Fh,G⟩;have zQ:=G.OZ Z ω;have zR:=G.OZ (u.OZ (r.OZ (b.OZ cD) ω) ω) ω;have zS:=G.OZ (u.OZ (r.OZ (b.OZ s) ω) ω) ω;have oU:=Kp.rc G d il ω;refine P4<|PM.qb (e:=[(4,_),(5,_),(6,_)]) ?_;refine qN O (qV (PO (news:=[I (a:Int),I (n:Int)]) VU O Rw O (Pm.cells (n:=2) zQ O) O) (Po O (Qh (news:=[I (a:Int),I (n:Int)]) Rw O O O O zR ξ) ?_));rintro a3⟨zT,N⟩;refine Po O (QZ z5N O O O (N.OZ zS ω) ξ) ?_;rintro a4⟨zU,T⟩;have zV:=Kp.rc T d (Kp.rc N d oU ω) ω;refine P4 ?_
  -- AT: Code.ret
  refine Wp d zV ?_;intro a5 LZ R
  exact .inr ⟨rfl,LZ,R.OZ (T.OZ zT ω) ω,R.OZ zU ω,((Fh.kp N ω ω).kp T ω ω).kp R ω ω,
   (((((((C.kp.trans K.kp).trans (r.Pk λk e=>ω)).It u (λk e=>ω)).trans (G.Pk λk e=>ω)).trans (N.Pk λk e=>ω)).trans (T.Pk λk e=>ω)).trans (R.Pk λk e=>ω))⟩
 ·rintro v wz⟨rfl,Y,Fi,Fj,M0,g⟩;refine⟨_,_,Y,ξ,λwy x=>?_⟩;have zz:=g.size;have zy:=x.size;have Fk:=x.OZ Fi ω;have Fl:=x.OZ Fj ω;have qC:=x.heap (g.heap hD ω) ω;have Q:=QW wy w5.heap.size (.deferred none);have M1:=Q.OZ Fk ω;have Fn:=Q.OZ Fl ω;refine VY ξ (XS qC) func96 (.cell VU O Rw O (Pm.cells (n:=2) M1 (news:=[_,_]) O) O (.cell1 U45 O O ((Fn).cell _) .nil)) ?_;have uF:Kp (λk=>k=gi) w (T4 [.mk w5.heap.size] wy):=((((F.kp.trans B.kp).It g (λk e=>ω)).It x (λk e=>ω)).It Q (λk e=>ω));exact⟨_,O,O,(M0.kp x ω ω).kp Q ω ω,uF⟩
end
section
theorem z9q (h:Ye w m gi L)(s n:Nat)(r:1<=n)(u:2<=s)(C:s+n<=L.length):PN prog 146 [ptr m 0,.agg #[I (s:Int),I (n:Int)]] w λv w'=>v= .bool true/\Ext w w':=by
 have B:=h.n
 refine py (e:=[(0,_),(1,_)]) func146 O ntmps146 O O<|qN O<|Pb O O (RP O (cs:=[I (s:Int),I (n:Int)]) O) ?_
 rintro _ w1⟨b3,rfl,x,q,d⟩
 have hg:=Ext.Pz w1
 have l:=(h.ext q).OZ
 refine Pq O<|OY<|RI (λw'=>Ext w1 w') O<|P7 0 O (PU RB O) hg<|qT 1 O (λ_ h=>(Pl U3 O O (h.OZ d) O)) hg<|P7 2 O (yge O O) hg<|TW<|Pu 3 O O hg<|P7 4 O (PU Rs O) hg<|qT 5 O (λ_ h=>(Pl U3 O O (h.OZ d) O)) hg<|Pu 6 O O hg<|P7 7 O (QL O) hg<|P7 8 O (PU z8A O) hg<|qT 9 O (λ_ h=>(Pl U3 O O (h.OZ l) O)) hg ?_
 refine P7 10 O (yge O O) hg<|TW<|P7 11 O (Ux O O) hg<|Pu 12 O O hg<|P7 13 O (PU Rs O) hg<|qT 14 O (λ_ h=>(Pl U3 O O (h.OZ d) O)) hg<|Pu 15 O O hg<|P7 16 O (QL O) hg<|P7 17 O (PU VL O) hg<|qT 18 O (λ_ h=>(Pl W4 O O (h.OZ l) O)) hg<|P7 19 O (T7 W4 O) hg<|P7 20 O (ZQ O O) hg<|TW<|P7 21 O (Ux O O) hg ?_
 refine Pu 22 O O hg<|P7 23 O (PU RB O) hg<|qT 24 O (λ_ h=>(Pl U3 O O (h.OZ d) O)) hg<|Pu 25 O O hg<|P7 26 O (QL O) hg<|P7 27 O (PU VL O) hg<|qT 28 O (λ_ h=>(Pl W4 O O (h.OZ l) O)) hg<|P7 29 O (T7 W4 O) hg<|P7 30 O (PU Rs O) hg<|qT 31 O (λ_ h=>(Pl U3 O O (h.OZ d) O)) hg<|P7 32 O (Yf O O ω) hg<|P7 33 O (ZG O O) hg<|TW<|P7 34 O (Ux O O) hg ?_
 refine P7 35 O (S6 O) hg<|qE<|PM.qb (e:=[(4,_)]) ?_
 refine P3 func146 O ?_
 exact⟨_,O,O,q.trans hg⟩
def z7A (c d:Bool)(hB:Pm w b5 [stV d] 185)(h:c=d):PN prog 181 [stV c,ptr b5 0] w λv w'=>v= .bool false/\w'=w:=by
 subst h
 cases c with
 | true =>
   replace hB:Pm w b5 [.int .u8 1] 185:=hB;show PN prog 181 [.int .u8 1,ptr b5 0] w _;refine py (e:=[(0,_),(1,_)]) func181 O ntmps181 O O<|qN O<|Rq O<|qV (Pl zci O O hB O)<|R5 O<|Qb<|Pq O<|P3 func181 O ?_
   exact⟨_,O,O,O⟩
 | false =>
   replace hB:Pm w b5 [.int .u8 0] 185:=hB;show PN prog 181 [.int .u8 0,ptr b5 0] w _;refine py (e:=[(0,_),(1,_)]) func181 O ntmps181 O O<|qN O<|Rq O<|qV (Pl zci O O hB O)<|R5 O<|Qb<|Pq O<|P3 func181 O ?_;exact⟨_,O,O,O⟩
theorem zaX {n:Nat}(q:n<=4096)(c:Bool)(hB:Pm w b5 [stV c] 185)(h:Rd w (.slice (some ⟨b,o,none⟩) n cap) 1 n (List.replicate n (stV c))):
  PN prog 208 [.slice (some ⟨b,o,none⟩) n cap,.func (.func 181) #[] #[ptr b5 0]] w λv w'=>v=I (-1)/\w'=w:=by
 refine py (e:=[(0,_),(1,_)]) func208 O ntmps208 O O<|Re O<|Qi O<|RQ W4 O<|Ph O<|P4<|P6<|RX (α:=Nat) (0) (λi=>[(0,.slice (some ⟨b,o,none⟩) n cap),(1,.func (.func 181) #[] #[ptr b5 0]),(7,I (n:Int)),(8,I (i:Int))]) (λi w'=>w'=w/\i<=n) (λi=>n-i) ?hI ?hround
 case hI=>exact⟨O,y00 _⟩
 case hround=>
  rintro i w1⟨rfl,hi⟩ l
  try dsimp only
  refine qN O<|QY O<|P4<|OY<|Pn O (λd=>?_)<|λd=>?_
  ·refine P5 (R0 (PL O (Ro O (PB O (Ph O (qV (Qc W4 z3p O O ω) (qV (PG (v:=stV c) zci O O (Qs h (by rw[y0T,if_pos ω]))) ?_)))))));refine Rj O O (SE zia O O) (z7A c c hB O) ?_;rintro _ w1⟨rfl,rfl⟩;refine QC O<|An<|Pc O<|Qj O<|Ph O<|P4 ?_;exact(l (i+1) _ ⟨O,ω⟩ ω).qb
  ·refine Pf O<|Re O<|P3 func208 O ?_;exact⟨_,O,O,O⟩
def zaK {n:Nat}(h:n<=4096)(c:Bool)(hB:Pm w b5 [stV c] 185)(d:Rd w (.slice (some ⟨b,o,none⟩) n cap) 1 n (List.replicate n (stV c))):
  PN prog 180 [.slice (some ⟨b,o,none⟩) n cap,.func (.func 181) #[] #[ptr b5 0]] w λv w'=>v= .bool false/\w'=w:=by
 refine py (e:=[(0,_),(1,_)]) func180 O ntmps180 O O<|qN O<|Ro O<|PB O<|Px zhP O (zaX h c hB d) ?_
 rintro _ w⟨rfl,rfl⟩
 refine Uj O<|Qb<|Pq O<|P3 func180 O ?_
 exact⟨_,O,O,O⟩
theorem z9s (h:Ye w m gi L)(s n:Nat)(c:Bool)(R:1<=n)(Z:s+n<=L.length)(M:∀i,s<=i->i<s+n->L[i]? =some c):PN prog 147 [ptr m 0,.agg #[I (s:Int),I (n:Int)],stV c] w λv w'=>v= .bool true/\Ext w w':=by
 have Y:=h.n
 refine py (e:=[(0,_),(1,_),(2,_)]) func147 O ntmps147 O O<|qN O<|Pb O O (RP O (cs:=[I (s:Int),I (n:Int)]) O) ?_
 rintro _ w1⟨Q,rfl,T,C,B⟩
 refine Pb O O (RP O (cs:=[stV c]) (by cases c<;>rfl)) ?_
 rintro _ w2⟨b5,rfl,U,r,u⟩
 have hg:=Ext.Pz w2
 have l:=C.trans r
 have N:=(h.ext l).OZ
 have q:=r.OZ B
 have D:=(h.ext l).ext hg
 refine Pq O<|OY<|RI (λw'=>Ext w2 w') O<|Pu 0 O O hg<|P7 1 O (QL O) hg<|P7 2 O (PU VL O) hg<|qT 3 O (λ_ h=>(Pl W4 O O (h.OZ N) O)) hg<|P7 4 O (PU Rs O) hg<|qT 5 O (λ_ h=>(Pl U3 O O (h.OZ q) O)) hg<|P7 6 O (PU Rs O) hg<|qT 7 O (λ_ h=>(Pl U3 O O (h.OZ q) O)) hg<|P7 8 O (PU RB O) hg<|qT 9 O (λ_ h=>(Pl U3 O O (h.OZ q) O)) hg<|P7 10 O (Vu O O ω) hg ?_
 refine P7 12 O (ymf (first:=[]) (caps:=[.tmp 5]) O O) hg ?_
 rw[show(s:Int)+(n:Int)=((s+n:Nat):Int) by omega]
 refine P7 11 O (zgW (i:=s) (j:=s+n) W4 z3p O O O ω ω) hg ?_
 rw[show s+n-s=n by omega]
 have K:Rd w2.drew (.slice (some ⟨gi,0+s*1,none⟩) n (L.length-s)) 1 n (List.replicate n (stV c)):=by
  have d:=VC (Uh D.sl.rd (i:=s) ω (y02 _)) (i:=n) ω;rw[if_neg ω] at d
  have e:((L.map stV).drop s).take n=List.replicate n (stV c):=by
   apply y0K;intro i;rw[y1I,y1O,y0i,y0T];by_cases hi:i<n
   ·rw[if_pos hi,if_pos hi,M (s+i) ω ω];rfl
   ·rw[if_neg hi,if_neg hi]
  rw[e] at d
  have G:(some (⟨gi,0,none⟩:Addr)).map (λx=>x.add (s*1))=some ⟨gi,0+s*1,none⟩:=by
   show some (Addr.add _ _)=_;unfold Addr.add;split
   ·rename_i J;rw[J]
   ·rfl
  rw[G] at d;exact d
 refine Tl 13 O zjv O (zaK ω c (hg.OZ u) K) ?_
 rintro _ a⟨rfl,rfl⟩
 refine⟨hg,?_⟩
 refine P7 14 O (SD O) hg<|P7 15 O (S6 O) hg<|qE<|P3 func147 O ?_
 exact⟨_,O,O,l.trans hg⟩
theorem z7G (h:Ye w m gi L)(s n:Nat)(B:1<=n)(M:2<=s)(u:s+n<=L.length)(Q:∀i,s<=i->i<s+n->L[i]? =some true):PN prog 109 [ptr m 0,.agg #[I (s:Int),I (n:Int)]] w λv w'=>v=I 0/\Ye w' m gi (Qr L s n false)/\Kp (λk=>k=gi) w w':=by
 refine py (e:=[(0,_),(1,_)]) func109 O ntmps109 O O<|qN O<|Pb O O (RP O (cs:=[I (s:Int),I (n:Int)]) O) ?_
 rintro _ w1⟨b3,rfl,T,x,q⟩
 have D:=h.ext x
 have U:=q.lt
 have Y:=h.ltg
 refine Pq O<|R0<|PL O<|qV (Qz U66 O O)<|Pq O<|P9 O<|PL O<|qV (PO (news:=[I (s:Int),I (n:Int)]) VU O Rw O (Pm.cells (n:=2) q O) O)<|Px zhq O (z9q D s n B M u) ?_
 rintro _ w2⟨rfl,l⟩
 have G:=D.ext l
 have r:=l.OZ q
 refine qV (SD O)<|PB O<|qV (PO (news:=[I (s:Int),I (n:Int)]) VU O Rw O (Pm.cells (n:=2) r O) O)<|Px zkn O (z9s G s n true B u Q) ?_
 rintro _ Z⟨rfl,d⟩
 have J:=G.ext d
 have C:=d.OZ r
 have R:=J.OZ
 refine qV (SD O)<|Ql O<|Pq O<|P9 O<|PL O<|PQ O<|Pr zdR O<|qV (Pl U4 O O R O)<|Pq O<|P9 O ?_
 have C:=d.OZ r
 refine Ra O<|qV (PO (news:=[I (s:Int),I (n:Int)]) VU O Rw O (Pm.cells (n:=2) C O) O)<|Px zfd O (z2R J s n false u) ?_
 rintro _ a⟨rfl,N,K⟩
 refine P4<|PM.qb (e:=[(4,_)]) ?_
 refine An<|Re O<|P3 func109 O ?_
 exact⟨_,O,O,N,((x.trans l).trans d).kp.trans K⟩
end
structure Dev where
 due:Int
 SY:List Int
 zdA:Int
 mask:UInt8
 B:Nat
 N:Nat
 sf:Int->Option P8
 cache:List (Int×P8)
 down:Bool
 calls:Int
 reads:Int
def zeros (n:Nat):P8:=List.replicate n 0
def Dev.kept (D:Dev)(n:Int):P8:=(D.sf n).getD (zeros (512*D.N))
def X4 (l:List (Int×P8))(n:Int):Option P8:=(l.reverse.find? λx=>x.1==n).map (·.2)
def Dev.now (D:Dev)(n:Int):P8:=(X4 D.cache n).getD (D.kept n)
def Dev.has (D:Dev)(n:Int):Bool:=decide (0<=n/\n<(D.B:Int))
def Dev.count (D:Dev):Dev:={D with calls:=D.calls+1,due:=if D.due=0 then 0 else D.due-1}
structure Dev.Ok (D:Dev):Prop where
 hB:16<=D.B/\D.B<=4096
 hN:1<=D.N/\D.N<=8
 due:0<=D.due/\D.due<=9223372036854775807
 sf:∀n s,D.sf n=some s->0<=n/\n<(D.B:Int)/\s.length=512*D.N
 cache:∀x∈D.cache,0<=x.1/\x.1<(D.B:Int)/\x.2.length=512*D.N
 len:0<=D.calls
 reads:True
def Dev.Bd (D:Dev):Prop:=D.calls<1000000000000/\D.cache.length<1000000000000/\True
def wr (x:Int×P8):List Value:=[I x.1,S x.2]
def wrs (l:List (Int×P8)):List Value:=l.flatMap wr
@[simp] theorem wrs_length (l:List (Int×P8)):(wrs l).length=l.length*2:=by
 induction l with
 |nil=>rfl
 |cons x r ih=>simp[wrs,wr,y16] at ih⊢;omega
def ZC (kp ca:Value)(m:Nat)(D:Dev):List Value:=[I D.due,kp,I D.zdA,TX D.mask,I (D.B:Int),I (D.N:Int),.map (some m),ca,.bool D.down,I D.calls,I D.reads]
@[simp] theorem devCs_length (kp ca:Value) (m:Nat) (D:Dev):(ZC kp ca m D).length=11:=rfl
abbrev KI:Int->Value:=λz=> .int .i64 z
structure Si (w:World)(p m:Nat)(kp ca:Value)(D:Dev):Prop where
 OZ:Pm w p (ZC kp ca m D) 132
 map:∃kv,X9 KI w m kv/\∀n,RJ kv n=(D.sf n).map S
 cache:Sl w ca 336 2 D.cache.length (wrs D.cache)
 SY:Sl w kp 3 1 D.SY.length (D.SY.map I)
 ok:D.Ok
def fpD (p m:Nat)(kp ca:Value):Nat->Prop:=λk=>k=p\/k=m\/ca.ownBlock=some k\/kp.ownBlock=some k
def WN (w:World)(p:Nat)(D:Dev)(F:Nat->Prop):Prop:=∃m kp ca,Si w p m kp ca D/\∀k,F k↔fpD p m kp ca k
def Upd (F d:Nat->Prop)(w w':World):Prop:=Kp F w w'/\∀k,d k->F k\/w.heap.size<=k
theorem Upd.trans {l d:Nat->Prop}{a b c:World}(h:Upd F l a b)(k:Upd l d b c):Upd F d a c:=
 ⟨h.1.It k.1 λi hi=>(h.2 i hi).symm,λi hi=>by
  rcases k.2 i hi with e|e
  ·exact h.2 i e
  ·exact .inr (y0b h.1.size e)⟩
theorem Ext.upd (h:Ext w w'):Upd F F w w':=⟨h.kp,λ_ h=> .inl h⟩
theorem Si.pm {kp:Value}{D:Dev}(h:Si w p m kp ca D):¬p=m:=λe=>by
 obtain⟨kv,⟨⟨n,c,l,-⟩,-⟩,-⟩:=h.map
 obtain⟨q,d,-⟩:=h.OZ
 rw[e] at d;rw[d] at l;cases l
theorem TP {v:Value}{e size n:Nat}(h:Sl w v e size n cs)(d:v.ownBlock=some b):∃xs q,w.heap[b]? =some (.cells xs e q):=by
 rcases h.2 with⟨u,-⟩|⟨g,cap,l,r,-,hg,-⟩
 ·rw[u] at d;cases d
 ·rw[r] at d;cases d;exact⟨_,_,hg⟩
theorem Si.kp {S:Nat->Prop}{kp:Value}{D:Dev}(h:Si w p m kp ca D)(k:Kp S w w')(d:∀i,fpD p m kp ca i->¬S i):Si w' p m kp ca D:=
 ⟨k.OZ h.OZ (d p (.inl O)),let ⟨kv,h1,h2⟩:=h.map;⟨kv,k.map h1 (d m (.inr (.inl O))),h2⟩,h.cache.kp k λg hg=>d g (.inr (.inr (.inl hg))),h.SY.kp k λg hg=>d g (.inr (.inr (.inr hg))),h.ok⟩
def Si.ext {kp:Value}{D:Dev}(h:Si w p m kp ca D)(k:Ext w w'):Si w' p m kp ca D:=h.kp k λ_ _=>id
theorem Dev.Ok.count {D:Dev}(h:D.Ok):D.count.Ok:=by
 have:=h.due
 have:=h.len
 refine⟨h.hB,h.hN,?_,h.sf,h.cache,?_,h.reads⟩
 ·simp only[Dev.count];split<;>omega
 ·simp only[Dev.count];omega
theorem Si.turn {kp:Value}{D D':Dev}(h:Si w p m kp ca D)(B:Pm w' p (ZC kp ca m D') 132)(k:Kp (λi=>i=p) w w')(u:D'.sf=D.sf)(v:D'.cache=D.cache)(x:D'.SY=D.SY)(G:D'.N=D.N)(r:D'.Ok):Si w' p m kp ca D':=by
 obtain⟨C,q,-⟩:=h.OZ
 refine⟨B,let ⟨kv,hm,hs⟩:=h.map;⟨kv,k.map hm λe=>h.pm e.symm,by rw[u];exact hs⟩,?_,?_,r⟩
 ·rw[v];refine h.cache.kp k λg hg n=>?_;obtain⟨xs,l,d⟩:=TP h.cache hg;rw[n,q] at d;cases d
 ·rw[x];refine h.SY.kp k λg hg n=>?_;obtain⟨xs,l,d⟩:=TP h.SY hg;rw[n,q] at d;cases d
def upd (f:Int->Option P8)(n:Int)(s:P8):Int->Option P8:=λx=>if x=n then some s else f x
def z9J (c:P8)(i:Nat)(x:P8):P8:=c.take i++x++c.drop (i+x.length)
def mixN (mask:UInt8)(a b:P8):Nat->P8
 |0=>a
 |s+1=>if mask.toNat / 2^s%2=1 then z9J (mixN mask a b s) (512*s) ((b.drop (512*s)).take 512) else mixN mask a b s
theorem z6a (c x:P8)(i:Nat)(h:i+x.length<=c.length):(z9J c i x).length=c.length:=by
 simp[z9J];omega
def Xj (mask:UInt8)(a b:P8)(N:Nat)(e:a.length=512*N)(l:b.length=512*N):∀s,s<=N->(mixN mask a b s).length=512*N
 |0,_=>e
 | s + 1, h => by
   have d:=Xj mask a b N e l s ω;simp only[mixN];split
   ·rw[z6a _ _ _ (by simp[d];omega),d]
   ·exact d
def Dev.fallTo (D:Dev)(l:List Int)(d:Int)(mk:UInt8):Nat->(Int->Option P8)
 |0=>D.sf
 | i + 1 => match D.cache[i]? with
   |none=>D.fallTo l d mk i
   | some x => if (i : Int) = d then upd (D.fallTo l d mk i) x.1 (mixN mk (((D.fallTo l d mk i) x.1).getD (zeros (512 * D.N))) x.2 D.N)
     else if(i:Int)∈l then upd (D.fallTo l d mk i) x.1 x.2 else D.fallTo l d mk i
def Dev.zd7 (D:Dev)(l:List Int)(d:Int)(mk:UInt8):Dev:=
 {D with sf:=D.fallTo l d mk D.cache.length,cache:=[],due:=0,SY:=[],zdA:=0,mask:=0,down:=true}
theorem Dev.Ok.put {D:Dev}(h:D.Ok){n:Int}(l:0<=n/\n<(D.B:Int))(q:s.length=512*D.N):Dev.Ok {D with sf:=upd D.sf n s}:=
 ⟨h.hB,h.hN,h.due,λx t d=>by
  simp only[upd] at d;split at d
  ·rename_i e
   cases d;exact⟨ω,by rw[e];exact l.2,q⟩
  ·exact h.sf x t d,h.cache,h.len,h.reads⟩
theorem Dev.Ok.kept {D:Dev}(h:D.Ok)(n:Int):(D.kept n).length=512*D.N:=by
 unfold Dev.kept
 cases d:D.sf n with
 |none=>simp[zeros]
 |some s=>exact(h.sf n s d).2.2
theorem Si.put {kp:Value}{D:Dev}{n:Int}(h:Si w p m kp ca D)(v:∀n,RJ kv n=(D.sf n).map S)(u:X9 KI w' m (putL kv n (S s)))(k:Kp (λi=>i=m) w w')
  (r:Dev.Ok {D with sf:=upd D.sf n s}):Si w' p m kp ca {D with sf:=upd D.sf n s}:=by
 obtain⟨B,⟨⟨C,c,q,-⟩,-⟩,-⟩:=h.map
 refine⟨k.OZ h.OZ h.pm,⟨_,u,λx=>?_⟩,?_,?_,r⟩
 ·rw[zbE,v x];simp only[upd];split<;>rfl
 ·refine h.cache.kp k λg hg l=>?_;obtain⟨xs,e,d⟩:=TP h.cache hg;rw[l,q] at d;cases d
 ·refine h.SY.kp k λg hg l=>?_;obtain⟨xs,e,d⟩:=TP h.SY hg;rw[l,q] at d;cases d
theorem Rd.kpm {v:Value}{size n:Nat}(h:Rd w v size n cs)(I:X9 KI w m kv)(k:Kp (λi=>i=m) w w'):Rd w' v size n cs:=by
 obtain⟨x,B⟩:=h
 refine⟨x,B.imp id λ⟨b,off,cap,J,C⟩=>⟨b,off,cap,J,λj u G=>?_⟩⟩
 have d:=C j u G
 obtain⟨⟨K,c,D,-⟩,-⟩:=I
 have r:¬b=m:=λe=>by
  rw[e] at d;simp[World.cell?,D] at d
 have q:b<w.heap.size:=by
  rcases y0a b w.heap.size with l|l
  ·exact l
  ·simp[World.cell?,y1R l] at d
 rw[<-d]
 simp only[World.cell?,k.block b q r]
theorem Si.zk5 {kp:Value}{D:Dev}(h:Si w p m kp ca D){g:Nat}(hg:ca.ownBlock=some g):¬g=p/\¬g=m/\¬kp.ownBlock=some g:=by
 obtain⟨xs,n,d⟩:=TP h.cache hg
 refine⟨λe=>?_,λe=>?_,λe=>?_⟩
 ·obtain⟨x,q,-⟩:=h.OZ;rw[e,q] at d;cases d
 ·obtain⟨kv,⟨⟨u,c,r,-⟩,-⟩,-⟩:=h.map;rw[e,r] at d;cases d
 ·obtain⟨B,v,l⟩:=TP h.SY e;rw[d] at l;cases l
theorem Si.zkC {kp:Value}{D:Dev}(h:Si w p m kp ca D){g:Nat}(hg:kp.ownBlock=some g):¬g=p/\¬g=m/\¬ca.ownBlock=some g:=by
 obtain⟨xs,n,d⟩:=TP h.SY hg
 refine⟨λe=>?_,λe=>?_,λe=>?_⟩
 ·obtain⟨x,q,-⟩:=h.OZ;rw[e,q] at d;cases d
 ·obtain⟨kv,⟨⟨u,c,r,-⟩,-⟩,-⟩:=h.map;rw[e,r] at d;cases d
 ·obtain⟨B,v,l⟩:=TP h.cache e;rw[d] at l;cases l
theorem Si.lt {kp:Value}{D:Dev}(h:Si w p m kp ca D):∀k,fpD p m kp ca k->k<w.heap.size:=by
 intro k e
 rcases e with rfl|rfl|d|d
 ·exact h.OZ.lt
 ·obtain⟨kv,l,-⟩:=h.map;exact l.lt
 ·exact h.cache.lt d
 ·exact h.SY.lt d
theorem WN.kp {S:Nat->Prop}{D:Dev}(h:WN w p D F)(k:Kp S w w')(l:∀i,F i->¬S i):WN w' p D F:=by
 obtain⟨m,kp,ca,e,d⟩:=h
 exact⟨m,kp,ca,e.kp k λi hi=>l i ((d i).2 hi),d⟩
def WN.ext {D:Dev}(h:WN w p D F)(k:Ext w w'):WN w' p D F:=h.kp k λ_ _=>id
theorem WN.lt {D:Dev}(h:WN w p D F):∀k,F k->k<w.heap.size:=by
 obtain⟨m,kp,ca,d,l⟩:=h
 intro k n
 rcases (l k).1 n with rfl|rfl|e|e
 ·exact d.OZ.lt
 ·obtain⟨kv,q,-⟩:=d.map;exact q.lt
 ·exact d.cache.lt e
 ·exact d.SY.lt e
def z0y (n:Nat):((List.replicate n (Value.int .u8 0)).drop 0).take n=(zeros n).map TX:=by
 simp[zeros,TX]
section
variable {kp:Value}{D:Dev}
def z7B (h:Si w p m kp ca D):PN prog 138 [ptr p 0] w λv w'=>v=I (D.B:Int)/\w'=w:=by
 have d:=h.OZ
 refine py (e:=[(0,_)]) func138 O ntmps138 O O<|Re O<|Qi O<|qV (Qz U26 O O)<|QC O<|PL O<|PQ O<|Pr z11 O<|Pr ZS O<|qV (Pl U3 O O d O)<|Pq O<|P3 func138 O ?_
 exact⟨_,O,O,O⟩
def z2m (h:Si w p m kp ca D):PN prog 95 [ptr p 0] w λv w'=>v=I ((512*D.N:Nat):Int)/\w'=w:=by
 have d:=h.OZ
 have hN:=h.ok.hN
 refine py (e:=[(0,_)]) func95 O ntmps95 O O<|Re O<|Qi O<|qV (Qz U26 O O)<|QC O<|PL O<|PQ O<|Pr z11 O<|Pr z0j O<|qV (Pl U3 O O d O)<|qV (Y8 O O ω)<|Pq O<|P3 func95 O (⟨_,O,?_,O⟩)
 show I _=I _
 congr 1;omega
def z3u (h:Si w p m kp ca D):PN prog 194 [ptr p 0] w λv w'=>v=I (if D.down then 8 else 0)/\w'=w:=by
 have l:=h.OZ
 refine py (e:=[(0,_)]) func194 O ntmps194 O O<|Re O<|R0<|PL O<|qV (Qz U26 O O)<|Pq O<|P9 O<|PL O<|PQ O<|Pr z3F O<|qV (Pl U4 O O l O)<|Pq O<|QF O (λd=>?_)<|λd=>?_
 ·refine Re O<|P3 func194 O ?_;exact⟨_,O,by simp[d,Qy],O⟩
 ·refine P5<|An<|Re O<|P3 func194 O ?_;exact⟨_,O,by simp[d,Qy],O⟩
def z8r (n:Int)(h:Si w p m kp ca D):PN prog 195 [ptr p 0,I n] w λv w'=>v= .bool (D.has n)/\w'=w:=by
 have l:=h.OZ
 refine py (e:=[(0,_),(1,_)]) func195 O ntmps195 O O<|qN O<|Rq O<|Uj O<|SS (λd=>?_)<|λd=>?_
 ·refine PB O<|Ph O<|PQ O<|Pr z11 O<|Pr ZS O<|qV (Pl U3 O O l O)<|QY O<|Rr O<|Pq O<|P3 func195 O (⟨_,O,?_,O⟩);simp[Dev.has,d,Qy]
 ·refine Ph O<|QV<|QV<|QV<|qS<|Ql O<|Pq O<|P3 func195 O (⟨_,O,?_,O⟩);simp[Dev.has,d,Qy]
theorem z5i (n:Int)(h:Si w p m kp ca D):PN prog 219 [ptr p 0,I n] w λv w'=>v=S (D.kept n)/\Ext w w':=by
 have u:=h.OZ
 have hN:=h.ok.hN
 have G:maxLen=9223372036854775807:=rfl
 obtain⟨kv,x,B⟩:=h.map
 refine py (e:=[(0,_),(1,_)]) func219 O ntmps219 O O<|Re O<|Qi O<|PQ O<|Pr z3C O<|qV (Pl z7x O O u O)<|Ph O<|qV (zlC (k:=n) (K:=KI) z7x (Sx U3) ti9 O O x) ?_
 rw[B n]
 cases d:D.sf n with
 | some s =>
   refine Ph O<|Ta O<|SO O<|Rq O<|P4<|Pp O<|PL O<|Pq O<|P3 func219 O ?_
   exact⟨_,O,by simp[Dev.kept,d,Qy],Ext.refl w⟩
 | none =>
   refine Ph O<|Ta O<|SO O<|Rq O<|QC O<|PL O<|Px zgZ O (z2m h) ?_;rintro _ w1⟨rfl,rfl⟩;refine Pb O O (pmk (c:=512*D.N) (n:=512*D.N) QX YS O O O ω ω ω) ?_;rintro _ w1⟨b1,rfl,⟨C,q,r⟩,-⟩;refine qV (zb5 (l:=zeros (512*D.N)) QX U5 U9 O r (z0y _) (by simp[zeros])) ?_;refine Pq O<|P3 func219 O ?_;exact⟨_,O,by simp[Dev.kept,d,Qy],q⟩
theorem z4z (h:Si w p m kp ca D)(C:D.calls<1000000000000):PN prog 216 [ptr p 0] w λv w'=>v= .bool (decide (D.due=1))/\Si w' p m kp ca D.count/\Kp (λk=>k=p) w w':=by
 have x:=h.OZ
 have G:=h.ok.due
 have B:=h.ok.len
 refine py (e:=[(0,_)]) func216 O ntmps216 O O<|qN O<|Rq O<|PQ O<|Pr z94 O<|qV (Pl U3 O O x O)<|Qj O<|PQ O<|Pr z94 O<|Po O (QZ Qe O O O x ξ) ?_
 rintro w1⟨d,l⟩
 refine P4<|Qi O<|PQ O<|Pr XT O<|Pr z1e O<|qV (Pl U3 O O d O)<|Rx O<|P4<|Pn O (λr=>?_)<|λr=>?_
 ·refine Re O<|P3 func216 O ?_;have n:(ZC kp ca m D).set (0+9) (I (D.calls+1))=ZC kp ca m D.count:=by simp[ZC,Dev.count,r]
  rw[n] at d;exact⟨_,O,by simp[Qy];omega,h.turn d l O O O O h.ok.count,l⟩
 ·refine P5 (PL O (PQ O (Pr XT O (Pr z1e O (qV (Pl U3 O O d O) (RR O (PQ O (Pr XT O (Pr z1e O (Po O (QZ Qe O O O d ξ) ?_))))))))));rintro w2⟨q,u⟩;refine qM O<|Ph O<|PQ O<|Pr XT O<|Pr z1e O<|qV (Pl U3 O O q O)<|Rx O<|Pq O<|PM.qb (e:=[(2,_)]) ?_;refine P3 func216 O ?_;have n:((ZC kp ca m D).set (0+9) (I (D.calls+1))).set (0+0+0) (I (D.due-1))=ZC kp ca m D.count:=by simp[ZC,Dev.count,r]
  rw[n] at q;exact⟨_,O,by simp[Qy];omega,h.turn q (l.trans u) O O O O h.ok.count,l.trans u⟩
end
theorem z8R (xs:List (Int×P8))(j:Nat)(h:j<xs.length):((wrs xs).drop (j*2)).take 2=wr xs[j]:=by
 induction xs generalizing j with
 |nil=>simp at h
 | cons x r d =>
   cases j with
   |zero=>simp[wrs,wr,y16]
   | succ j =>
     have e:(wrs (x::r))=I x.1::S x.2::wrs r:=by simp[wrs,wr,y16]
     rw[e,show(j+1)*2=(j*2)+1+1 by omega]
     simpa using d j (by simpa using h)
def z2x (a:Option Addr)(n cap:Nat)(w:World):PN prog 218 [.slice a n cap] w λv w'=>∃b,v= .func (.func 235) #[] #[ptr b 0]/\z0Q w b [.slice a n cap] 130 w':=by
 refine py (e:=[(0,_)]) func218 O ntmps218 O O<|qN O<|Pb O O (RP O O) ?_
 rintro _ w1⟨b1,rfl,hN⟩
 refine Ro O<|qV (ymf (first:=[]) (caps:=[.tmp 1]) O O)<|Pq O<|P3 func218 O ?_
 exact⟨_,O,_,O,hN⟩
theorem z3X (l d:Nat)(ca:Value)(xs:List (Int×P8))(J:Nat->World->Prop)(r:World->Prop)(w:World)(m:xs.length<4611686018427387904)
  (D:∀i w,J i w->(∃T,Pm w d [ca] T)/\Sl w ca 336 2 xs.length (wrs xs))
  (hround:∀i w x,xs.reverse[i]? =some x->J i w->z2a prog l [I ((xs.length:Int)-1-i),.agg (wr x).toArray] w λv w'=>(v= .bool true/\J (i+1) w')\/(v= .bool false/\r w')) (C:J 0 w):
  PN prog 235 [.func (.yield l) #[] #[],ptr d 0] w λv w'=>v= .tuple #[]/\(J xs.length w'\/r w'):=by
 obtain⟨⟨T,S⟩,U⟩:=D 0 w C
 obtain⟨a,cap,rfl,k⟩:=U.rd.shape
 refine py (e:=[(0,_),(1,_)]) func235 O ntmps235 O O<|qN O<|qV (Pl z0S O O S O)<|RQ z0S O<|RR O<|Pq O<|P6 ?_
 rw[show(xs.length:Int)-1=(xs.length:Int)-1-((0:Nat):Int) by omega]
 refine RX (α:=Nat) (0) (λi=>[(0,.func (.yield l) #[] #[]),(1,ptr d 0),(3,I ((xs.length:Int)-1-i))]) (λi w=>i<=xs.length/\J i w) (λi=>xs.length-i) ?hI ?hround
 case hI=>exact⟨ω,C⟩
 case hround=>
  rintro i w1⟨hi,n⟩ b
  try dsimp only
  obtain⟨⟨j,Q⟩,K⟩:=D i w1 n;refine Qi O<|Uj O<|P4<|Pn O (λf=>?_)<|λf=>?_
  ·have u:i<xs.length:=ω
   have M:=K.shape;rcases M with⟨-,h⟩|⟨gb,B,g,o⟩
   ·omega
   cases g;obtain⟨x,q⟩:∃x,xs.reverse[i]? =some x:=⟨_,y03 (by simpa using u)⟩
   have R:((wrs xs).drop ((xs.length-1-i)*2)).take 2=wr x:=by
    rw[z8R xs _ ω]
    congr 1
    rw[List.getElem?_reverse u,y03 ω] at q;exact RZ q
   have Z:((xs.length:Int)-1-i)=((xs.length-1-i:Nat):Int):=ω
   have G:=hround i w1 x q n;rw[Z] at G⊢;refine P5 (R0 (QG O (qV (Pl z0S O O Q O) (Ph O (qV (Qc z0S Xa O O ω) (qV (PO zbN O Xa O (K.part R) O) (z7d O O (yy O O) G ?_)))))));rintro v w2 Y;rcases Y with⟨rfl,c⟩|⟨rfl,N⟩
   ·refine qV (SD O)<|QC O<|An<|Ra O<|RR O<|Pq O ?_;rw[show((xs.length-1-i:Nat):Int)-1=(xs.length:Int)-1-((i+1:Nat):Int) by omega];exact(b (i+1) w2 ⟨ω,c⟩ ω).qb
   ·refine qV (SD O)<|P4<|Pp O<|P3 func235 O ?_;exact⟨_,O,O,.inr N⟩
  ·refine Pf O<|Qu func235 O ?_;have:i=xs.length:=ω
   subst this;exact⟨_,O,O,.inl n⟩
theorem z7O (xs:List (Int×P8))(n:Int)(i:Nat):(∀j x,j<i->xs.reverse[j]? =some x->x.1≠n)->∀x,xs.reverse[i]? =some x->x.1=n->X4 xs n=some x.2:=by
 intro l x d q
 have e:i<xs.reverse.length:=by
  rcases y0a i xs.reverse.length with h| h
  ·exact h
  ·rw[y0e h] at d;cases d
 have:xs.reverse.find? (λx=>x.1==n)=some x:=by
  rw[List.find?_eq_some_iff_getElem];refine⟨by simp[q],i,e,?_,λj r=>?_⟩
  ·rw[y03 e] at d;exact RZ d
  ·have:=l j _ r (y03 ω)
   simpa using this
 simp[X4,this]
theorem z6T (xs:List (Int×P8))(n:Int):(∀j x,j<xs.length->xs.reverse[j]? =some x->x.1≠n)->X4 xs n=none:=by
 intro e
 have:xs.reverse.find? (λx=>x.1==n)=none:=by
  rw[List.find?_eq_none];intro x h;obtain⟨j,d,rfl⟩:=List.getElem_of_mem h;have:=e j _ (by simpa using d) (y03 d)
  simpa using this
 simp[X4,this]
theorem zet {kp:Value}{D:Dev}(n:Int)(h:Si w p m kp ca D)(hc:D.cache.length<1000000000000):
  PN prog 196 [ptr p 0,I n] w λv w'=>v=S (D.now n)/\Ext w w':=by
 have hM:=h.OZ
 have aB:=h.ok.len
 have fg:=hc
 obtain⟨a,cap,rfl,ha⟩:=h.cache.rd.shape
 refine py (e:=[(0,_),(1,_)]) func196 O ntmps196 O O<|qN O<|Pb O O (RP O O) ?_
 rintro _ w1⟨b3,rfl,eh,o,B⟩
 refine Pb O O (S5 (cs:=[_]) ti9 O) ?_
 rintro _ w2⟨b4,rfl,g7,T,J⟩
 replace h:=(h.ext o).ext T
 have gU:=h.OZ
 refine P4<|Qi O<|PQ O<|Pr Ze O<|qV (Pl z0S O O gU O)<|Px zjk O (z2x a D.cache.length cap _) ?_
 rintro _ Q⟨bx,rfl,fV,M,b⟩
 replace h:=h.ext M
 replace B:=M.OZ (T.OZ B)
 replace J:=M.OZ J
 refine P4<|P6<|Tb (ps:=[12,13]) (p:=[]) (q:=[_]) O zhX ?_
 rintro l P N hl cO hD W C eu
 have IK:=zcy C eu
 have A:=h
 replace h:=h.ext N
 replace B:=N.OZ B
 replace J:=N.OZ J
 have Fp:=b.lt
 have mS:=B.lt
 have dU:=o.size
 have dr:=T.size
 have pd:=M.size
 have M2:bx<Q.heap.size:=b.lt
 replace b:=N.OZ b
 refine PN.mono (z3X l bx (.slice a D.cache.length cap) D.cache
  (λi w'=>W .ready none w'/\Kp (λk=>k=l) P w'/\∀j x,j<i->D.cache.reverse[j]? =some x->x.1≠n)
  (λw'=>W .done (some .ret) w'/\Kp (λk=>k=l\/k=b4) P w'/\Pm w' b4 [S (D.now n)] 9) P ω ?_ ?_ ⟨eu,Kp.refl _ _,ω⟩) ?_
 ·rintro i w'⟨r,d,-⟩;refine⟨⟨_,d.OZ b ω⟩,h.cache.kp d λg hg dY=>?_⟩;have:=A.cache.lt hg;omega
 ·rintro i w' x hx⟨r,d,z⟩;refine Uo C r O O ?_;have yC:=d.size;refine Pc O<|Pb O O (S5 (cs:=[_,_]) Xa O) ?_;rintro _ c⟨b6,rfl,oT,R,aJ⟩;refine Po O (Qh Xa O O O O aJ ξ) ?_;rintro w6⟨nq,aG⟩;have K:=R.It aG (λi hi=>ω);replace r:=K.rc C r id;replace d:=d.trans K.kp;have Fr:=R.size;have M3:=nq.lt;refine P4<|run_beginRound O C r ?_;rintro V h7 u;have t:=u.OZ nq ω;have L:=(d.trans u).OZ B ω;refine P6<|qN O<|Pr z0T O<|qV (Pl U3 O O t O)<|qV (Pl U3 O O L O)<|Rx O<|P4<|Pn O (λE=>?_)<|λE=>?_
  ·have Y:=(d.trans u).OZ J ω;refine qN O (Pr z3x O (qV (Pl U9 O O t O) (Po O (QZ ti9 O O O Y ξ) ?_)));rintro w8⟨U,X⟩;refine P4 (Wp C (X.rc C h7 ω) ?_);intro w9 F f;refine .inr ⟨O,F,((d.trans u).Pk λ_ h=> .inl h).trans ((X.Pk λ_ h=> .inr h).trans (f.Pk λ_ h=> .inl h)),?_⟩
   have Fs:D.now n=x.2:=by
    unfold Dev.now;rw[z7O D.cache n i z x hx E]
    rfl
   rw[Fs];exact f.OZ U ω
  ·refine P5<|An<|T2 C h7 ?_;intro w9 F f;refine .inl ⟨O,F,(d.trans u).trans f,λj y hj H=>?_⟩;rcases y0a j i with s6|s6
   ·exact z j y s6 H
   ·have:j=i:=ω
    subst this;rw[hx] at H;cases H;exact E
 ·rintro v w'⟨rfl,⟨r,d,z⟩|⟨r,d,hB⟩⟩
  ·refine⟨_,_,r,ξ,λc Z=>?_⟩;have s:=d.trans Z;have R:Ext Q c:=N.It s (λi hi=>ω);replace A:=A.ext R;have L:=s.OZ B ω;have Y:=s.OZ J ω;have G:=s.heap hD ω;refine An<|PL O<|qV (Pl U3 O O L O)<|Px zf0 O (z5i n A) ?_;rintro _ w6⟨rfl,K⟩;replace Y:=K.OZ Y;replace G:=K.heap G id;refine Po O (QZ ti9 O O O Y ξ) ?_;rintro V⟨t,u⟩;replace G:=u.heap G ω;have U:=(QW V Q.heap.size (.deferred none)).OZ t ω;refine P4 (VY ξ (XS G) func196 (.cell1 U9 O O ((U).cell _) .nil) ?_);refine⟨_,O,?_,?_⟩
   ·simp[Dev.now,z6T D.cache n z,Qy]
   ·exact((((o.trans (T.trans M)).trans R).trans K).It u (λi hi=>ω)).It (QW V Q.heap.size (.deferred none)) (λi hi=>ω)
  ·refine⟨_,_,r,ξ,λc Z=>?_⟩;have G:=(d.trans (Z.Pk λ_ h=> .inl h)).heap hD ω;have aD:=Z.OZ hB ω;have U:=(QW c Q.heap.size (.deferred none)).OZ aD ω;refine VY ξ (XS G) func196 (.cell1 U9 O O ((U).cell _) .nil) ?_;refine⟨_,O,O,?_⟩;exact(((o.trans (T.trans (M.trans N))).It d (λi hi=>ω)).It Z (λi hi=>ω)).It (QW c Q.heap.size (.deferred none)) (λi hi=>ω)
section
variable {kp:Value}{D:Dev}
def zby (h:Si w p m kp ca D):PN prog 154 [ptr p 0] w λv w'=>v= .bool D.down/\w'=w:=by
 have d:=h.OZ
 refine py (e:=[(0,_)]) func154 O ntmps154 O O<|qN O<|Rq O<|qV (Qz U26 O O)<|PB O<|PQ O<|Pr z3F O<|qV (Pl U4 O O d O)<|Ql O<|Pq O<|P3 func154 O ?_
 exact⟨_,O,O,O⟩
end
theorem zb9 (v:Value)(l:List Int)(x:Int)(w:World)(N:l.length<=17592186044416)(C:Rd w v 1 l.length (l.map I)):
  PN prog 206 [v,I x] w λu w'=>(∃k,u=I k/\(0<=k↔x∈l))/\w'=w:=by
 obtain⟨a,cap,rfl,M⟩:=C.shape
 refine py (e:=[(0,_),(1,_)]) func206 O ntmps206 O O<|Re O<|Qi O<|RQ Rp O<|Ph O<|P4<|P6<|RX (α:=Nat) (0) (λi=>[(0,.slice a l.length cap),(1,I x),(7,I (l.length:Int)),(8,I (i:Int))]) (λi w'=>w'=w/\i<=l.length/\∀j,j<i->l[j]?≠some x) (λi=>l.length-i) ?hI ?hround
 case hI=>exact⟨O,ω,ω⟩
 case hround =>
  rintro i _⟨rfl,hi,r⟩ J
  try dsimp only
  refine qN O<|QY O<|P4<|OY<|Pn O (λD=>?_)<|λD=>?_
  ·have n:i<l.length:=ω
   rcases C.2 with⟨c,-,h⟩|⟨b,off,q,K,G⟩
   ·omega
   cases K;refine P5 (R0 (PL O (Ro O (PB O (Ph O (qV (Qc Rp Qe O O ω) (qV (PG U3 O O (G (i*1) (I l[i]) (by simp[n]))) ?_)))))));refine Rx O<|P4<|Pn O (λd=>?_)<|λd=>?_
   ·refine PL O<|Pq O<|P3 func206 O (⟨_,O,⟨(i:Int),O,?_⟩,O⟩);constructor
    ·intro _;rw[d];exact y1d n
    ·intro _;omega
   ·refine P5<|An<|Pc O<|Qj O<|Ph O<|P4 ?_
    exact(J (i+1) _ ⟨rfl,ω,λj B=>by
     rcases y0a j i with h| h
     ·exact r j h
     ·have:j=i:=ω
      subst this;rw[y03 n]
      exact λh=>d (RZ h).symm⟩ ω).qb
  ·refine Pf O<|Re O<|P3 func206 O (⟨_,O,⟨-1,O,?_⟩,O⟩);constructor
   ·intro h;omega
   ·intro h;obtain⟨j,B,e⟩:=List.getElem_of_mem h;exact absurd (by rw[y03 B,e]) (r j ω)
theorem z3Y (v:Value)(l:List Int)(x:Int)(w:World)(h:l.length<=17592186044416)(n:Rd w v 1 l.length (l.map I)):
  PN prog 234 [v,I x] w λu w'=>u= .bool (decide (x∈l))/\w'=w:=by
 refine py (e:=[(0,_),(1,_)]) func234 O ntmps234 O O<|qN O<|Ro O<|PB O<|Px zfk O (zb9 v l x w h n) ?_
 rintro _ w1⟨⟨k,rfl,d⟩,rfl⟩
 refine Uj O<|Pq O<|P3 func234 O (⟨_,O,?_,O⟩)
 simp only[Qy,d]
theorem z7T (c x:P8)(rest:List Value)(i:Nat)(h:i+x.length<=c.length):Rg (c.map TX++rest) i (x.map TX)=(z9J c i x).map TX++rest:=by
 unfold Rg z9J
 rw[y1r (by simp;omega),y1j (by simp;omega)]
 simp
theorem ZW {D:Dev}{l:List Int}{d:Int}{mk:UInt8}{x:Int×P8}(e:D.cache[i]? =some x):D.fallTo l d mk (i+1)=
  if(i:Int)=d then upd (D.fallTo l d mk i) x.1 (mixN mk (((D.fallTo l d mk i) x.1).getD (zeros (512*D.N))) x.2 D.N)
   else if(i:Int)∈l then upd (D.fallTo l d mk i) x.1 x.2 else D.fallTo l d mk i:=by
 simp only[Dev.fallTo,e]
theorem zcA {kp cv:Value}{D:Dev}(h:Si w p m kp ca D)(l:List Int)(J:Int)(mk:UInt8)(hl:l.length<=17592186044416)(hr:Rd w cv 1 l.length (l.map I))(fg:D.cache.length<2000000000000):
  PN prog 217 [ptr p 0,.agg #[cv,I J,TX mk]] w λv w'=>v= .tuple #[]/\Si w' p m (.slice none 0 0) (.slice none 0 0) (D.zd7 l J mk)/\Kp (λk=>k=p\/k=m) w w':=by
 have aB:=h.ok.len
 have hN:=h.ok.hN
 have M4:=mk.toNat_lt
 have M5:=h.pm
 have Ft:=h.lt m (.inr (.inl O))
 have IL:∀{w':World},Ext w w'->w.heap.size<=w'.heap.size:=λh=>h.size
 obtain⟨a,cap,rfl,ha⟩:=h.cache.rd.shape
 obtain⟨ac,C,rfl,OB⟩:=hr.shape
 refine py (e:=[(0,_),(1,_)]) func217 O ntmps217 O O<|qN O<|Pb O O (RP O O) ?_
 rintro _ w1⟨b3,rfl,eh,W,ao⟩
 have h0:=h.ext W
 have dU:=W.size
 replace hr:=hr.ext W
 have Fp:=ao.lt
 have hM:=h0.OZ
 refine P4<|Qi O<|PQ O<|Pr Ze O<|qV (Pl z0S O O hM O)<|RQ z0S O<|Ph O<|P4<|P6<|RX (α:=Nat) (0) (λi=>[(0,ptr p 0),(3,ptr b3 0),(11,.slice a D.cache.length cap),(12,I (D.cache.length:Int)),(13,I (i:Int))]) (λi g=>i<=D.cache.length/\Si g p m kp (.slice a D.cache.length cap) {D with sf:=D.fallTo l J mk i}/\Rd g (.slice ac l.length C) 1 l.length (l.map I)/\Pm g b3 [.slice ac l.length C,I J,TX mk] 127/\Kp (λk=>k=m) w1 g) (λi=>D.cache.length-i) ?hI ?hround
 case hI=>exact⟨ω,h0,hr,ao,Kp.refl _ _⟩
 case hround =>
  rintro i g⟨hi,n,E,G,te⟩ ih
  try dsimp only
  have M6:=te.size;refine qN O<|QY O<|P4<|OY<|Pn O (λaP=>?_)<|λaP=>?_
  ·have gu : i < D.cache.length := by omega
   have oa:=n.cache;rcases oa.shape with⟨-,h⟩|⟨gb,a0,lN,jP⟩
   ·exact absurd h (by show ¬D.cache.length=0;omega)
   cases lN;obtain⟨x,T⟩:∃x,D.cache[i]? =some x:=⟨_,y03 gu⟩;have HS:D.cache[i]=x:=by rw[y03 gu] at T;exact RZ T
   have ge:((wrs D.cache).drop (i*2)).take 2=wr x:=by rw[z8R _ _ gu,HS]
   have Q:=n.ok.cache x (y0j T);simp only at Q;have lu:=oa.part ge;refine P5 (R0 (PL O (qV (Qc z0S Xa O O ω) (qV (PO zbN O Xa O lu O) (Pb O O (S5 (cs:=[_,_]) Xa O) ?_)))));rintro _ w2⟨b5,rfl,gp,ae,aD⟩;refine SO O (Po O (Qh Xa O O O O aD ξ) ?_);rintro P⟨M,aq⟩;replace M:Pm P b5 [I x.1,S x.2] 336:=M;have t:Ext g P:=ae.It aq (λj hj=>ω);have M7:=M.lt;replace n:=n.ext t;have lV:=n.lt;replace E:=E.ext t;have qH:=E;replace G:=t.OZ G;have mS:=G.lt;have cb:Kp (λk=>k=m) w1 P:=te.trans t.kp;have M8:=t.size;have IM:¬b3=b5:=by have:=ae.size;have:=G;omega
   refine P4<|P6<|PL O<|Pr zeF O<|qV (Pl U3 O O G O)<|Rx O<|Pq O<|Pn O (λuI=>?_)<|λuI=>?_
   ·refine PL O<|Pr z0T O<|qV (Pl U3 O O M O)<|Px zf0 O (z5i x.1 n) ?_;rintro _ r⟨rfl,ay⟩;obtain⟨u,ib⟩:∃u,Dev.kept {D with sf:=D.fallTo l J mk i} x.1=u:=⟨_,O⟩;have mn:u.length=512*D.N:=by rw[<-ib];exact n.ok.kept x.1
    rw[ib];refine Pb O O (zcS U9 QX U5 O) ?_;rintro _ w5⟨X,y,rest,rfl,⟨xo,aS,BS⟩,IN⟩;have b:=ay.trans aS;replace n:=n.ext b;replace E:=E.ext b;replace G:=b.OZ G;replace M:=b.OZ M;have M9:=BS.lt;have qI:=n.OZ;have IP:=b.size;have Ma:=ay.size;have Mb:=n.OZ.lt;refine Pq O<|Qi O<|PQ O<|Pr z11 O<|Pr z0j O<|qV (Pl U3 O O qI O)<|Ph O<|P4<|P6<|RX (α:=Nat) (0) (λs=>[(0,ptr p 0),(3,ptr b3 0),(5,ptr b5 0),(6,.slice (some ⟨X,0,none⟩) u.length y),(11,.slice (some ⟨gb,0,none⟩) D.cache.length cap),(12,I (D.cache.length:Int)),(13,I (i:Int)),(32,I (D.N:Int)),(33,I (s:Int))]) (λs d=>s<=D.N/\Pm d X ((mixN mk u x.2 s).map TX++rest) 5/\Kp (λk=>k=X) w5 d) (λs=>D.N-s) ?hI ?hround
    case hI=>exact⟨ω,BS,Kp.refl _ _⟩
    case hround=>
     rintro s d⟨hs,mq,c⟩ A
     try dsimp only
     have zW:=c.OZ G ω;have zX:=c.OZ M ω;have eF:=Xj mk u x.2 D.N mn Q.2.2 s hs;refine qN O<|QY O<|P4<|OY<|Pn O (λfN=>?_)<|λfN=>?_
     ·have Mc:s<D.N:=ω
      obtain⟨q,hq⟩:∃q,mk.toNat / 2^s=q:=⟨_,O⟩;have OC:q<256:=by rw[<-hq];exact y1X (y0R _ _) M4
      refine P5 (R0 (PL O (Ro O (Pr zdx O (qV (Pl U5 O O zW O) (Ph O (qV (Vk s (2^s) O O (by simp only[IntKind.bits];omega) O) ?_)))))));rw[hq];refine qV (zkL O O ω ω) ?_;rw[y2j];refine Rx O<|P4<|Pn O (λnU=>?_)<|λnU=>?_
      ·have ob:q%2=1:=ω
       refine RI (λw'=>Kp (λk=>k=X) d w') O (Pu 0 O O ((Kp.refl _ d).drew) (Pu 1 O O ((Kp.refl _ d).drew) (P7 2 O (Y8 O O ω) ((Kp.refl _ d).drew) (Pu 3 O O ((Kp.refl _ d).drew) (P7 4 O (Vu O O ω) ((Kp.refl _ d).drew) (P7 5 O (Y8 O O ω) ((Kp.refl _ d).drew) (P7 7 O (PU z3x O) ((Kp.refl _ d).drew) (qT 8 O (λ_ h=>Pl U9 O O (h.OZ zX ω) O) ((Kp.refl _ d).drew) (Pu 9 O O ((Kp.refl _ d).drew) (P7 10 O (Y8 O O ω) ((Kp.refl _ d).drew) (P7 11 O (z1H U9 O O ω) ((Kp.refl _ d).drew) (P7 6 O (zgW (i:=s*512) (j:=(s+1)*512) QX YS O O O ω ω) ((Kp.refl _ d).drew) (qO 12 ?_)))))))))))));refine z0n (i:=12) O O O (zl0 QX YS O O ((Ext.Pz d).OZ mq) (by simp[eF];omega)) ?_;rintro _ w6⟨rfl,U,V⟩;refine⟨(Kp.refl _ d).drew.trans V,?_⟩
       have e6:((x.2.drop (s*512)).take ((s+1)*512-s*512)).map TX=((x.2.drop (512*s)).take 512).map TX:=by
        rw[show(s+1)*512-s*512=512 by omega,y0J]
       rw[e6,show 0+s*512*1=512*s by omega,z7T _ _ _ _ (by simp[eF,Q.2.2];omega)] at U
       have em:mixN mk u x.2 (s+1)=z9J (mixN mk u x.2 s) (512*s) ((x.2.drop (512*s)).take 512):=by
        simp only[mixN,hq,ob,if_true]
       rw[<-em] at U;refine qE<|An<|Pc O<|Qj O<|Ph O<|P4 ?_;exact(A (s+1) w6 ⟨ω,U,c.trans ((Kp.refl _ d).drew.trans V)⟩ ω).qb
      ·have ob:¬q%2=1:=ω
       have em:mixN mk u x.2 (s+1)=mixN mk u x.2 s:=by simp only[mixN,hq,ob,if_false]
       rw[<-em] at mq;refine P5<|An<|Pc O<|Qj O<|Ph O<|P4 ?_;exact(A (s+1) d ⟨ω,mq,c⟩ ω).qb
     ·have DB:s=D.N:=ω
      subst DB;have H:=n.kp c λk hk cY=>by have:=lV k hk;omega
      obtain⟨kv,Z,F⟩:=H.map;have Md:=H.OZ;have IQ:Ext P d:=b.It c (λj hj=>ω);have uJ:=qH.ext IQ;refine Pf O (RI (λw'=>Kp (λk=>k=m) d w') O (Pu 0 O O ((Kp.refl _ d).drew) (P7 1 O (QL O) ((Kp.refl _ d).drew) (P7 2 O (PU z3C O) ((Kp.refl _ d).drew) (qT 3 O (λ_ h=>(Pl z7x O O (h.OZ Md H.pm) O)) ((Kp.refl _ d).drew) (P7 4 O (PU z0T O) ((Kp.refl _ d).drew) (qT 5 O (λ_ z=>(Pl U3 O O (z.OZ zX ω) O)) ((Kp.refl _ d).drew) (Pu 6 O O ((Kp.refl _ d).drew) (qT 7 O (λ_ h=>zb5 (l:=mixN mk u x.2 D.N) QX U5 U9 O (h.OZ mq ω) (z4L _ _ _ ω) ω) ((Kp.refl _ d).drew) (qO 8 (Q0 (i:=8) O O (zmu (k:=x.1) (K:=KI) z7x (Sx U3) O O O (Ext.map (Ext.Pz d) Z)) ?_)))))))))));rintro f⟨gN,Y⟩;refine⟨(Kp.refl _ d).drew.trans Y,?_⟩;have R:=(Kp.refl (λi=>i=m) d).drew.trans Y;have L:=H.put F gN R (H.ok.put ⟨Q.1,Q.2.1⟩ (Xj mk u x.2 D.N mn Q.2.2 D.N (y02 _)))
      have ef:upd (D.fallTo l J mk i) x.1 (mixN mk u x.2 D.N)=D.fallTo l J mk (i+1):=by
       rw[ZW T,if_pos uI,<-ib];rfl
      simp only[ef] at L;refine qE<|An<|An<|Pc O<|Qj O<|Ph O<|P4 ?_;exact(ih (i+1) f ⟨ω,L,uJ.kpm Z R,R.OZ zW ω,cb.trans (IQ.kp.trans R)⟩ ω).qb
   ·have Fu:=n.OZ;refine qN O<|Pr zeG O<|qV (Pl Rp O O G O)<|Ph O<|Px zhY O (z3Y (.slice ac l.length C) l (i:Int) P hl qH) ?_;rintro _ r⟨rfl,rfl⟩;refine Pq O<|Pn O (λo=>?_)<|λo=>?_
    ·obtain⟨kv,Z,F⟩:=n.map;refine RI (λw'=>Kp (λk=>k=m) r w') O (Pu 0 O O ((Kp.refl _ r).drew) (P7 1 O (QL O) ((Kp.refl _ r).drew) (P7 2 O (PU z3C O) ((Kp.refl _ r).drew) (qT 3 O (λ_ h=>(Pl z7x O O (h.OZ Fu n.pm) O)) ((Kp.refl _ r).drew) (P7 4 O (PU z0T O) ((Kp.refl _ r).drew) (qT 5 O (λ_ z=>(Pl U3 O O (z.OZ M ω) O)) ((Kp.refl _ r).drew) (P7 6 O (PU z3x O) ((Kp.refl _ r).drew) (qT 7 O (λ_ z=>(Pl U9 O O (z.OZ M ω) O)) ((Kp.refl _ r).drew) (qO 8 (Q0 (i:=8) O O (zmu (k:=x.1) (K:=KI) z7x (Sx U3) O O O (Ext.map (Ext.Pz r) Z)) ?_))))))))));rintro f⟨gN,Y⟩;refine⟨(Kp.refl _ r).drew.trans Y,?_⟩;have R:=(Kp.refl (λi=>i=m) r).drew.trans Y;have L:=n.put F gN R (n.ok.put ⟨Q.1,Q.2.1⟩ Q.2.2)
     have ef:upd (D.fallTo l J mk i) x.1 x.2=D.fallTo l J mk (i+1):=by
      rw[ZW T,if_neg uI,if_pos o]
     simp only[ef] at L;refine qE<|An<|An<|Pc O<|Qj O<|Ph O<|P4 ?_;exact(ih (i+1) f ⟨ω,L,qH.kpm Z R,R.OZ G ω,cb.trans R⟩ ω).qb
    ·have ef:D.fallTo l J mk i=D.fallTo l J mk (i+1):=by
      rw[ZW T,if_neg uI,if_neg o]
     rw[ef] at n;refine P5<|An<|An<|Pc O<|Qj O<|Ph O<|P4 ?_;exact(ih (i+1) r ⟨ω,n,qH,G,cb⟩ ω).qb
  ·have o:i=D.cache.length:=ω
   subst o;have Fu:=n.OZ;refine Pf O (PL O (PQ O (Pr Ze O (Po O (QZ z8W O O O Fu ξ) ?_))));rintro w5⟨aD,ai⟩;refine qM O (Ph O (qV (T3 (cs:=[_,_,_,_]) z9l O zkr O O) (PQ O (Pr XT O (Po O (Qh z9l O O O O aD ξ) ?_)))));rintro w6⟨U,V⟩;replace U:Pm w6 p [I 0,.slice none 0 0,I 0,TX 0,I (D.B:Int),I (D.N:Int),.map (some m),.slice none 0 0,.bool D.down,I D.calls,I D.reads] 132:=U;refine P4 (Ra O (PQ O (Pr z3F O (Po O (QZ TZ O O O U ξ) ?_))));rintro f⟨bE,Y⟩;refine P4<|Qu func217 O ?_;have zY:=(ai.trans V).trans Y;obtain⟨kv,Z,F⟩:=n.map;refine⟨_,O,O,⟨bE,⟨kv,zY.map Z λe=>n.pm e.symm,F⟩,Sl.nil f _ _,Sl.nil f _ _,?_⟩,?_⟩
   ·exact⟨n.ok.hB,n.ok.hN,by simp[Dev.zd7],n.ok.sf,λx T=>by simp[Dev.zd7] at T,by have:=aB;simp[Dev.zd7];omega,n.ok.reads⟩
   ·exact((Ext.kp W).trans (te.Pk λ_ h=> .inr h)).trans (zY.Pk λ_ h=> .inl h)
def Dev.push (D:Dev)(n:Int)(s:P8):Dev:={D with cache:=D.cache++[(n,s)]}
def zbx {e:Env}{d:Option Nat}{pos:String}{g:Option (Nat×Bool)}{x:Operand}{a b:Int}(l:look e x=some (I a))(n:look e y=some (I b)):Y P e ⟨d,.binOp .add t x y t',ty,pos,aft,g⟩ (I (IntKind.i64.wrap (a+b))) w w:=fun ρ h=>by simp[execOp,go_sem,h _ _ l,h _ _ n]
def Dev.zfX (D:Dev):Dev:=D.zd7 D.SY D.zdA D.mask
def Dev.write (D:Dev)(n:Int)(s:P8):Dev×Int:=
 if D.down then(D,8)
 else if D.has n=false\/s.length≠512*D.N then(D,1)
 else if D.due=1 then(((D.push n s).count).zfX,8) else((D.push n s).count,0)
def Dev.read (D:Dev)(n:Int):Dev×P8×Int:=
 if D.down then(D,[],8) else if D.has n=false then(D,[],1) else({D with reads:=IntKind.i64.wrap (D.reads+1)},D.now n,0)
def z1p (w:World)(p m:Nat)(kp ca:Value)(D':Dev)(w':World):Prop:=∃e d,Si w' p m e d D'/\Upd (fpD p m kp ca) (fpD p m e d) w w'
def z1p.same {kp:Value}{D:Dev}(h:Si w' p m kp ca D)(k:Ext w w'):z1p w p m kp ca D w':=⟨kp,ca,h,k.upd⟩
def zbR {kp:Value}(k:Kp (λi=>i=p\/i=m) w w'):Upd (fpD p m kp ca) (fpD p m (.slice none 0 0) (.slice none 0 0)) w w':=
 ⟨k.Pk λi hi=>hi.elim .inl λh=> .inr (.inl h),λi hi=>by
  rcases hi with h|h|h| h
  ·exact .inl (.inl h)
  ·exact .inl (.inr (.inl h))
  ·cases h
  ·cases h⟩
section
variable {kp:Value}{D:Dev}
theorem zcV (n:Int)(h:Si w p m kp ca D)(C:D.Bd):
  PN prog 158 [ptr p 0,I n] w λv w'=>v= .tuple #[S (D.read n).2.1,I (D.read n).2.2]/\z1p w p m kp ca (D.read n).1 w':=by
 refine py (e:=[(0,_),(1,_)]) func158 O ntmps158 O O<|qN O<|QS O<|Qi O<|Px zfM O (z3u h) ?_
 rintro _ w1⟨rfl,rfl⟩
 cases l:D.down with
 | true =>
   refine Rq O<|R5 O<|P4<|Pn O (λd=>?_)<|λd=>?_
   ·refine PL O<|QS O<|P3 func158 O ?_;have e:D.read n=(D,[],8):=by simp[Dev.read,l]
    rw[e];exact⟨_,O,O,z1p.same h (Ext.refl _)⟩
   ·exact absurd ψ d
 | false =>
   refine Rq O<|R5 O<|P4<|Pn O (λd=>?_)<|λd=>?_
   ·exact absurd d ψ
   ·refine P5<|OY<|QG O<|Px zfo O (z8r n h) ?_;rintro _ w2⟨rfl,rfl⟩
    cases B:D.has n with
    | false =>
      refine qV (SD O)<|P4<|Pp O<|qN O<|QS O<|P3 func158 O ?_;have e:D.read n=(D,[],1):=by simp[Dev.read,l,B]
      rw[e]
      exact⟨_,O,O,z1p.same h (Ext.refl _)⟩
    | true =>
      refine qV (SD O)<|P4<|P9 O ?_;have x:=h.OZ;refine P5 (PL O (PQ O (Pr z8s O (qV (Pl U3 O O x O) (qV (zbx O O) (PQ O (Pr z8s O (Po O (QZ Qe O O O x ξ) ?_))))))));rintro J⟨G,q⟩;have u:=h.turn (D':={D with reads:=IntKind.i64.wrap (D.reads+1)}) G q O O O O ⟨h.ok.hB,h.ok.hN,h.ok.due,h.ok.sf,h.ok.cache,h.ok.len,trivial⟩;refine qM O<|PB O<|Px zjx O (zet n u C.2.1) ?_;rintro _ K⟨rfl,r⟩;refine QS O<|P3 func158 O ?_;have e:D.read n=({D with reads:=IntKind.i64.wrap (D.reads+1)},D.now n,0):=by simp[Dev.read,l,B]
      rw[e];exact⟨_,O,O,kp,ca,u.ext r,(q.Pk λ_ h=> .inl h).trans r.kp,λ_ h=> .inl h⟩
theorem zap (n:Int)(s:P8)(h:Si w p m kp ca D)(r:D.Bd)(hk:D.SY.length<=17592186044416):
  PN prog 193 [ptr p 0,I n,S s] w λv w'=>v=I (D.write n s).2/\z1p w p m kp ca (D.write n s).1 w':=by
 have eF:maxLen=9223372036854775807:=rfl
 obtain⟨H,fg,qp⟩:=r
 have Me:=h.ok.len
 refine py (e:=[(0,_),(1,_),(2,_)]) func193 O ntmps193 O O<|Re O<|Qi O<|Px zfM O (z3u h) ?_
 rintro _ w1⟨rfl,rfl⟩
 cases C:D.down with
 | true =>
   refine Rq O<|R5 O<|P4<|Pn O (λJ=>?_)<|λJ=>?_
   ·refine PL O<|Pq O<|P3 func193 O ?_;have e:D.write n s=(D,8):=by simp[Dev.write,C]
    rw[e];exact⟨_,O,O,z1p.same h (Ext.refl _)⟩
   ·exact absurd ψ J
 | false =>
   refine Rq O<|R5 O<|P4<|Pn O (λJ=>?_)<|λJ=>?_
   ·exact absurd J ψ
   ·refine P5<|OY<|QG O<|Px zfo O (z8r n h) ?_;rintro _ w2⟨rfl,rfl⟩
    cases G:D.has n with
    | false =>
      refine qV (SD O)<|Ph O<|QV<|QV<|qS<|Rr O<|P4<|Pp O<|Re O<|P3 func193 O ?_;have e:D.write n s=(D,1):=by simp[Dev.write,C,G]
      rw[e]
      exact⟨_,O,O,z1p.same h (Ext.refl _)⟩
    | true =>
      have f:0<=n/\n<(D.B:Int):=by simpa[Dev.has] using G
      refine qV (SD O)<|PB O<|qV (WW U9 O)<|Ph O<|Px zgZ O (z2m h) ?_;rintro _ w3⟨rfl,rfl⟩;refine R5 O<|Ql O<|P4<|Pn O (λE=>?_)<|λE=>?_
      ·refine Re O<|P3 func193 O ?_
       have e:D.write n s=(D,1):=by
        have:s.length≠512*D.N:=ω
        simp[Dev.write,C,G,this]
       rw[e];exact⟨_,O,O,z1p.same h (Ext.refl _)⟩
      ·have R:s.length=512*D.N:=ω
       obtain⟨a,cap,rfl,ha⟩:=h.cache.rd.shape;have X:=h.OZ;refine P5 (QG O (PQ O (Pr Ze O (qV (Pl z0S O O X O) (PB O (qV (T3 (cs:=[_,_]) Xa O zhn O O) (Pb O O (YD (cs:=[_,_]) (zs:=[Value.int .i64 0,Value.string ⟨#[]⟩]) z0S Xa O Pd O O O ψ) ?_)))))));rintro _ w4⟨b4,rfl,⟨g7,u,aF⟩,L⟩;have oc:=h.cache.ext u;refine Pb O O (pap z0S Xa O ψ O O oc L.rd (by intro c r;simp at r;rcases r with rfl|rfl<;>rfl) ω ω) ?_;rintro Y w5⟨b,M,k,-⟩;have o:oneV Y=true:=by rcases b.shape with⟨rfl,-⟩|⟨g,cap,rfl,-⟩<;>rfl
       have l:=h.ext u
       have lI:∀g,(Value.slice a D.cache.length cap).ownBlock=some g->¬g=p:=λg hg qF=>by
        obtain⟨xs,P,q⟩:=TP l.cache hg;obtain⟨fz,hb,-⟩:=l.OZ;rw[qF,hb] at q;cases q
       have qI:=M.OZ l.OZ (λhg=>lI p hg O);refine PQ O (Pr Ze O (Po O (QZ z8W O O o qI ξ) ?_));rintro w6⟨z,K⟩;have gT:=h.OZ.lt
       have V:Si w6 p m kp Y (D.push n s):=by
        refine⟨z,?_,?_,?_,?_⟩
        ·obtain⟨kv,kC,ny⟩:=l.map;exact⟨kv,K.map (M.map kC λhg=>(l.zk5 hg).2.1 O) λe=>l.pm e.symm,ny⟩
        ·have e:wrs (D.push n s).cache=wrs D.cache++[I n,S s]:=by simp[Dev.push,wrs,wr]
         have F:(D.push n s).cache.length=D.cache.length+1:=by simp[Dev.push]
         rw[e,F];refine b.kp K λg hg=>?_;rcases k g hg with d|d
         ·exact(l.zk5 d).1
         ·have:=u.size;omega
        ·refine(l.SY.kp M λg hg r=>(l.zkC hg).2.2 r).kp K λg hg=>(l.zkC hg).1
        ·refine⟨h.ok.hB,h.ok.hN,h.ok.due,h.ok.sf,λx q=>?_,h.ok.len,h.ok.reads⟩;simp only[Dev.push,y0u,y0z] at q;rcases q with q|rfl
         ·exact h.ok.cache x q
         ·exact⟨f.1,f.2,R⟩
       refine P4<|PM.qb (e:=[(0,_),(6,_)]) ?_;refine Qi O<|Px zhh O (z4z V H) ?_;rintro _ w7⟨rfl,Q,A⟩
       have j:Upd (fpD p m kp (.slice a D.cache.length cap)) (fpD p m kp Y) w3 w7:=by
        refine⟨(u.kp.trans (M.Pk λi hi=> .inr (.inr (.inl hi)))).trans ((K.Pk λi hi=> .inl hi).trans (A.Pk λi hi=> .inl hi)),λi hi=>?_⟩;rcases hi with d|d|d|d
        ·exact .inl (.inl d)
        ·exact .inl (.inr (.inl d))
        ·rcases k i d with Z|Z
         ·exact .inl (.inr (.inr (.inl Z)))
         ·have:=u.size;exact .inr ω
        ·exact .inl (.inr (.inr (.inr d)))
       refine P4<|Pn O (λU=>?_)<|λU=>?_
       ·have t:=Q.OZ;refine QG O (PQ O (Pr XT O (Pr ze9 O (qV (PO zbz O zdg O (Pm.cells (n:=3) t (news:=[_,_,_]) O) O) (Px zkf O (zcA Q D.SY D.zdA D.mask hk Q.SY.rd (by show(D.cache++[(n,s)]).length<2000000000000;simp;omega)) ?_)))));rintro _ w8⟨rfl,W,y⟩;refine qM O<|Pq O<|P3 func193 O ?_
        have e:D.write n s=(((D.push n s).count).zfX,8):=by
         have T:D.due=1:=U;simp[Dev.write,C,G,R,T]
        rw[e];exact⟨_,O,O,_,_,W,j.trans (zbR y)⟩
       ·refine P5<|Re O<|P3 func193 O ?_
        have e:D.write n s=((D.push n s).count,0):=by
         have T:¬D.due=1:=U;simp[Dev.write,C,G,R,T]
        rw[e];exact⟨_,O,O,_,_,Q,j⟩
end
section
variable {D:Dev}
def Dev.z97 (D:Dev)(n:Nat):List P8:=(List.range n).map λj:Nat=>D.now (j:Int)
@[simp] theorem imageTo_length (D:Dev) (n:Nat):(D.z97 n).length=n:=by simp[Dev.z97]
theorem zde {v:Value}{e size n:Nat}(h:Sl w v e size n cs):oneV v=true:=by
 rcases h.shape with⟨rfl,-⟩|⟨g,cap,rfl,-⟩<;>rfl
end
def z0q (b n:Int):Prop:=16<=b/\b<=4096/\1<=n/\n<=8
instance (b n:Int):Decidable (z0q b n):=by unfold z0q;infer_instance
def Dev.fresh (B N:Nat):Dev:=⟨0,[],0,0,B,N,λ_=>none,[],false,0,0⟩
def zar (b n:Int)(w:World):PN prog 61 [.agg #[I b,I n]] w λv w'=>v=I (if z0q b n then 0 else 1)/\Ext w w':=by
 refine py (e:=[(0,_)]) func61 O ntmps61 O O<|qN O<|Pb O O (RP O O) ?_
 rintro _ w1⟨b1,rfl,C,h,d⟩
 by_cases hg:z0q b n
 ·obtain⟨l,q,r,g4⟩:=hg;refine Pq O<|OY<|qN O<|Pr ZS O<|qV (Pl U3 O O d O)<|QY O<|Qb<|Ph O<|Pr ZS O<|qV (Pl U3 O O d O)<|R8 O<|Qb<|Ql O<|Ph O ?_;refine Pr z0j O<|qV (Pl U3 O O d O)<|QY O<|Qb<|Ql O<|Ph O<|Pr z0j O<|qV (Pl U3 O O d O)<|R8 O<|Qb<|Ql O<|QC O<|Re O<|P3 func61 O ?_;exact⟨_,O,by rw[if_pos ⟨l,q,r,g4⟩];rfl,h⟩
 ·refine Pq O<|OY<|qN O<|Pr ZS O<|qV (Pl U3 O O d O)<|QY O<|SS (λu=>?_)<|λu=>?_
  ·refine Ph O<|QV<|qS<|Rr O<|Ph O<|QV<|qS<|Rr O<|Ph O<|QV<|qS<|Rr O<|P4<|Pp O ?_;refine Re O<|P3 func61 O ?_;exact⟨_,O,by rw[if_neg hg];rfl,h⟩
  ·refine Ph O<|Pr ZS O<|qV (Pl U3 O O d O)<|R8 O<|Ql O<|SS (λx=>?_)<|λx=>?_
   ·refine Ph O<|QV<|qS<|Rr O<|Ph O<|QV<|qS<|Rr O<|P4<|Pp O<|Re O<|P3 func61 O ?_;exact⟨_,O,by rw[if_neg hg];rfl,h⟩
   ·refine Ph O<|Pr z0j O<|qV (Pl U3 O O d O)<|QY O<|Ql O<|SS (λB=>?_)<|λB=>?_
    ·refine Ph O<|QV<|qS<|Rr O<|P4<|Pp O<|Re O<|P3 func61 O ?_;exact⟨_,O,by rw[if_neg hg];rfl,h⟩
    ·have:8<n:=by unfold z0q at hg;omega
     refine Ph O<|Pr z0j O<|qV (Pl U3 O O d O)<|R8 O<|RO<|Ql O<|P4<|Pp O<|Re O<|P3 func61 O ?_;exact⟨_,O,by rw[if_neg hg];rfl,h⟩
theorem zgf (B N:Nat)(w:World)(hg:z0q B N):PN prog 30 [.agg #[I (B:Int),I (N:Int)]] w λv w'=>∃p m,v= .tuple #[ptr p 0,I 0]/\Si w' p m (.slice none 0 0) (.slice none 0 0) (Dev.fresh B N)/\Ext w w'/\w.heap.size<=p/\w.heap.size<=m:=by
 obtain⟨K,M,Q,g4⟩:=hg
 refine py (e:=[(0,_)]) func30 O ntmps30 O O<|qN O<|Pb O O (RP O O) ?_
 rintro _ w1⟨b1,rfl,T,r,d⟩
 refine QS O<|OY<|qN O<|qV (PO U85 O zcW O (Pm.cells (n:=2) d (news:=[_,_]) O) O)<|Px zkF O (zar B N _) ?_
 rintro _ w2⟨rfl,l⟩
 rw[if_pos ⟨K,M,Q,g4⟩]
 replace d:=l.OZ d
 refine Rq O<|R5 O<|P4<|Pn O (λD=>?_)<|λD=>?_
 ·exact absurd D ψ
 ·refine P5<|qN O<|qV (PO U85 O zcW O (Pm.cells (n:=2) d (news:=[_,_]) O) O)<|Pb O O pmm ?_;rintro _ c⟨m,rfl,Z,u,S⟩;refine qV (T3 (cs:=[_,_,_,_,_,_,_,_,_,_,_]) zhS O zhM O O)<|Pb O O (RP O O) ?_;rintro _ q⟨p,rfl,a,C,J⟩;refine QS O<|P3 func30 O ?_;have U:=r.size;have Y:=l.size;have b:=u.size;have G:X9 KI q m []:=⟨⟨#[],0,C.heap S id,O⟩,ξ⟩;refine⟨_,O,p,m,O,⟨J,⟨[],G,λn=>rfl⟩,Sl.nil q _ _,Sl.nil q _ _,?_⟩,((r.trans l).trans u).trans C,ω,ω⟩;exact⟨⟨by show 16<=B;omega,by show B<=4096;omega⟩,⟨by show 1<=N;omega,by show N<=8;omega⟩,(by simp[Dev.fresh]),(λn s h=>by cases h),(λx R=>by cases R),(by simp[Dev.fresh]),(by simp[Dev.fresh])⟩
def over (s:P8)(e:Nat)(d:P8):P8:=s.take e++d++s.drop (e+d.length)
def Dev.zeR (D:Dev)(n e:Int)(d:P8):Prop:=D.has n=true/\0<=e/\e+(d.length:Int)<=((512*D.N:Nat):Int)
instance (D:Dev) (n at':Int) (d:P8):Decidable (D.zeR n at' d):=by unfold Dev.zeR;infer_instance
def zlQ (n:Int)(a:Nat)(d:P8)(x:Int×P8):Int×P8:=if x.1=n then(x.1,over x.2 a d) else x
def zfb (n:Int)(a:Nat)(d:P8)(l:List (Int×P8))(i:Nat):List (Int×P8):=(l.take i).map (zlQ n a d)++l.drop i
@[simp] theorem corTo_length (n:Int) (a:Nat) (d:P8) (l:List (Int×P8)) (i:Nat):(zfb n a d l i).length=l.length:=by simp[zfb];omega
theorem z7a (l:List (Int×P8))(x:Int×P8)(n:Int):X4 (l++[x]) n=if x.1=n then some x.2 else X4 l n:=by
 unfold X4
 rw[List.reverse_append,List.reverse_singleton,y31,List.find?_cons]
 by_cases h:x.1=n
 ·simp[h]
 ·have d:(x.1==n)=false:=by simpa using h
  simp[d,h]
/-! ### Bounds -/
def Dev.Small (D:Dev)(k:Nat):Prop:=D.calls<=k/\D.cache.length<=k/\True/\D.SY.length<=17592186044416
def Dev.Small.bd {D:Dev}(h:D.Small k)(d:k<1000000000000):D.Bd:=⟨by have:=h.1;omega,by have:=h.2.1;omega,trivial⟩
/-! ### By footprints -/
def zaT (w:World)(p:Nat)(F:Nat->Prop)(D':Dev)(w':World):Prop:=∃d,WN w' p D' d/\Upd F d w w'
def z1p.toA {kp:Value}{D':Dev}(r:∀k,F k↔fpD p m kp ca k)(h:z1p w p m kp ca D' w'):zaT w p F D' w':=by
 have e:F=fpD p m kp ca:=funext λk=>propext (r k)
 subst e
 obtain⟨l,d,n,q⟩:=h
 exact⟨_,⟨m,l,d,n,λk=>y0U⟩,q⟩
section
variable {D:Dev}
theorem zb2 (h:WN w p D F):PN prog 154 [ptr p 0] w λv w'=>v= .bool D.down/\w'=w:=by
 obtain⟨m,kp,ca,d,e⟩:=h;exact zby d
theorem zas (h:WN w p D F):PN prog 95 [ptr p 0] w λv w'=>v=I ((512*D.N:Nat):Int)/\w'=w:=by
 obtain⟨m,kp,ca,d,e⟩:=h;exact z2m d
theorem X8 (h:WN w p D F):PN prog 138 [ptr p 0] w λv w'=>v=I (D.B:Int)/\w'=w:=by
 obtain⟨m,kp,ca,d,e⟩:=h;exact z7B d
theorem z6R (n:Int)(s:P8)(h:WN w p D F)(d:D.Small k)(u:k<1000000000000):
  PN prog 193 [ptr p 0,I n,S s] w λv w'=>v=I (D.write n s).2/\zaT w p F (D.write n s).1 w':=by
 obtain⟨m,kp,ca,l,r⟩:=h
 exact(zap n s l (d.bd u) d.2.2.2).mono λv w' ⟨e,q⟩=>⟨e,q.toA r⟩
theorem zaz (n:Int)(h:WN w p D F)(u:D.Small k)(r:k<1000000000000):
  PN prog 158 [ptr p 0,I n] w λv w'=>v= .tuple #[S (D.read n).2.1,I (D.read n).2.2]/\zaT w p F (D.read n).1 w':=by
 obtain⟨m,kp,ca,d,q⟩:=h
 exact(zcV n d (u.bd r)).mono λv w' ⟨e,l⟩=>⟨e,l.toA q⟩
theorem zdu (B N:Nat)(w:World)(hg:z0q B N):PN prog 30 [.agg #[I (B:Int),I (N:Int)]] w λv w'=>∃p F,v= .tuple #[ptr p 0,I 0]/\WN w' p (Dev.fresh B N) F/\Ext w w'/\∀i,F i->w.heap.size<=i:=
 (zgf B N w hg).mono λv w' ⟨p,m,e,h,d,l,n⟩=>⟨p,_,e,⟨m,_,_,h,λk=>y0U⟩,d,λi hi=>by
  rcases hi with h|h|h| h
  ·omega
  ·omega
  ·cases h
  ·cases h⟩
end
def zaT.kpF {D':Dev}(h:zaT w p F D' w'):Kp F w w':=by
 obtain⟨e,-,d⟩:=h
 exact d.1
def nrm (z b:Int):Int:=(z.tmod b+b).tmod b
def Vn (z b:Int)(d:0<b): -b<z.tmod b/\z.tmod b<b:=by
 have e:=y3h z d
 refine⟨?_,e⟩
 have h:=y3h (-z) d
 rw[Int.neg_tmod] at h
 omega
def XD (z b:Int)(d:0<b):0<=nrm z b/\nrm z b<b:=by
 obtain⟨e,h⟩:=Vn z b d
 unfold nrm
 exact⟨Int.tmod_nonneg _ ω,y3h _ d⟩
theorem zd1 {D:Dev}{n:Int}(d:D.down=false)(l:D.due=0)(q:0<=n/\n<(D.B:Int))(h:s.length=512*D.N):D.write n s=((D.push n s).count,0):=by
 have e:D.has n=true:=by simp[Dev.has];omega
 unfold Dev.write
 rw[if_neg (by simp[d]),if_neg (by simp[e,h]),if_neg ω]
def grow:Nat->P8->Nat->P8
 |0,s,_=>s
 |f+1,s,n=>if s.length<n then grow f (s++s) n else s
def fill (s:P8)(n:Nat):P8:=(grow (n+1) (if s=[] then [0] else s) n).take n
section
variable {κ:Type}[DecidableEq κ]{K:κ->Value}{e:Env}{d:Option Nat}{pos:String}{g:Option (Nat×Bool)}{x:Operand}{z:Value}{size:Nat}{k:κ}
theorem zlq (ht:P.underlying t=some (.map kt el))(h:Ky P kt K)(C:TI P el z size bytes)(v:look e x=some (.map none))(B:look e y=some (K k)):
  Y P e ⟨d,.lookup t x y false,ty,pos,aft,g⟩ z w w:=fun ρ n=>by
 have q:=C.zero (w:=w)
 have D:=λb=>h.same.choose_spec.2.2 w b 9999 k
 have r:=h.same.choose_spec.1
 simp[execOp,n _ _ v,n _ _ B,Instr.lookup,run_underlying ht,D,q,Instr.findKey,run_underlying r,Instr.findNow]
end
structure QM (w:World)(ks mp:Value)(l:List Int):Prop where
 sl:Sl w ks 3 1 l.length (l.map I)
 mp:(mp= .map none/\l=[])\/∃b,mp= .map (some b)/\T6 KI w b (l.map λk=>(k,I 1))
 n:l.length<=8192
def Fq (ks mp:Value)(b:Nat):Prop:=ks.ownBlock=some b\/mp= .map (some b)
section
variable {l:List Int}{S:Nat->Prop}{k:Int}
theorem QM.kp (h:QM w ks mp l)(q:Kp S w w')(r:∀b,Fq ks mp b->¬S b):QM w' ks mp l:=
 ⟨h.sl.kp q λg e=>r g (.inl e),by
  rcases h.mp with e|⟨b,e,v⟩
  ·exact .inl e
  ·exact .inr ⟨b,e,v.kp q (r b (.inr e))⟩,h.n⟩
def QM.lt (h:QM w ks mp l)(q:Fq ks mp b):b<w.heap.size:=by
 rcases q with e| e
 ·exact h.sl.lt e
 ·rcases h.mp with⟨n,-⟩|⟨v,n,r⟩
  ·rw[n] at e;cases e
  ·rw[n] at e;cases e;exact r.lt
def QM.ne (h:QM w ks mp l)(B:ks.ownBlock=some b):mp≠ .map (some b):=λe=>by
 obtain⟨r,v⟩:=h.sl.typed B
 rcases h.mp with⟨n,-⟩|⟨D,n,C⟩
 ·rw[n] at e;cases e
 ·rw[n] at e;cases e;obtain⟨⟨G,cl,q,-⟩,-⟩:=C;rw[v] at q;cases q
theorem QM.nd (h:QM w ks mp l):l.Nodup:=by
 rcases h.mp with⟨-,e⟩|⟨q,r,n⟩
 ·rw[e];exact y1J
 ·have:=n.nd;rw[y1q] at this;have e:((λp:Int×Value=>p.1) ∘ λk:Int=>(k,I 1))=id:=rfl;rw[e,y2Z] at this;exact this
theorem z6k (l:List Int)(k:Int):RJ (l.map λk=>(k,I 1)) k=if k∈l then some (I 1) else none:=by
 induction l with
 |nil=>rfl
 | cons a l n =>
   show(if k=a then some (I 1) else RJ (l.map λk=>(k,I 1)) k)=_;rw[n];by_cases h:k=a
   ·simp[h]
   ·simp[h]
theorem zbo (l:List Int)(k:Int):delL (l.map λk=>(k,I 1)) k=(l.erase k).map λk=>(k,I 1):=by
 induction l with
 |nil=>rfl
 | cons a l n =>
   show(if k=a then l.map (λk=>(k,I 1)) else(a,I 1)::delL (l.map λk=>(k,I 1)) k)=_;rw[n,List.erase_cons];by_cases h:k=a
   ·subst h;simp
   ·rw[if_neg h,if_neg (by simpa using λe=>h e.symm)];rfl
theorem yqk {e:Env}{d:Option Nat}{pos:String}{g:Option (Nat×Bool)}{x:Operand}(ht:P.underlying t=some (.map kt el))(n:P.underlying kt=some (.int .i64))(B:TI P el (I 0) 1 bytes)(r:look e x=some mp)(v:look e y=some (I k))(D:QM w ks mp l):
  Y P e ⟨d,.lookup t x y false,ty,pos,aft,g⟩ (I (if k∈l then 1 else 0)) w w:=by
 rcases D.mp with⟨rfl,rfl⟩|⟨b,rfl,C⟩
 ·rw[if_neg ξ];exact zlq (k:=k) (K:=KI) ht (Sx n) B r v
 ·have h:=ylk (k:=k) (K:=KI) (d:=d) (ty:=ty) (pos:=pos) (aft:=aft) (g:=g) ht (Sx n) B r v C.l;rw[z6k] at h;by_cases q:k∈l
  ·rw[if_pos q] at h⊢;exact h
  ·rw[if_neg q] at h⊢;exact h
def zct (hB:Pm w c cs 190)(n:cs[o+1]? =some mp)(q:QM w ks mp l):PN prog 178 [ptr c o,I k] w λv w'=>v= .bool (decide (k∈l))/\w'=w:=by
 refine py (e:=[(0,_),(1,_)]) func178 O ntmps178 O O<|qN O<|Rq O<|PQ O<|Pr Zy O<|qV (Pl WO O O hB n)<|Ph O<|qV (yqk (k:=k) WO U3 Qe O O q)<|R8 O<|Pq O<|P3 func178 O (⟨_,O,?_,O⟩)
 by_cases h:k∈l
 ·simp[h,Qy]
 ·simp[h,Qy]
theorem z6o {J:Value}(x:Int)(r:Rd w J 1 l.length (l.map I))(U:l.length<=4294967296):
  PN prog 206 [J,I x] w λv w'=>w'=w/\((x∉l/\v=I (-1))\/∃i:Nat,v=I (i:Int)/\l[i]? =some x/\x∉l.take i):=by
 obtain⟨a,cap,rfl,-⟩:=r.shape
 refine py (e:=[(0,_),(1,_)]) func206 O ntmps206 O O<|Re O<|Qi O<|RQ Rp O<|Ph O<|P4<|P6<|RX (α:=Nat) (0) (λi=>[(0,.slice a l.length cap),(1,I x),(7,I (l.length:Int)),(8,I (i:Int))]) (λi w'=>w'=w/\i<=l.length/\x∉l.take i) (λi=>l.length-i) ?hI ?hround
 case hI=>exact⟨O,y00 _,ξ⟩
 case hround=>
  rintro i f⟨rfl,hi,n⟩ R
  try dsimp only
  refine qN O<|QY O<|P4<|OY<|Pn O (λN=>?_)<|λN=>?_
  ·have M:i<l.length:=ω
   obtain⟨s,C⟩:∃s,l[i]? =some s:=⟨_,y03 M⟩
   obtain⟨Y,lo,Z,Q⟩:∃b o q,Value.slice a l.length cap= .slice (some ⟨b,o,none⟩) l.length q:=by
    rcases r.2 with⟨c,D,T⟩|⟨b,off,q,D,-⟩
    ·omega
    ·exact⟨b,off,q,D⟩
   cases Q;refine P5 (R0 (PL O (Ro O (PB O (Ph O (qV (Qc Rp Qe O O ω) (qV (PG U3 O O (Qs r (show(l.map I)[i]? =some (I s) by rw[y0i,C];rfl))) ?_)))))));refine Rx O<|P4<|Pn O (λB=>?_)<|λB=>?_
   ·refine PL O<|Pq O<|P3 func206 O ?_;exact⟨_,O,O,.inr ⟨i,O,by rw[B];exact C,n⟩⟩
   ·refine P5 (An (Pc O (Qj O (Ph O (P4 ((R (i+1) _ ⟨O,M,λG=>?_⟩ ω).qb))))));rw[Qa C,y0u,y0z] at G;rcases G with h| h
    ·exact n h
    ·exact B h
  ·have:i=l.length:=ω
   subst this;rw[y0F] at n;refine Pf O<|Re O<|P3 func206 O ?_;exact⟨_,O,O,.inl ⟨n,O⟩⟩
theorem zcq {x:Int}(h:l[i]? =some x)(n:x∉l.take i):l.take i++l.drop (i+1)=l.erase x:=by
 obtain⟨hi,e⟩:=y0m.1 h
 conv=>rhs;rw[<-y1c i l]
 rw[List.erase_append_right _ n,y2r hi,e,List.erase_cons_head]
theorem z5C {α:Type}{l:List α}{a:α}(h:l[i]? =some a):l.set i a=l:=by
 obtain⟨hi,e⟩:=y0m.1 h
 rw[<-e,List.set_getElem_self]
theorem z9Q (hB:Pm w c cs 190)(D:cs[o]? =some ks)(Z:cs[o+1]? =some mp)(q:QM w ks mp l)(nc:¬Fq ks mp c):PN prog 179 [ptr c o,I k] w λv w'=>∃r,v= .tuple #[]/\Pm w' c (cs.set o r) 190/\QM w' r mp (l.erase k)/\(∀b,Fq r mp b->Fq ks mp b)/\Kp (λb=>b=c\/Fq ks mp b) w w':=by
 have hn:=q.n
 have eA:=q.nd
 refine py (e:=[(0,_),(1,_)]) func179 O ntmps179 O O<|PL O<|PQ O<|Pr QB O<|qV (Pl Rp O O hB D)<|Ph O<|Px zfk O (z6o k q.sl.rd ω) ?_
 rintro _ w⟨rfl,F⟩
 rcases F with⟨A,rfl⟩|⟨i,rfl,hi,W⟩
 ·refine Rq O<|Uj O<|Qb<|QC O<|Qu func179 O (⟨_,O,ks,O,?_,?_,λb s=>s,Kp.refl _ _⟩)
  ·rw[z5C D];exact hB
  ·rw[y1w A];exact q
 ·have G:k∈l:=y0j hi;have f:=(y0m.1 hi).1;refine Rq O (Uj O (RO (P4 (Pp O (QG O (PQ O (Pr QB O (qV (Pl Rp O O hB D) (PB O (Qj O (Px zih O (zcN q.sl (λc t=>by obtain⟨z,-,rfl⟩:=y0h.1 t;rfl) f ω) ?_)))))))))));rintro B w2⟨C,J,R⟩
  have m:(l.map I).take i++(l.map I).drop (i+1)=(l.erase k).map I:=by
   rw[<-y1k,<-y1T,<-y0f,zcq hi W]
  rw[m] at C;have H:(l.erase k).length=l.length-1:=y3q G;rw[<-H] at C;have L:¬ks.ownBlock=some c:=λe=>nc (.inl e);have a:=J.OZ hB L;refine PQ O (Pr QB O (Po O (QZ z6A O O (zde C) a (by have:=(y0m.1 D).1;omega)) ?_));rintro w3⟨Y,M⟩
  obtain⟨b,rfl,E⟩:∃b,mp= .map (some b)/\T6 KI w b (l.map λk=>(k,I 1)):=by
   rcases q.mp with⟨-,e⟩| h
   ·rw[e] at G;cases G
   ·exact h
  have U:c≠b:=λe=>nc (.inr (by rw[e]));have T:ks.ownBlock≠some b:=λe=>q.ne e O;have zZ:o+1<cs.length:=(y0m.1 Z).1;have P:=(E.kp J T).kp M (λe=>U e.symm);have X:(cs.set (o+0) B)[o+1]? =some (Value.map (some b)):=by rw[y0A ω];exact Z
  refine P4<|Ra O<|PQ O<|Pr Zy O<|qV (Pl WO O O Y X)<|Ph O<|zbT O (zgw (k:=k) (K:=KI) WO (Sx U3) O O P O) ?_;rintro _ V⟨BT,N⟩;rw[zbo] at BT;refine P4<|PM.qb (e:=[]) ?_;refine Qu func179 O ?_;have p:Kp (λj=>j=c\/Fq ks (.map (some b)) j) w V:=((J.Pk λj e=> .inr (.inl e)).trans (M.Pk λj e=> .inl e)).trans (N.Pk λj e=> .inr (.inr (by rw[e])));exact⟨_,O,B,O,N.OZ Y U,⟨(C.kp M λg e Q=>nc (.inl (Q▸R g e))).kp N λg e Q=>T (Q▸R g e),.inr ⟨b,rfl,BT⟩,ω⟩,λj y=>y.imp (R j) id,p⟩
theorem zdh (hB:Pm w c cs 190)(h0:cs[o]? =some ks)(m:cs[o+1]? =some mp)(B:QM w ks mp l)(nc:¬Fq ks mp c)(hk:k∉l)(hl:l.length<=8191):PN prog 188 [ptr c o,I k] w λv w'=>∃C D,v= .tuple #[]/\Pm w' c ((cs.set (o+1) D).set o C) 190/\QM w' C D (l++[k])/\(∀b,Fq C D b->Fq ks mp b\/w.heap.size<=b)/\Kp (λb=>b=c\/Fq ks mp b) w w':=by
 have hn:=B.n
 have eA:=B.nd
 have lc:=hB.lt
 have L:o+1<cs.length:=(y0m.1 m).1
 obtain⟨G,rfl,W⟩:∃G,mp= .map G/\((G=none/\l=[])\/∃b,G=some b/\T6 KI w b (l.map λk=>(k,I 1))):=by
  rcases B.mp with⟨e,f⟩|⟨b,e,f⟩
  ·exact⟨_,e,.inl ⟨O,f⟩⟩
  ·exact⟨_,e,.inr ⟨b,O,f⟩⟩
 refine py (e:=[(0,_),(1,_)]) func188 O ntmps188 O O<|Qi O<|PQ O<|Pr Zy O<|qV (Pl WO O O hB m)<|qV (zj9 WO O O)<|P4<|Qf (λq w'=>∃b,q=[(0,ptr c o),(1,I k)]/\Pm w' c (cs.set (o+1) (.map (some b))) 190/\T6 KI w' b (l.map λk=>(k,I 1))/\Sl w' ks 3 1 l.length (l.map I)/\(G=some b\/w.heap.size<=b)/\Kp (λj=>j=c) w w'/\b≠c/\ks.ownBlock≠some b) ?bI<|λbI=>?cZ
 case bI=>
  rintro q w1⟨b,rfl,Q,U,jK,p,Y,t,E⟩;have oU:(cs.set (o+1) (Value.map (some b)))[o+1]? =some (.map (some b)):=y0Q L;have il:(cs.set (o+1) (Value.map (some b)))[o]? =some ks:=by rw[y0A ω];exact h0
  have z1:=Y.size;refine PL O<|PQ O<|Pr Zy O<|qV (Pl WO O O Q oU)<|Ph O<|Po O (zgr (k:=k) (K:=KI) WO (Sx U3) O O O U) ?_;rintro w2⟨i,r⟩;rw[Vq _ _ _ (by rw[z6k,if_neg hk])] at i;have R:=r.OZ Q (λe=>t e.symm);have db:=jK.kp r (λg e q=>E (q▸e));refine P4 (Pc O (PB O (PQ O (Pr QB O (qV (Pl Rp O O R il) (Ph O (Pb O O (YD (cs:=[_]) (zs:=[Value.int .i64 0]) Rp Qe O Pd O O O ψ) ?_)))))));rintro _ w3⟨a0,rfl,⟨Mh,J,eK⟩,P⟩;have lb:=i.lt;have z2:=r.size;refine Pb O O (pap Rp Qe O ψ O O (db.ext J) P.rd (by intro c F;simp at F;subst F;rfl) ω (by simp only[maxLen];omega)) ?_;rintro N w4⟨A,T,y,-⟩;have z3:=J.size;have z4:=T.size;have H:ks.ownBlock≠some c:=λe=>nc (.inl e);have aF:=T.OZ (J.OZ R) H;have BT:=(i.ext J).kp T E;refine PQ O (Pr QB O (Po O (QZ z6A O O (zde A) aF (by rw[y0x];omega)) ?_));rintro w5⟨aD,a⟩;refine P4<|Qu func188 O ?_
  have s:∀g,N.ownBlock=some g->g≠c:=λg e q=>by
   rcases y g e with h| h
   ·exact H (q▸h)
   ·omega
  have X:(l++[k]).length=l.length+1:=ξ
  refine⟨_,O,N,.map (some b),O,aD,⟨?_,.inr ⟨b,rfl,?_⟩,ω⟩,λj M=>?_,?_⟩
  ·rw[y0f,X];exact A.kp a λg e q=>s g e q
  ·rw[y0f];exact BT.kp a t
  ·rcases M with M|M
   ·rcases y j M with h| h
    ·exact .inl (.inl h)
    ·exact .inr ω
   ·cases M;rcases p with h| h
    ·exact .inl (.inr (by rw[h]))
    ·exact .inr h
  ·have V:Kp (λj=>j=c\/Fq ks (.map G) j) w w2:=by
    rcases p with h| h
    ·exact(Y.Pk λj e=> .inl e).trans (r.Pk λj e=> .inr (.inr (by rw[h,e])))
    ·exact(Y.Pk λj e=> .inl e).It r (λj e=>ω)
   exact((V.trans J.kp).trans (T.Pk λj e=> .inr (.inl e))).trans (a.Pk λj e=> .inl e)
 case cZ=>
  rcases W with⟨rfl,rfl⟩|⟨b,rfl,hm⟩
  ·refine Pp O<|Ra O<|Pb O O pmm ?_;rintro _ w1⟨b,rfl,p,Z,cT⟩;have U:T6 KI w1 b []:=T6.new cT;have Q:=Z.OZ hB;refine PQ O<|Pr Zy O<|Po O (QZ z8t O O O Q L) ?_;rintro w2⟨R,r⟩;refine P4 ?_;have lb:=U.lt;exact(bI _ _ ⟨b,O,R,U.kp r ω,(B.sl.ext Z).kp r (λg e q=>nc (.inl (q▸e))),.inr ω,Z.kp.trans r,ω,λe=>by have:=B.sl.lt e;omega⟩).qb
  ·refine Tj O ?_;exact(bI _ _ ⟨b,O,by rw[z5C m];exact hB,hm,B.sl,.inl O,Kp.refl _ _,λe=>nc (.inr (by rw[e])),λe=>B.ne e O⟩).qb
end
def Arc.li (A:Arc):Nat->List Int
 |0=>A.once
 |1=>A.often
 |2=>A.Pw
 |_=>A.Ps
def Arc.Qq (A:Arc):Nat->List Int->Arc
 |0,l=>{A with once:=l}
 |1,l=>{A with often:=l}
 |2,l=>{A with Pw:=l}
 |_,l=>{A with Ps:=l}
theorem Arc.zg9 (A:Arc)(d:j<4)(l:List Int)(i:Nat)(hi:i<4):(A.Qq j l).li i=if i=j then l else A.li i:=by
 match j,d,i,hi with
 |0,_,0,_|0,_,1,_|0,_,2,_|0,_,3,_|1,_,0,_|1,_,1,_|1,_,2,_|1,_,3,_|2,_,0,_|2,_,1,_|2,_,2,_|2,_,3,_|3,_,0,_|3,_,1,_|3,_,2,_|3,_,3,_=>rfl
def z2G (V:Nat->Value×Value)(j:Nat)(q:Value×Value)(i:Nat):Value×Value:=if i=j then q else V i
def acC (S:Nat)(T:Int)(V:Nat->Value×Value)(p:Nat):List Value:=[I (S:Int),(V 0).1,(V 0).2,(V 1).1,(V 1).2,(V 2).1,(V 2).2,(V 3).1,(V 3).2,I T,.map (some p)]
abbrev FV (V:Nat->Value×Value)(j b:Nat):Prop:=Fq (V j).1 (V j).2 b
structure Tg (w:World)(c:Nat)(A:Arc)(V:Nat->Value×Value)(p:Nat):Prop where
 OZ:Pm w c (acC A.size A.target V p) 190
 q:∀j,j<4->QM w (V j).1 (V j).2 (A.li j)
 pins:X9 KI w p []
 VH:∀i j,i<4->j<4->i≠j->∀b,FV V i b->¬FV V j b
 nc:∀j,j<4->¬FV V j c
 np:∀j,j<4->¬FV V j p
 cp:c≠p
def T5 (c:Nat)(V:Nat->Value×Value)(p b:Nat):Prop:=b=c\/b=p\/∃j,j<4/\FV V j b
section
variable {S:Nat->Prop}{k:Int}
theorem Tg.kp (h:Tg w c A V p)(d:Kp S w w')(e:∀b,T5 c V p b->¬S b):Tg w' c A V p:=
 ⟨d.OZ h.OZ (e _ (.inl O)),λj l=>(h.q j l).kp d λb n=>e b (.inr (.inr ⟨j,l,n⟩)),d.map h.pins (e _ (.inr (.inl O))),h.VH,h.nc,h.np,h.cp⟩
theorem Tg.ext (h:Tg w c A V p)(d:Ext w w'):Tg w' c A V p:=h.kp (S:=λ_=>False) d λ_ _=>id
theorem Tg.lt (h:Tg w c A V p)(d:T5 c V p b):b<w.heap.size:=by
 rcases d with e|e|⟨j,l,d⟩
 ·rw[e];exact h.OZ.lt
 ·rw[e];exact h.pins.lt
 ·exact(h.q j l).lt d
structure WV (w:World)(c:Nat)(V:Nat->Value×Value)(p:Nat)(w':World)(A':Arc)(V':Nat->Value×Value):Prop where
 m:Tg w' c A' V' p
 fp:∀b,T5 c V' p b->T5 c V p b\/w.heap.size<=b
 k:Kp (T5 c V p) w w'
theorem WV.trans (h:WV w c V p w' A' V')(d:WV w' c V' p w2 A2 V2):WV w c V p w2 A2 V2:=
 ⟨d.m,λb l=>by
  rcases d.fp b l with e| e
  ·exact h.fp b e
  ·exact .inr (by have:=h.k.size;omega),h.k.It d.k λb l=>(h.fp b l).symm⟩
theorem Tg.r (h:Tg w c A V p)(d:Ext w w'):WV w c V p w' A V:=⟨h.ext d,λb e=> .inl e,d.kp⟩
theorem Tg.upd (u:j<4)(h:Tg w c A V p){l:List Int}(hB:Pm w' c (acC A.size A.target (z2G V j (ks,mp)) p) 190)(M:(A.Qq j l).size=A.size/\(A.Qq j l).target=A.target)(T:QM w' ks mp l)(D:∀b,Fq ks mp b->FV V j b\/w.heap.size<=b)(I:Kp (λb=>b=c\/FV V j b) w w'):WV w c V p w' (A.Qq j l) (z2G V j (ks,mp)):=by
 have J:∀{b:Nat},T5 c V p b->b<w.heap.size:=h.lt
 have N:∀i,i<4->i≠j->∀b,FV V i b->¬(b=c\/FV V j b):=λi hi R b d e=>by
  rcases e with e| e
  ·exact h.nc i hi (e▸d)
  ·exact h.VH i j hi u R b d e
 have v:∀i,i≠j->z2G V j (ks,mp) i=V i:=λi e=>if_neg e
 have C:z2G V j (ks,mp) j=(ks,mp):=if_pos O
 refine⟨⟨by rw[M.1,M.2];exact hB,λi hi=>?_,I.map h.pins (λe=>?_),λi B hi G K b d r=>?_,λi hi d=>?_,λi hi d=>?_,h.cp⟩,λb d=>?_,I.Pk λb d=>?_⟩
 ·rw[Arc.zg9 A u l i hi];by_cases e:i=j
  ·rw[if_pos e,e,C];exact T
  ·rw[if_neg e,v i e];exact(h.q i hi).kp I λb d=>N i hi e b d
 ·rcases e with e| e
  ·exact h.cp e.symm
  ·exact h.np j u e
 ·by_cases e:i=j
  ·have x:B≠j:=λx=>K (e.trans x.symm);unfold FV at d r;rw[e,C] at d;rw[v B x] at r;rcases D b d with n|n
   ·exact h.VH j B u G (λQ=>x Q.symm) b n r
   ·have:=J (.inr (.inr ⟨B,G,r⟩));omega
  ·unfold FV at d r;rw[v i e] at d;by_cases x:B=j
   ·rw[x,C] at r;rcases D b r with n|n
    ·exact h.VH i j hi u e b d n
    ·have:=J (.inr (.inr ⟨i,hi,d⟩));omega
   ·rw[v B x] at r;exact h.VH i B hi G K b d r
 ·by_cases e:i=j
  ·unfold FV at d;rw[e,C] at d;rcases D c d with n|n
   ·exact h.nc j u n
   ·have:=h.OZ.lt;omega
  ·unfold FV at d;rw[v i e] at d;exact h.nc i hi d
 ·by_cases e:i=j
  ·unfold FV at d;rw[e,C] at d;rcases D p d with n|n
   ·exact h.np j u n
   ·have:=h.pins.lt;omega
  ·unfold FV at d;rw[v i e] at d;exact h.np i hi d
 ·rcases d with e|e|⟨i,hi,d⟩
  ·exact .inl (.inl e)
  ·exact .inl (.inr (.inl e))
  ·by_cases e:i=j
   ·unfold FV at d;rw[e,C] at d;rcases D b d with n|n
    ·exact .inl (.inr (.inr ⟨j,u,n⟩))
    ·exact .inr n
   ·unfold FV at d;rw[v i e] at d;exact .inl (.inr (.inr ⟨i,hi,d⟩))
 ·rcases d with e| e
  ·exact .inl e
  ·exact .inr (.inr ⟨j,u,e⟩)
def XC (S:Nat)(T:Int)(V:Nat->Value×Value)(p:Nat)(d:j<4):(acC S T V p)[1+2*j]? =some (V j).1/\(acC S T V p)[1+2*j+1]? =some (V j).2:=by
 match j,d with
 |0,_|1,_|2,_|3,_=>exact⟨O,O⟩
theorem zdF (S:Nat)(T:Int)(V:Nat->Value×Value)(p:Nat)(d:j<4)(ks mp:Value):((acC S T V p).set (1+2*j+1) mp).set (1+2*j) ks=acC S T (z2G V j (ks,mp)) p:=by
 match j,d with
 |0,_|1,_|2,_|3,_=>rfl
theorem zcs (S:Nat)(T:Int)(V:Nat->Value×Value)(p:Nat)(d:j<4)(ks:Value):(acC S T V p).set (1+2*j) ks=acC S T (z2G V j (ks,(V j).2)) p:=by
 match j,d with
 |0,_|1,_|2,_|3,_=>rfl
def z1m (A:Arc)(d:j<4)(l:List Int):(A.Qq j l).size=A.size/\(A.Qq j l).target=A.target:=by
 match j,d with
 |0,_|1,_|2,_|3,_=>exact⟨O,O⟩
def VX (h:Tg w c A V p)(d:j<4):PN prog 178 [ptr c (1+2*j),I k] w λv w'=>v= .bool (decide (k∈A.li j))/\w'=w:=
 zct h.OZ (XC _ _ _ _ d).2 (h.q j d)
theorem QI (h:Tg w c A V p)(d:j<4):PN prog 179 [ptr c (1+2*j),I k] w λv w'=>v= .tuple #[]/\∃V',WV w c V p w' (A.Qq j ((A.li j).erase k)) V':=by
 refine(z9Q h.OZ (XC _ _ _ _ d).1 (XC _ _ _ _ d).2 (h.q j d) (h.nc j d) (k:=k)).mono λv w' u=>?_
 obtain⟨x,rfl,hB,r,l,n⟩:=u
 rw[zcs _ _ _ _ d] at hB
 exact⟨O,_,h.upd d hB (z1m A d _) r (λb e=> .inl (l b e)) n⟩
def Rl (h:Tg w c A V p)(d:j<4)(e:k∉A.li j)(n:(A.li j).length<=8191):PN prog 188 [ptr c (1+2*j),I k] w λv w'=>v= .tuple #[]/\∃V',WV w c V p w' (A.Qq j (A.li j++[k])) V':=by
 refine(zdh h.OZ (XC _ _ _ _ d).1 (XC _ _ _ _ d).2 (h.q j d) (h.nc j d) e n).mono λv w' u=>?_
 obtain⟨x,B,rfl,hB,r,l,e⟩:=u
 rw[zdF _ _ _ _ d] at hB
 exact⟨O,_,h.upd d hB (z1m A d _) r l e⟩
def z7I (n:Nat):Arc:=⟨n,[],[],[],[],0⟩
def zdM {n:Nat}(h:1<=n):(z7I n).Ok:=⟨h,y1J,y00 _,y00 _,y00 _,⟨Int.le_refl _,by show(0:Int)<=(n:Int);omega⟩⟩
theorem zch (n:Nat)(G:1<=n)(J:n<=4096)(w:World):PN prog 62 [I (n:Int)] w λv w'=>∃c V p,v= .tuple #[ptr c 0,I 0]/\Tg w' c (z7I n) V p/\(∀b,T5 c V p b->w.heap.size<=b)/\Ext w w':=by
 refine py (e:=[(0,_)]) func62 O ntmps62 O O<|qN O<|QS O<|Qi O<|QY O<|Qb<|PB O<|R8 O<|Qb<|Ql O<|QC O<|PL O<|Pb O O pmm ?_
 rintro _ w1⟨p,rfl,M,r,C⟩
 refine qV (T3 (cs:=[_,_,_,_,_,_,_,_,_,_,_]) ziP O zii O O)<|Pb O O (RP O (cs:=acC n 0 (λ_=>(.slice none 0 0,.map none)) p) O) ?_
 rintro _ w2⟨c,rfl,K,u,B⟩
 refine QS O<|P3 func62 O ?_
 have x:T6 KI w1 p []:=T6.new C
 have N:=x.lt
 have q:∀b,¬Fq (.slice none 0 0) (.map none) b:=λb e=>by rcases e with e|e<;>cases e
 refine⟨_,O,c,_,p,O,⟨B,λj d=>⟨?_,?_,?_⟩,u.map x.l,λi j hi d D b h=>absurd h (q b),λj d=>q c,λj d=>q p,ω⟩,λb h=>?_,r.trans u⟩
 ·have e:(z7I n).li j=[]:=by match j,d with|0,_|1,_|2,_|3,_=>rfl
  rw[e];exact Sl.nil _ _ _
 ·left
  refine⟨O,?_⟩
  match j,d with|0,_|1,_|2,_|3,_=>rfl
 ·have e:(z7I n).li j=[]:=by match j,d with|0,_|1,_|2,_|3,_=>rfl
  rw[e];exact y00 _
 ·rcases h with e|e|⟨j,d,h⟩
  ·have:=r.size;omega
  ·omega
  ·exact absurd h (q b)
end
section
variable {k:Int}
theorem Tg.cells (h:Tg w c A V p):Pm w c [I (A.size:Int),(V 0).1,(V 0).2,(V 1).1,(V 1).2,(V 2).1,(V 2).2,(V 3).1,(V 3).2,I A.target,.map (some p)] 190:=h.OZ
theorem z2V (h:Tg w c A V p):PN prog 177 [ptr c 0,I k] w λv w'=>v= .bool (decide (k∈A.once\/k∈A.often))/\w'=w:=by
 have n:=VX h (j:=0) (k:=k) ψ
 have q:=VX h (j:=1) (k:=k) ψ
 rw[show A.li 0=A.once from rfl] at n
 rw[show A.li 1=A.often from rfl] at q
 refine py (e:=[(0,_),(1,_)]) func177 O ntmps177 O O<|qN O<|Rq O<|qV (z4x zb3 O O)<|PB O<|PQ O<|Pr R6 O<|Ph O<|Px Yi O n ?_
 rintro _ w⟨rfl,rfl⟩
 by_cases d:k∈A.once
 ·rw[decide_eq_true d];refine Ph O<|QV<|QV<|qS<|Rr O<|Rr O<|Pq O<|P3 func177 O ?_;exact⟨_,O,by rw[decide_eq_true (Or.inl d)];rfl,rfl⟩
 ·rw[decide_eq_false d];refine PB O<|PQ O<|Pr RT O<|Ph O<|Px Yi O q ?_;rintro _ w⟨rfl,rfl⟩;refine Ql O<|Rr O<|Pq O<|P3 func177 O (⟨_,O,?_,O⟩);by_cases l:k∈A.often
  ·simp[d,l,Qy]
  ·simp[d,l,Qy]
def Yq:List Int->Value
 |[]=> .tuple #[I 0,.bool false]
 |a::_=> .tuple #[I a,.bool true]
theorem Wc (h:Tg w c A V p)(M:j<4):PN prog 189 [ptr c 0,ptr c (1+2*j)] w λv w'=>v=Yq (A.li j)/\w'=w:=by
 have hB:=h.cells
 have hg:=(XC A.size A.target V p M).1
 have u:=h.q j M
 obtain⟨B,C,G,D⟩:∃a c,(V j).1= .slice a (A.li j).length c/\(a=none->(A.li j).length=0):=u.sl.rd.shape
 rw[G] at hg
 have d:=u.sl.rd
 have T:=u.n
 rw[G] at d
 refine py (e:=[(0,_),(1,_)]) func189 O ntmps189 O O<|qN O<|QS O<|Qi O<|PQ O<|Pr QB O<|qV (Pl Rp O O h.OZ hg)<|RQ Rp O<|Ph O<|P4<|P6 ?_
 cases N:A.li j with
 | nil =>
   rw[N] at d;refine RX (α:=Unit) () (λ_=>[(0,ptr c 0),(12,.slice B 0 C),(13,I 0),(14,I 0)]) (λ_ w'=>w'=w) (λ_=>0) ?hI ?hround
   case hI=>rfl
   case hround=>
    rintro i w2 rfl U
    try dsimp only
    refine qN O<|QY O<|Qb<|P4<|OY<|P9 O<|Pf O<|qN O<|Rq O<|QS O<|P3 func189 O ?_
    exact⟨_,O,O,O⟩
 | cons x r =>
   rw[N] at d D T
   obtain⟨Y,rfl⟩:∃b,B=some b:=by
    cases B with
    |none=>have:=D O;simp at this
    |some b=>exact⟨b,O⟩
   obtain⟨Z,lo,g,Q⟩:∃b o l,Value.slice (some Y) (x::r).length C= .slice (some ⟨b,o,none⟩) (x::r).length l:=by
    rcases d.2 with⟨c,J,R⟩|⟨b,off,l,J,-⟩
    ·simp at R
    ·exact⟨b,off,l,J⟩
   cases Q;have f:0<(x::r).length:=ξ
   refine RX (α:=Unit) () (λ_=>[(0,ptr c 0),(12,.slice (some ⟨Z,lo,none⟩) (x::r).length C),(13,I ((x::r).length:Int)),(14,I ((0:Nat):Int))]) (λ_ w'=>w'=w) (λ_=>0) ?hI ?hround
   case hI=>rfl
   case hround=>
    rintro i w2 rfl U
    try dsimp only
    refine qN O (QY O (RO (P4 (OY (Pp O (P5 (R0 (qN O (qV (Qc Rp Qe O O ω) (qV (PG U3 O O (Qs d (i:=0) (show((x::r).map I)[0]? =some (I x) from rfl))) (Rq O (PQ O (Pr z1k O ?_)))))))))))));refine qV (Pl WO O O hB O)<|Ph O<|qV (ylk (k:=x) (K:=KI) WO (Sx U3) Qe O O h.pins)<|Rx O<|RO<|P4<|Pp O<|PL O<|QS O<|P3 func189 O ?_;exact⟨_,O,O,O⟩
theorem z3c (h:Tg w c A V p)(n:A.Ok)(x:A.size<=1000):PN prog 190 [ptr c 0] w λv w'=>v= .bool (decide (A.once.length+A.often.length=A.size))/\Ext w w':=by
 have hB:=h.cells
 have B:=n.held
 obtain⟨r,c0,d,-⟩:∃a c,(V 0).1= .slice a A.once.length c/\_:=(h.q 0 ψ).sl.rd.shape
 obtain⟨u,c1,l,-⟩:∃a c,(V 1).1= .slice a A.often.length c/\_:=(h.q 1 ψ).sl.rd.shape
 rw[d,l] at hB
 have hg:=Ext.Pz w
 refine py (e:=[(0,_)]) func190 O ntmps190 O O<|Re O<|OY<|RI (λw'=>Ext w w') O<|Pu 0 O O hg<|P7 1 O (QL O) hg<|P7 2 O (PU R6 O) hg<|P7 3 O (PU QB O) hg<|qT 4 O (λ_ h=>Pl Rp O O (h.OZ hB) O) hg<|P7 5 O (T7 Rp O) hg<|Pu 6 O O hg<|P7 7 O (QL O) hg<|P7 8 O (PU RT O) hg<|P7 9 O (PU QB O) hg ?_
 refine qT 10 O (λ_ h=>Pl Rp O O (h.OZ hB) O) hg<|P7 11 O (T7 Rp O) hg<|P7 12 O (Vu O O ω) hg<|Pu 13 O O hg<|P7 14 O (QL O) hg<|P7 15 O (PU SW O) hg<|qT 16 O (λ_ h=>Pl U3 O O (h.OZ hB) O) hg<|P7 17 O (yeq O O) hg<|P7 18 O (S6 O) hg<|qE<|P3 func190 O (⟨_,O,?_,hg⟩)
 show Value.bool _=Value.bool _
 congr 1
 exact decide_eq_decide.2 ω
end
end Go.Proofs.YtbihggbffaigjaaGreatDoor
