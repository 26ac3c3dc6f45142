/- Merged by program. -/
import Derived.Test.YtbihggbffaigjaaGreatDoorZp4
set_option linter.all false
set_option maxRecDepth 1000000
set_option maxHeartbeats 16000000
namespace Go.Proofs.YtbihggbffaigjaaGreatDoor
open Go Go.RowKit Go.Proofs.Tryz
variable {A A' A2:Arc}{E:List (Nat×Nat)}{F X:Nat->Prop}{H L W:List Bool}{P:Program}{V V' V2:Nat->Value×Value}{a b b5 bytes cap fb gb gi i j k m o p pb z:Nat}{aft:Array Edge}{ca ks mp:Value}{cs:List Value}{el kt t t' ty:TypeId}{f:Fm}{g:List (List Nat)}{kv:List (Int×Value)}{nm:String}{s:Sa}{w w' w2:World}{y:Operand}
theorem z4m (n:Nat):T2 (List.replicate n false)=0:=by
 rw[<-ZJ,TD];simp
theorem z8l (b:List Bool)(k:Nat):T2 (b++List.replicate k false)=T2 b*2^k:=by
 rw[Vq,z4m,y0b,y1b]
theorem z5Q (b:List Bool)(k:Nat):T2 (List.replicate k false++b)=T2 b:=by
 rw[Vq,z4m];simp
theorem z4H {D:List Bool}(c:m<=D.length+a)(d:m<=D.length+b):(D++List.replicate a false).take m=(D++List.replicate b false).take m:=by
 rw[y2l,y2l,y2F,y2F,y0A ω,y0A ω]
def wdB (H:List Bool)(a:Nat):List Bool:=List.replicate (a%8) false++(H.drop a++List.replicate 64 false).take (64-a%8)
def zcE (H:List Bool)(a:Nat):(wdB H a).length=64:=by
 unfold wdB
 rw[y01,y0b,y0c,y01,y0b]
 omega
theorem zdc {fq n:Nat}(r:8*fq<H.length)(u:n=min 8 ((H.length+7) / 8-fq)):
  SA (((SM H).drop fq).take n)++List.replicate (64-8*n) false=(H.drop (8*fq)++List.replicate 64 false).take 64:=by
 obtain⟨z,c,l,q⟩:=VV H
 rw[Yn,Xr,c,y1j ω]
 have d:(H.drop (8*fq)).length=H.length-8*fq:=y08
 generalize H.drop (8*fq)=D at d
 rcases y0a n 8 with h| h
 ·have e:8*n=D.length+z:=ω
  rw[y0B (by rw[y01,y0b];omega),y06,y2W];rw[z4H (a:=64) (b:=z+(64-8*n)) ω ω,y0B (by rw[y01,y0b];omega)]
 ·have e:n=8:=ω
  subst e;rw[show 64-8*8=0 from rfl,y2N,y0q];exact z4H ω ω
def zdT (h:W.length=64){d:Nat}(l:d<=64):T2 W%2^(64-d)=T2 (List.replicate d false++W.drop d):=by
 have c:=Vq (W.take d) (W.drop d)
 rw[y1c,y08,h] at c
 have e:=Uy (W.drop d)
 rw[y08,h] at e
 rw[z5Q,c,y1x,Nat.add_mul_mod_self_right,y0e e]
def zdE (d:a<H.length):List.replicate (a%8) false++((H.drop (8*(a / 8))++List.replicate 64 false).take 64).drop (a%8)=wdB H a:=by
 unfold wdB
 congr 1
 have c:a%8<=(H.drop (8*(a / 8))).length:=by rw[y08];omega
 rw[y1u,y1j c,y0G,show 8*(a / 8)+a%8=a by omega]
theorem zes {r:Nat}(d:a<H.length)(hr:a / 8*8+64=H.length+r):∃q,T2 (wdB H a)=q*2^r:=by
 have c:(H.drop a).length=H.length-a:=y08
 refine⟨T2 (List.replicate (a%8) false++H.drop a),?_⟩
 rw[<-z8l]
 congr 1
 unfold wdB
 rw[y06,z4H (a:=64) (b:=r) ω ω,y0B (by rw[y01,y0b];omega)]
theorem zdH {d:Nat}(h:d<=64):18446744073709551615 / 2^d=2^(64-d)-1:=by
 have l:0<2^d:=y0z d
 have c:2^64=2^d*2^(64-d):=by rw[<-y0P,show d+(64-d)=64 by omega]
 have n:0<2^(64-d):=y0z _
 have e:18446744073709551615=(2^d-1)+2^d*(2^(64-d)-1):=by
  rw[Nat.mul_sub,<-c,y0j];have q:2^d<=2^64:=y0v ψ h;omega
 rw[e,y2t _ _ l,y2h ω,y0g]
def zc2 {b:List Bool}(h:b.length=64):T2 b<18446744073709551616:=by
 have:=Uy b
 rw[h] at this
 exact this
def zkg (l:List Nat)(f:Fm)(c:f.high=12+(SM (W9 f.width l)).length){n:Nat}(h:o+n<=(SM (hiB f.width 0 0 l)).length):((efT l f).drop (f.high+o)).take n=((SM (hiB f.width 0 0 l)).drop o).take n:=by
 unfold efT
 exact piece (by rw[y01,show SM (SJ 32 f.n++SJ 64 f.u)=SM (WV f) from rfl,Yf,c]) h
theorem Zx.high {l:List Nat}(c:Zx l f z):f.high=12+(SM (W9 f.width l)).length:=by
 unfold Fm.high
 rw[T3,Yr,c.n]
theorem Zx.bits {l:List Nat}(c:Zx l f z):f.bits=(hiB f.width 0 0 l).length:=by
 rw[z4x f.width c.nof c.last]
 rw[c.fe]
 show(z+1-1) / _+_=_
 rw[y1h]
 rfl
theorem zb5 {u:Value}{l:List Nat}(M:Zx l f z)(R:Src t u (efT l f))(hI:R.inv X w)(hX:∀k,X k->k<w.heap.size){x b3 v v0:Nat}(p:X x)(o:X b3)(Z:X v)(b:v≠x/\v≠b3)(hB:Sk w x (elC f t u) 293)(T:Sk w b3 [ptr x 0] 156)(aZ:Sk w v [Su v0] 39)(ha:a<f.bits):
  SG prog 247 [I (a:Int),ptr b3 0,ptr v 0] w λr w'=>r=I 0/\R.inv X w'/\Kp (λk=>¬X k\/k=v) w w'/\Sk w' v [Su (T2 (wdB (hiB f.width 0 0 l) a))] 39:=by
 have ax:=M.len
 obtain⟨A0,AU⟩:=M.size_le
 have s:=M.small
 have oC:=Fm.z0K s
 have gt:=s.2.2
 have V:=M.bits
 have AW:=M.high
 have gS:(SM (hiB f.width 0 0 l)).length=(f.bits+7) / 8:=by rw[T3,V]
 replace hB:Sk w x [I (f.n:Int),Su f.u,I (f.width:Int),I (f.bits:Int),.iface t u] 293:=hB
 refine py (e:=[(0,_),(1,_),(2,_)]) func247 O ntmps247 O O<|qN O<|TR O<|qV (zkv O O ω)<|Up O<|qV (Sc z5w O O T O)<|SC O<|Sn W7 O<|Sn z1Q O<|qV (Sc U3 O O hB O)<|Tr O<|qV (yqu O O ω)<|Sf O<|qV (yqu O O ω) ?_
 refine UO O ?_
 rw[show((f.bits:Int)+7) / 8-((a / 8*8:Nat):Int) / 8=(((f.bits+7) / 8-a / 8:Nat):Int) by omega]
 refine qV (ymi O O) ?_
 rw[show min (8:Int) (((f.bits+7) / 8-a / 8:Nat):Int)=((min 8 ((f.bits+7) / 8-a / 8):Nat):Int) by omega]
 obtain⟨n,hn⟩:∃n,n=min 8 ((f.bits+7) / 8-a / 8):=⟨_,O⟩
 rw[<-hn]
 have hg:=Ext.Sv w
 refine Sq O<|It<|Ux (λw'=>Kp (λk=>¬X k) w w') O<|qT 0 O (λ_ D=>(Sc z5w O O (D.S4 T (λe=>e o)) O)) hg.kp<|S8 1 O (Tu O) hg.kp<|S8 2 O (SN z6X O) hg.kp<|qT 3 O (λ_ D=>(Sc z5B O O (D.S4 hB (λe=>e p)) O)) hg.kp<|qT 4 O (λ_ D=>(Sc z5w O O (D.S4 T (λe=>e o)) O)) hg.kp<|S8 5 O (Tu O) hg.kp<|S8 6 O (SN W7 O) hg.kp<|St 9 O O hg.kp<|S8 10 O (yqu O O ω) hg.kp<|St 12 O O hg.kp<|qT 7 O (λ_ D=>SO (news:=fmC f) z2r O Xa O ((D.S4 hB (λe=>e p)).cells (n:=4) O) O) hg.kp ?_
 refine S8 13 O (zlg O) hg.kp<|St 14 O O hg.kp<|VF 8 O zj5 O (z8Q f s _) ?_
 rintro _ w1⟨rfl,j⟩
 refine⟨(hg.trans j).kp,?_⟩
 have B:=hg.trans j
 refine S8 11 O (YB O O ω) ((hg.trans j).kp) ?_
 rw[show(f.high:Int)+((a / 8*8:Nat):Int) / 8=((f.high+a / 8:Nat):Int) by omega]
 have jG:=R.ext hI B (λk G=> .inl G)
 have fX:∀k,X k->k<w1.heap.size:=λk G=>by have:=hX k G;have:=B.size;omega
 have wM:a / 8+n<=(SM (hiB f.width 0 0 l)).length:=by rw[gS];omega
 have wO:f.high+a / 8+n<=(efT l f).length:=by
  rw[ax];have e:f.size=f.YF+4*((f.n+63) / 64):=rfl;have e2:f.YF=f.high+(f.bits+7) / 8:=rfl;omega
 have kK:=zkg l f AW wM
 have pJ:=zdc (H:=hiB f.width 0 0 l) (fq:=a / 8) (n:=n) ω (by rw[<-V];exact hn)
 refine qO 15<|z0r (i:=15) O O O (yci R.cr R.mr O O) (R.rd (f.high+a / 8) n jG fX wO) ?_
 rintro _ w2⟨rfl,cC,C⟩
 refine⟨B.kp.trans C,?_⟩
 rw[kK]
 have Y:Kp (λk=>¬X k) w w2:=B.kp.trans C
 have ak:=Y.S4 hB (λe=>e p)
 have dt:=Y.S4 T (λe=>e o)
 have wk:=Y.S4 aZ (λe=>e Z)
 have H6:(((SM (hiB f.width 0 0 l)).drop (a / 8)).take n).length=n:=by rw[y0c,y08];omega
 generalize ((SM (hiB f.width 0 0 l)).drop (a / 8)).take n=pt at pJ H6
 refine St 16 O O (B.kp.trans C)<|S8 17 O (UY O O) (B.kp.trans C)<|S8 18 O (UY O O) (B.kp.trans C)<|S8 19 O (UU O) (B.kp.trans C)<|S8 20 O (UU O) (B.kp.trans C)<|qE<|SI.qb (e:=[(0,_),(1,_),(2,_),(4,_),(5,_),(6,_),(7,_),(8,_)]) ?_
 refine SE O<|Sr zbQ O (z0D pt ω w2) ?_
 rintro _ w3⟨rfl,J⟩
 refine Sf O<|qV (Zf O O ω)<|UO O ?_
 rw[show(64:Int)-8*(n:Int)=((64-8*n:Nat):Int) by omega]
 refine qV (UQ (64-8*n) (2^(64-8*n)) O O ω O) ?_
 have g:=z8l (SA pt) (64-8*n)
 rw[pJ] at g
 have O4:((hiB f.width 0 0 l).drop (8*(a / 8))++List.replicate 64 false).take 64=((hiB f.width 0 0 l).drop (8*(a / 8))++List.replicate 64 false).take 64:=rfl
 obtain⟨N,A⟩:∃N,N=((hiB f.width 0 0 l).drop (8*(a / 8))++List.replicate 64 false).take 64:=⟨_,O⟩
 have E:N.length=64:=by rw[A,y0c,y01,y0b];omega
 have F:=zdE (H:=hiB f.width 0 0 l) (a:=a) ω
 rw[<-A] at g F
 have W:=zdT E (d:=a%8) ω
 rw[F] at W
 have wP:=zc2 E
 rw[<-g,y0e wP]
 refine Sm O (TO YI O O O (J.S4 wk) ξ) ?_
 rintro y⟨U,S⟩
 replace U:Sk y v [Su (T2 N)] 39:=U
 have aG:=S.S4 (J.S4 ak) (λe=>b.1 e.symm)
 have dj:=S.S4 (J.S4 dt) (λe=>b.2 e.symm)
 have mN:=R.own (R.ext cC J (λk G=> .inl G)) S (λk e=>by rw[e];exact Z)
 have c:=Ext.Sv y
 refine S5<|It<|Sx [6] (λw'=>Ext y w') y00 O<|qL 0 O (λ_ h=>Sc Va O O (h.S4 U) O) c<|Te 1 O O c<|Te 2 O O c<|SB 3 O (ysb O O ω) c ?_
 rw[show(a:Int)-((a / 8*8:Nat):Int)=((a%8:Nat):Int) by omega]
 refine SB 4 O (XE (m:=18446744073709551615) (a%8) (2^(a%8)) O O (by show a%8<=64;omega) O) c ?_
 rw[zdH (d:=a%8) ω]
 have O5:2^(64-a%8)<=2^64:=y0v ψ ω
 refine SB 5 O (Yx O O ω ω) c ?_
 rw[y14,W]
 refine Wg [6]<|qO 6<|SY (i:=6) O O (TO YI O O O (c.S4 U) ξ) ?_
 rintro w5⟨K,Q⟩
 refine⟨trivial,?_⟩
 replace K:Sk w5 v [Su (T2 (wdB (hiB f.width 0 0 l) a))] 39:=K
 have aF:=Q.S4 (c.S4 aG) (λe=>b.1 e.symm)
 have cJ:=Q.S4 (c.S4 dj) (λe=>b.2 e.symm)
 have ni:=R.own (R.ext mN c (λk G=> .inl G)) Q (λk e=>by rw[e];exact Z)
 have P:Kp (λk=>¬X k\/k=v) w w5:=(((Y.Se λk e=> .inl e).trans J.kp).trans (S.Se λk e=> .inr e)).trans (c.kp.trans (Q.Se λk e=> .inr e))
 have H8:=zc2 (zcE (hiB f.width 0 0 l) a)
 refine qE<|SX O<|Tr O<|qV (Sc z5w O O cJ O)<|SC O<|Sn W7 O<|Sn z1Q O<|qV (Sc U3 O O aF O)<|UO O<|Sq O<|SI.qb (e:=[(2,_),(4,_),(8,_),(9,_)]) ?_
 refine SE O<|Ub O<|S5<|So O (λh0=>?_)<|λh0=>?_
 ·obtain⟨r,hr⟩:∃r,a / 8*8+64=f.bits+r:=⟨a / 8*8+64-f.bits,ω⟩;obtain⟨q,hq⟩:=zes (H:=hiB f.width 0 0 l) (a:=a) (r:=r) ω ω;rw[show((a / 8*8:Nat):Int)+64-(f.bits:Int)=(r:Int) by omega];have hp:=y0z r
  have AZ:T2 (wdB (hiB f.width 0 0 l) a) / 2^r*2^r%18446744073709551616=T2 (wdB (hiB f.width 0 0 l) a):=by
   rw[y0e (y1Z (y1O _ _) H8),hq,Nat.mul_div_cancel _ hp]
  refine Sg O (qV (Sc Va O O K O) (Sf O (qV (XE r (2^r) O O (by show r<=64;omega) O) ?_)));refine Sf O (qV (UQ r (2^r) O O ω O) ?_);rw[AZ];refine Sm O (TO YI O O O K ξ) ?_;rintro w6⟨lQ,L⟩;refine qM O<|Sf O<|Sq O<|S3 func247 O ?_;exact⟨_,O,O,R.own ni L (λk e=>by rw[e];exact Z),P.trans (L.Se λk e=> .inr e),lQ⟩
 ·refine S6<|SE O<|Sq O<|S3 func247 O ?_;exact⟨_,O,O,ni,P,K⟩
def z8h:∀{W:List Bool} {k p:Nat},Vd W k=some p->∃z r,W=List.replicate z false++true::r
 |true::W,k,p,h=>⟨0,W,rfl⟩
 | false :: W, k, p, h => by
   simp only[Vd,y1W] at h;obtain⟨q,c,-⟩:=h;obtain⟨z,r,e⟩:=z8h c
   exact⟨z+1,r,by rw[e,y17];rfl⟩
 |[],k,p,h=>by simp[Vd] at h
theorem z9I (z:Nat)(r:List Bool)(k:Nat):Vd (List.replicate z false++true::r) (k+1)=Vd (List.replicate (z+1) false++r) k:=by
 rw[Yd,Yd,Vd,y2i]
 congr 1
 funext j;show j+1+z=j+(z+1);omega
theorem zdQ (z:Nat)(r:List Bool):Vd (List.replicate z false++true::r) 0=some z:=by
 rw[Yd,Vd];simp
def zbf (z:Nat)(r:List Bool):Tp (T2 (List.replicate z false++true::r))=r.length+1:=by
 rw[z1B]
 have:=Uy r
 exact zcl ω (by rw[y1R];omega)
theorem z6j (n:Nat):(List.replicate n false).count true=0:=by
 rw[List.count_replicate];rfl
theorem z6m (H:List Bool)(a:Nat):(wdB H a).count true=((H.drop a).take (64-a%8)).count true:=by
 unfold wdB
 rw[y3v,z6j,y0g,y2l,y3v,y2F,z6j];omega
def zhY (h:W.length=64):(SJ 64 (T2 W)).count true=W.count true:=by
 have:=z54 W
 rw[h] at this
 rw[this]
def zhc {q:Nat}(h:Vd (H.drop a) k=some q)(c:k<(wdB H a).count true):Vd (wdB H a) k=some (a%8+q):=by
 rw[z6m] at c
 have d:=z0v ((H.drop a).take (64-a%8)) ((H.drop a).drop (64-a%8)) k
 rw[y1c,if_pos c,h] at d
 unfold wdB
 rw[Yd,y2l,z0v,if_pos c,<-d]
 show some (q+a%8)=_
 rw[y1x]
theorem zec {q:Nat}(h:Vd (H.drop a) k=some q)(n:(wdB H a).count true<=k):64-a%8<=q/\Vd (H.drop (a / 8*8+64)) (k-(wdB H a).count true)=some (q-(64-a%8)):=by
 rw[z6m] at n⊢
 have d:=z0v ((H.drop a).take (64-a%8)) ((H.drop a).drop (64-a%8)) k
 rw[y1c,if_neg ω,h] at d
 obtain⟨p,c,e⟩:=y1W.1 d.symm
 have l:=(z3O c).1
 rw[y08] at l
 rw[y0c,y0A ω] at e
 rw[y0G,show a+(64-a%8)=a / 8*8+64 by omega] at c
 exact⟨ω,by rw[c];congr 1;omega⟩
theorem zcY {u:Value}{l:List Nat}(g:Zx l f z)(R:Src t u (efT l f))(hI:R.inv X w)(hX:∀k,X k->k<w.heap.size){x:Nat}(m:X x)(hB:Sk w x (elC f t u) 293){q:Nat}(aR:k<=1000000)(hq:Vd ((hiB f.width 0 0 l).drop p) k=some q):
  SG prog 239 [ptr x 0,I (p:Int),I (k:Int)] w λr w'=>r= .tuple #[I ((p+q:Nat):Int),I 0]/\R.inv X w'/\Kp (λj=>¬X j) w w':=by
 have ce:=g.bits
 have gt:=g.small.2.2
 have eG:=hX x m
 refine py (e:=[(0,_),(1,_),(2,_)]) func239 O ntmps239 O O<|qN O<|Sd O O (UD O (cs:=[ptr x 0]) O) ?_
 rintro _ w1⟨b3,rfl,dS,aa,au⟩
 refine Vj O<|Up O<|Sd O O (UK (cs:=[_]) YI O) ?_
 rintro _ w2⟨c,rfl,iH,Z,K⟩
 have z1:=aa.size
 have z2:=Z.size
 have l3:=au.lt
 have l8:=K.lt
 have b:=aa.trans Z
 have cC:R.inv (λj=>X j\/j=b3\/j=c) w2:=R.ext hI b (λj v=>by rcases v with e|e|e;exact .inl e;exact .inr ω;exact .inr ω)
 replace K:Sk w2 c [Su 0] 39:=K
 refine qM O<|qV (ymf (first:=[]) (caps:=[.tmp 3,.tmp 8]) O O)<|Sq O<|SX O<|Sq O<|S7<|UW (α:=Nat×Nat×Nat×Nat) (p,k,q,0) (λy=>[(2,I (y.2.1:Int)),(3,ptr b3 0),(8,ptr c 0),(9,.func (.func 247) #[] #[ptr b3 0,ptr c 0]),(10,I (y.1:Int))]) (λy w'=>R.inv (λj=>X j\/j=b3\/j=c) w'/\Kp (λj=>¬X j) w w'/\w2.heap.size<=w'.heap.size/\Sk w' x (elC f t u) 293/\Sk w' b3 [ptr x 0] 156/\Sk w' c [Su y.2.2.2] 39/\Vd ((hiB f.width 0 0 l).drop y.1) y.2.1=some y.2.2.1/\y.1+y.2.2.1=p+q/\y.2.1<=1000000) (λy=>f.bits-y.1) ?hI ?hround
 case hI=>exact⟨cC,b.kp,y07 _,b.S4 hB,Z.S4 au,K,hq,O,aR⟩
 case hround =>
  rintro⟨a,T,E,v4⟩ w4 ⟨mN,ao,Lr,J,S,dZ,Q,Gn,V⟩ ih;dsimp only at mN ao Lr J S dZ Q Gn V;have B1:=(z3O Q).1;rw[y08] at B1;have Ek:a<f.bits:=ω
  have B2:∀j,(X j\/j=b3\/j=c)->j<w4.heap.size:=λj v=>by
   rcases v with e|e| e
   ·have:=hX j e;omega
   ·omega
   ·omega
  have fY:Sk w4 x [I (f.n:Int),Su f.u,I (f.width:Int),I (f.bits:Int),.iface t u] 293:=J
  try dsimp only
  refine SX O<|qV (Sc z5w O O S O)<|SC O<|Sn W7 O<|Sn z1Q O<|qV (Sc U3 O O fY O)<|TW O<|S5<|So O (λh0=>?_)<|λh0=>?_
  ·refine S6 (TZ (It (TV O (Uk O O (Vc znh O O) (zb5 g R mN B2 (.inl m) (.inr (.inl O)) (.inr (.inr O)) ⟨ω,ω⟩ J S dZ Ek) ?_))));rintro _ L⟨rfl,ni,M,N⟩;have z5:=M.size;have cE:Kp (λj=>¬X j) w L:=ao.An M (λj v=>by rcases v with e|e;exact .inr (λh=>e (.inl h));exact .inl ω);have aF:=M.S4 J (λe=>by rcases e with e|e;exact e (.inl m);omega);have cJ:=M.S4 S (λe=>by rcases e with e|e;exact e (.inr (.inl O));omega);have C:=zcE (hiB f.width 0 0 l) a;have B4:=zc2 C;have uz:=zhY C;have rx:=λh=>zhc (H:=hiB f.width 0 0 l) Q h;have Ls:=λh=>zec (H:=hiB f.width 0 0 l) Q h
   generalize wdB (hiB f.width 0 0 l) a=W at C B4 uz rx Ls N
   have fd:W.count true<=64:=by rw[<-C];exact List.count_le_length
   refine TR O<|TK O<|Tt O<|It<|qN O<|qV (Sc Va O O N O)<|Sr znu O (zgA (T2 W) B4 L) ?_;rintro _ L⟨rfl,rfl⟩;rw[uz];refine Up O<|Sz O<|zle O<|S5<|So O (λh1=>?_)<|λh1=>?_
   ·obtain⟨dy,dG⟩:=Ls ω;refine TV O<|UO O<|Sq O<|Sh O<|Uw O ?_;rw[show(T:Int)-((W.count true:Nat):Int)=((T-W.count true:Nat):Int) by omega];refine qV (zkv O O ω)<|Tr O<|Sq O ?_;rw[show((a / 8*8:Nat):Int)+64=((a / 8*8+64:Nat):Int) by omega];exact(ih (a / 8*8+64,T-W.count true,E-(64-a%8),T2 W) _ ⟨ni,cE,ω,aF,cJ,N,dG,by dsimp only;omega,by dsimp only;omega⟩ (by dsimp only;omega)).qb
   ·have rl:=rx ω;refine S6<|TZ<|UW (α:=List Bool×Nat) (W,T) (λy=>[(2,I (y.2:Int)),(8,ptr c 0),(10,I (a:Int))]) (λy w'=>R.inv (λj=>X j\/j=b3\/j=c) w'/\Kp (λj=>¬X j) w w'/\Sk w' c [Su (T2 y.1)] 39/\y.1.length=64/\Vd y.1 y.2=some (a%8+E)/\y.2<=1000000) (λy=>y.2) ?hI ?hround
    case hI=>exact⟨ni,cE,N,C,rl,V⟩
    case hround=>
     rintro⟨W6,s⟩ w6 ⟨F,Y,G,A,B,H9⟩ o;dsimp only at F Y G A B H9;obtain⟨U,r,rfl⟩:=z8h B;have uA:=zbf U r;have O7:=z1B U r;have pM:=Uy r;have B5:=zc2 A;rw[y01,y0b,y03] at A
     try dsimp only
     refine SX O<|Ub O<|S5<|So O (λh2=>?_)<|λh2=>?_
     ·obtain⟨D,rfl⟩:∃D,s=D+1:=⟨s-1,ω⟩;rw[z9I] at B;have d:=Ext.Sv w6;refine S6 (TZ (Sx [6] (λw'=>Ext w6 w') y00 O (qL 0 O (λ_ h=>Sc Va O O (h.S4 G) O) d (qL 1 O (λ_ h=>Sc Va O O (h.S4 G) O) d (U6 (i:=2) y00 (Uu (i:=2) O O O (yc zit O) (zft _ B5 _) ?_))))));rintro _ w7⟨rfl,rfl⟩;refine⟨d,?_⟩;rw[uA];refine SB 3 O (ysb O O ω) d ?_;rw[show(63:Int)-((64-(r.length+1):Nat):Int)=(r.length:Int) by omega];refine SB 4 O (UQ r.length (2^r.length) O O ω O) d ?_;have gS:2^r.length<=2^63:=y0v ψ ω;rw[show 1*2^r.length%18446744073709551616=2^r.length by rw[y0Q];exact y0e ω];rw[O7];refine SB 5 O (zod ω pM O O O) d (Wg [6] (qO 6 (SY (i:=6) O O (TO YI O O O (d.S4 G) ξ) ?_)));rintro w8⟨P,aH⟩;refine⟨trivial,?_⟩;replace P:Sk w8 c [Su (T2 r)] 39:=P;refine qE<|S2<|Uw O<|UO O<|Sq O ?_;rw[show((D+1:Nat):Int)-1=(D:Int) by omega];refine(o (List.replicate (U+1) false++r,D) _ ⟨R.own (R.ext F d (λj v=> .inl v)) aH (λj e=> .inr (.inr e)),(Y.trans d.kp).An aH (λj e=> .inl ω),?_,?_,B,by dsimp only;omega⟩ (by dsimp only;omega)).qb
      ·dsimp only;rw[z5Q];exact P
      ·dsimp only;rw[y01,y0b];omega
     ·have fZ:s=0:=ω
      subst fZ;rw[zdQ] at B;have O8:U=a%8+E:=UC B;refine Sh O (SE O (qV (zkv O O ω) (qV (Sc Va O O G O) (Sr zit O (zft _ B5 _) ?_))));rintro _ w7⟨rfl,rfl⟩;rw[uA];refine Tr O ?_;rw[show((a / 8*8:Nat):Int)+((64-(r.length+1):Nat):Int)=((p+q:Nat):Int) by omega];refine To O<|S3 func239 O ?_;exact⟨_,O,O,R.ext F (Ext.refl _) (λj v=> .inl (.inl v)),Y⟩
  ·omega
theorem zgy (l:List Nat)(f:Fm)(d:f.YF=12+(SM (W9 f.width l)).length+(SM (hiB f.width 0 0 l)).length)(e:(SM (VL f.width l)).length=4):((efT l f).drop f.YF).take 4=SM (VL f.width l):=by
 have h:=piece (A:=SM (SJ 32 f.n++SJ 64 f.u)++SM (W9 f.width l)++SM (hiB f.width 0 0 l)) (B:=SM (VL f.width l)) (C:=[]) (off:=f.YF) (n:=4) (o:=0) (by rw[y01,y01,show SM (SJ 32 f.n++SJ 64 f.u)=SM (WV f) from rfl,Yf,d];omega) ω
 have c:((SM (VL f.width l)).drop 0).take 4=SM (VL f.width l):=by rw[y0V];exact y0B ω
 rw[y0q] at h
 exact h.trans c
theorem zfS {l:List Nat}{y:Nat}(h:l[0]? =some y)(q:y<4294967296):T2 (SA (SM (VL k l)))=y / 2^k/\(SM (VL k l)).length=4:=by
 obtain⟨r,rfl⟩:∃r,l=y::r:=by
  cases l with
  |nil=>simp at h
  |cons a r=>simp at h;subst h;exact⟨r,O⟩
 have hr:VL k (y::r)=SJ 32 (y / 2^k):=rfl
 obtain⟨z,c,d,n⟩:=VV (SJ 32 (y / 2^k))
 rw[bitsN_length] at d
 have e:z=0:=ω
 rw[hr,c,e,y2N,y0q,TD,T3,bitsN_length]
 have:=y0S y (2^k)
 exact⟨y0e ω,O⟩
theorem z5S {u:Value}{l:List Nat}(c:Zx l f z)(R:Src t u (efT l f))(hI:R.inv X w)(T:∀k,X k->k<w.heap.size){x:Nat}(D:X x)(hB:Sk w x (elC f t u) 293){v:Nat}(G:l[i]? =some v):
  SG prog 228 [ptr x 0,I (i:Int)] w λr w'=>r= .tuple #[Su v,I 0]/\R.inv X w'/\Kp (λj=>¬X j) w w':=by
 have de:=(y0p.1 G).1
 have b:=c.len
 have kM:=c.n2
 have s9:=c.n
 have zC:=c.zb
 have yT:f.width<=30:=by rw[c.fe];exact z2X ω
 have pL:=c.small
 have s:∀j y k U,l[j]? =some y->l[k]? =some U->j<=k->y<=U:=λj y k U o d P=>by
  obtain⟨a1,a2⟩:=y0p.1 o;obtain⟨b1,b2⟩:=y0p.1 d;rcases y0a j k with h| h
  ·have:=y1D.1 c.nof j k a1 b1 h
   rwa [a2,b2] at this
  ·have e:j=k:=Nat.le_antisymm P h;subst e;rw[o] at d;cases d;exact y07 _
 have Lg:v<=z:=s i v _ z G c.last ω
 obtain⟨B,M⟩:∃y,l[0]? =some y:=⟨_,y04 ω⟩
 have V:B<=v:=s 0 B i v M G (y02 _)
 obtain⟨W,iV⟩:=zfS (k:=f.width) M ω
 have L:=zgy l f (by
  have e:f.YF=f.high+(f.bits+7) / 8:=rfl
  rw[e,c.high,T3 (hiB f.width 0 0 l),c.bits]) iV
 have m:=z57 f.width l 0 0 0 B c.nof M (λy _=>y02 _)
 have F:=z57 f.width l 0 0 i v c.nof G (λy _=>y02 _)
 simp only[y1b,y2U] at m F
 have K:=z36 (hiB f.width 0 0 l) 0 (B / 2^f.width) i m
 rw[y0g,F] at K
 have Y:B / 2^f.width<=v / 2^f.width:=y1Q V
 have A:f.YF+4<=(efT l f).length:=by
  rw[b];have e:f.size=f.YF+4*((f.n+63) / 64):=rfl;rw[e,s9];omega
 have ic:f.YF<=40000000:=by have:=c.size_le.1;rw[b] at A;omega
 replace hB:Sk w x [I (f.n:Int),Su f.u,I (f.width:Int),I (f.bits:Int),.iface t u] 293:=hB
 refine py (e:=[(0,_),(1,_)]) func228 O ntmps228 O O<|qN O<|To O<|TZ<|SE O<|qV (T9 z5w O O)<|Sq O<|S9 O<|SE O<|TW O<|T0<|Sz O<|Sf O<|SC O ?_
 refine Sn W7 O<|Sn z1T O<|qV (Sc U3 O O hB O)<|WZ O<|T0<|Td O<|Sq O<|VP O<|S2<|It ?_
 have hg:=Ext.Sv w
 refine Ux (λw'=>Kp (λk=>¬X k) w w') O<|St 0 O O hg.kp<|S8 1 O (Tu O) hg.kp<|S8 2 O (SN z6X O) hg.kp<|qT 3 O (λ_ h=>Sc z5B O O (h.S4 hB (λe=>e D)) O) hg.kp<|St 4 O O hg.kp<|S8 5 O (Tu O) hg.kp<|S8 6 O (SN W7 O) hg.kp<|St 9 O O hg.kp<|S8 10 O (yqu O O ω) hg.kp<|S8 11 O (Zf O O ω) hg.kp<|qT 7 O (λ_ hS=>SO (news:=fmC f) z2r O Xa O ((hS.S4 hB (λe=>e D)).cells (n:=4) O) O) hg.kp<|S8 13 O (zlg O) hg.kp<|St 14 O O hg.kp ?_
 refine VF 8 O ziy O (z8B f pL _) ?_
 rintro _ w1⟨rfl,N⟩
 refine⟨(hg.trans N).kp,?_⟩
 have q:=hg.trans N
 have jG:=R.ext hI q (λk d=> .inl d)
 have fX:∀k,X k->k<w1.heap.size:=λk d=>by have:=T k d;have:=q.size;omega
 refine S8 12 O (YB O O ω) ((hg.trans N).kp) ?_
 rw[show(f.YF:Int)+4*((i:Int) / 64)=((f.YF:Nat):Int) by omega]
 refine qO 15<|z0r (i:=15) O O O (yci R.cr R.mr O O) (R.rd f.YF 4 jG fX A) ?_
 rintro _ w2⟨rfl,cC,C⟩
 refine⟨q.kp.trans C,?_⟩
 rw[L]
 have eT:Kp (λk=>¬X k) w w2:=q.kp.trans C
 refine St 16 O O (q.kp.trans C)<|S8 17 O (UY O O) (q.kp.trans C)<|S8 18 O (UY O O) (q.kp.trans C)<|S8 19 O (UU O) (q.kp.trans C)<|S8 20 O (UU O) (q.kp.trans C)<|qE<|SI.qb (e:=[(0,_),(1,_),(4,_),(5,_),(6,_),(7,_)]) ?_
 refine SX O<|TK O<|Tt O<|TV O<|Sr zbQ O (z0D (SM (VL f.width l)) ω w2) ?_
 rintro _ E⟨rfl,a⟩
 rw[W]
 have S:Kp (λk=>¬X k) w E:=eT.trans a.kp
 have uD:=R.ext cC a (λk d=> .inl d)
 have gx:∀k,X k->k<E.heap.size:=λk d=>by have:=T k d;have:=S.size;omega
 have au:=S.S4 hB (λe=>e D)
 have Oa:B / 2^f.width<=B:=y0S _ _
 have Ob:v / 2^f.width<=v:=y0S _ _
 have p:v / 2^f.width*2^f.width%18446744073709551616 |||v%2^f.width=v:=by
  have h1:=y1O v (2^f.width);rw[y0e ω,y0H,<-y28 (y13 _ (y0z _))];exact y2c v (2^f.width)
 have iD:v%2^f.width<=v:=Nat.mod_le _ _
 generalize Oc:v / 2^f.width=J at K Y Ob p
 generalize B / 2^f.width=yq at K Y Oa
 refine qV (T7 O Va U3 ω)<|Sf O<|qV (yre O O ω) ?_
 rw[show(i:Int)%64=(i:Int) by omega]
 refine Sr znv O (zcY c R uD gx D au (k:=i) ω K) ?_
 rintro _ w4⟨rfl,mN,ao⟩
 rw[show yq+(J+i-yq)=J+i by omega]
 have Q:=S.trans ao
 have H:∀k,X k->k<w4.heap.size:=λk d=>by have:=T k d;have:=Q.size;omega
 have aG:=Q.S4 hB (λe=>e D)
 refine Sf O<|Vk O<|To O<|SX O<|TK O<|Tt O<|TV O<|Sr znJ O (zdL c R mN H D aG G) ?_
 rintro _ w5⟨rfl,ni,ai⟩
 have g:=Q.trans ai
 have Z:=g.S4 hB (λe=>e D)
 have Ei:=c.u
 refine Sf O<|Vk O<|To O<|SI.qb (e:=[(0,_),(1,_),(4,_),(5,_),(7,_),(8,_),(9,_)]) ?_
 refine SX O<|TK O<|Tt O<|TV O<|UO O ?_
 rw[show((J+i:Nat):Int)-(i:Int)=(J:Int) by omega]
 refine qV (TM O U3 Va ω)<|Sf O<|SC O<|Sn W7 O<|Sn Xc O<|qV (Sc U3 O O Z O)<|qV (UQ f.width (2^f.width) O O ω O)<|Sf O ?_
 have Em:=y13 (J*2^f.width) (show 0<18446744073709551616 by decide)
 refine qV (z4i O O ω ω) ?_
 rw[p]
 refine Sq O<|It<|TV O<|TW O<|T0<|Sz O<|Sf O<|SC O<|Sn W7 O<|Sn zhh O<|qV (Sc Va O O Z O)<|WZ O<|T0<|Td O ?_
 refine S5<|SI.qb (e:=[(4,_),(5,_),(10,_),(93,_)]) ?_
 refine VP O<|SE O<|To O<|S3 func228 O ?_
 exact⟨_,O,O,ni,g⟩
def zeL (a b:Sa)(w:World)(c:(a++b).length<=100000000000):SG prog 150 [S (a++b),S a] w λu w'=>u= .bool true/\w'=w:=by
 rw[y01] at c
 have d:(a++b).length=a.length+b.length:=y01
 have ht:(a++b).take a.length=a:=y3p
 refine py (e:=[(0,_),(1,_)]) func150 O ntmps150 O O<|qN O<|TR O<|qV (Ys U9 O)<|Sf O<|qV (Ys U9 O)<|WZ O<|Ue<|Sz O<|Sf O<|qV (Ys U9 O)<|qV (z6a U9 O O ω)<|Sf O ?_
 rw[ht]
 refine qV (zof O O)<|Ue<|Uj O<|Sq O<|S3 func150 O ?_
 exact⟨_,O,O,O⟩
def zeK (a b:Sa)(w:World)(d:(a++b).length<=100000000000):SG prog 202 [S (a++b),S a] w λu w'=>u= .tuple #[S b,.bool true]/\w'=w:=by
 have h:(a++b).length=a.length+b.length:=y01
 have c:(a++b).drop a.length=b:=y34
 refine py (e:=[(0,_),(1,_)]) func202 O ntmps202 O O<|qN O<|To O<|It<|TV O<|Sr zma O (zeL a b w d) ?_
 rintro _ w⟨rfl,rfl⟩
 refine qV (Vn O)<|Tt O<|TV O<|qV (Ys U9 O)<|qV (z3t U9 O O ω) ?_
 rw[c]
 refine To O<|S3 func202 O ?_
 exact⟨_,O,O,O⟩
def zav (a b:Sa)(w:World)(c:(a++b).length<=100000000000):SG prog 170 [S (a++b),S a] w λu w'=>u= .tuple #[S b,.bool true]/\w'=w:=by
 refine py (e:=[(0,_),(1,_)]) func170 O ntmps170 O O<|qN O<|Vj O<|Up O<|Sz O<|Sr znQ O (zeK a b w c) ?_
 rintro _ w⟨rfl,rfl⟩
 refine Vk O<|To O<|S3 func170 O ?_
 exact⟨_,O,O,O⟩
theorem WQ {r b6 b7:Nat}(h:Xz w r s a)(B:Sk w b6 [ptr r 0] 289)(J:Sk w b7 [.bool false] 4)(d:b6≠r/\b7≠r/\b6≠b7)(n v:Nat)(R:n<=64)(S:v<2^n)(Y:v<=134217728)(rest:List Bool)(C:(SA s).drop a=SJ n v++rest):
  SG prog 172 [I (n:Int),ptr b6 0,ptr b7 0] w λu w'=>u=I (v:Int)/\Xz w' r s (a+n)/\Sk w' b6 [ptr r 0] 289/\Sk w' b7 [.bool false] 4/\Kp (λk=>k=r\/k=b7) w w':=by
 have U:a+n<=8*s.length:=by
  have e:=congrArg List.length C;rw[y08,bitsT_length,y01,bitsN_length] at e;have:=h.2.1;omega
 have D:T2 (((SA s).drop a).take n)=v:=by
  rw[C,y1a ξ,TD];exact y0e S
 refine py (e:=[(0,_),(1,_),(2,_)]) func172 O ntmps172 O O<|qN O<|Up O<|qV (Sc Ye O O B O)<|Sf O<|Sr z9o O (Zs h n R) ?_
 rintro T w1 M
 have N:T= .tuple #[Su v,I 0]/\Xz w1 r s (a+n)/\Kp (λk=>k=r) w w1:=by
  rcases M with⟨-,e,c,Q⟩|⟨e,-,-⟩
  ·rw[D] at e;exact⟨e,c,Q⟩
  ·omega
 obtain⟨rfl,c,l⟩:=N
 have x:=l.S4 J d.2.1
 have G:=l.S4 B d.1
 refine Sf O<|Vk O<|Vj O<|Up O<|qV (Sc U4 O O x O)<|Sz O<|TK O<|Td O<|Sz O<|Ub O<|T0<|Td O<|Sm O (TO Xh O O O x ξ) ?_
 rintro w2⟨K,q⟩
 refine qM O<|Sf O<|qV (Yx O O ω ω) ?_
 rw[show v&&&268435455=v from(y14 v 28).trans (y0e ω)]
 refine qV (T7 O Va U3 ω)<|Sq O<|S3 func172 O ?_
 exact⟨_,O,O,⟨q.S4 c.1 (λe=>d.2.1 e.symm),c.2⟩,q.S4 G d.2.2,K,(l.Se λk e=> .inl e).trans (q.Se λk e=> .inr e)⟩
def WM {s:List Bool}{n v:Nat}{rest:List Bool}(h:s.drop a=SJ n v++rest):s.drop (a+n)=rest:=by
 rw[<-y0G,h,y11 ξ]
theorem zhf (h:PHd):SA (SM (US (hdL h)))=SJ 32 h.n++(SJ 32 h.m++(SJ 8 h.p.SH++(SJ 8 h.p.chain++(SJ 8 h.p.interval++(SJ 8 h.p.zeta++(SJ 32 h.p.most++(SJ 64 h.bits++[]))))))):=by
 obtain⟨z,c,e,l⟩:=VV (US (hdL h))
 have q:=Yw h
 have d:z=0:=ω
 rw[c,d,y2N,y0q]
 rfl
theorem zea (h:PHd)(X:h.U8)(w:World):SG prog 141 [S (hdT h)] w λu w'=>u= .tuple #[hdV h,I 0]/\Ext w w':=by
 obtain⟨g1,g2,g3,g4,g5⟩:=id X
 obtain⟨q1,q2,q3⟩:=id g5
 obtain⟨r1,r2,r3,r4⟩:=id q1
 have a0:h.p.SH<=16:=r1
 have a1:h.p.interval<=64:=by
  have:h.p.interval=0\/2<=h.p.interval/\h.p.interval<=64:=r2;omega
 have a2:h.p.zeta<=16:=r4
 have Od:=z0F h
 have K:=zhf h
 rw[show SA (SM (US (hdL h)))=(SA (SM (US (hdL h)))).drop 0 from y0V.symm] at K
 have gS:(SM (US (hdL h))).length=24:=by rw[T3,Yw]
 refine py (e:=[(0,_)]) func141 O ntmps141 O O<|qN O<|Sd O O (UK (cs:=[_,_,_,_,_,_,_,_]) XI O) ?_
 rintro _ w1⟨b2,rfl,bS,H,P⟩
 refine TR O<|Uk O O (yc (args:=[.tmp 11,.const (Value.string (⟨#[119,116,108,49]⟩))]) zmy O) (zav zcx (SM (US (hdL h))) _ (by rw[show zcx++SM (US (hdL h))=hdT h from rfl];omega)) ?_
 rintro _ w1⟨rfl,rfl⟩
 refine Sf O<|Vk O<|To O<|SX O<|qV (Vn O)<|Sz O<|qV (Ys U9 O)<|TW O<|T0<|Td O<|Tt O<|SE O ?_
 generalize SM (US (hdL h))=pt at K gS
 refine Sr zc7 O (z0Y pt ω w1) ?_
 rintro _ w2⟨r,rfl,U,L,dr⟩
 refine Sd O O (UK (cs:=[_]) z6i O) ?_
 rintro _ w3⟨b6,rfl,oo,R,aW⟩
 refine Sm O (TO z6i O O O aW ξ) ?_
 rintro w4⟨M,T⟩
 replace M:Sk w4 b6 [ptr r 0] 289:=M
 refine qM O<|Sd O O (UK (cs:=[_]) Xh O) ?_
 rintro _ w5⟨b7,rfl,lu,C,cm⟩
 refine Sm O (TO Xh O O O cm ξ) ?_
 rintro q⟨N,x⟩
 replace N:Sk q b7 [.bool false] 4:=N
 have z1:=H.size
 have z2:=L.size
 have z3:=R.size
 have z4:=T.size
 have z5:=C.size
 have lr:=U.1.lt
 have l6:=M.lt
 have l2:=P.lt
 have wR:=x.S4 (C.S4 M) ω
 have eZ:Xz q r pt 0:=⟨x.S4 (C.S4 (T.S4 (R.S4 U.1) ω)) ω,U.2⟩
 have bZ:Ext w1 q:=(((L.trans R).An T (λi e=>ω)).trans C).An x (λi e=>ω)
 refine qM O<|qV (ymf (first:=[]) (caps:=[.tmp 6,.tmp 7]) O O)<|TR O<|Uk O O (Vc z3k O O) (WQ eZ wR N ⟨ω,ω,ω⟩ 32 h.n ψ ω ω _ K) ?_
 rintro _ v0⟨rfl,Hf,B7,B8,a⟩
 have b:=WM K
 refine Sf O<|Uk O O (Vc z3k O O) (WQ Hf B7 B8 ⟨ω,ω,ω⟩ 32 h.m ψ ω ω _ b) ?_
 rintro _ v1⟨rfl,f,Bc,Be,g⟩
 have j:=WM b
 refine qV (VI (cs:=[_,_,_,_,_,_,_,_]) XI O ziX O O)<|Sd O O (UK (cs:=[_,_,_,_,_,_,_,_]) XI O) ?_
 rintro _ w7⟨D,rfl,oU,V,W⟩
 have a4:=a.size
 have a5:=g.size
 have z7:=V.size
 have z6:=x.size
 have l9:=W.lt
 refine Sm O (Ta (news:=[I (h.n:Int),I (h.m:Int),I 0,I 0,I 0,I 0,I 0,I 0]) XI O O O O W ξ) ?_
 rintro v⟨Y,aH⟩
 replace Y:Sk v D [I (h.n:Int),I (h.m:Int),I 0,I 0,I 0,I 0,I 0,I 0] 153:=Y
 have l7:=N.lt
 have G:Ext v1 v:=V.An aH (λi e=>ω)
 have yE:Xz v r pt (0+32+32):=⟨G.S4 f.1,f.2⟩
 have jq:=G.S4 Bc
 have Hg:=G.S4 Be
 have rg:Kp (λk=>k=r\/k=b7) q v:=(a.trans g).trans G.kp
 refine S5<|SI.qb (e:=[(2,_),(3,_),(7,_),(8,_),(9,_)]) ?_
 refine SE O<|Uk O O (Vc z3k O O) (WQ yE jq Hg ⟨ω,ω,ω⟩ 8 h.p.SH ψ ω ω _ j) ?_
 rintro _ v2⟨rfl,Hh,Bh,Bi,Hi⟩
 have o:=WM j
 refine Sf O<|Uk O O (Vc z3k O O) (WQ Hh Bh Bi ⟨ω,ω,ω⟩ 8 h.p.chain ψ ω ω _ o) ?_
 rintro _ v3⟨rfl,Hj,Bk,Bl,Hk⟩
 have s:=WM o
 refine Sf O<|Uk O O (Vc z3k O O) (WQ Hj Bk Bl ⟨ω,ω,ω⟩ 8 h.p.interval ψ ω ω _ s) ?_
 rintro _ v4⟨rfl,Hl,Bn,Bo,Hm⟩
 have t:=WM s
 refine Sf O<|Uk O O (Vc z3k O O) (WQ Hl Bn Bo ⟨ω,ω,ω⟩ 8 h.p.zeta ψ ω ω _ t) ?_
 rintro _ v5⟨rfl,Hn,Bq,Br,Ho⟩
 have y:=WM t
 refine Sf O<|Uk O O (Vc z3k O O) (WQ Hn Bq Br ⟨ω,ω,ω⟩ 32 h.p.most ψ ω ω _ y) ?_
 rintro _ v6⟨rfl,z,Bu,Bv,Hp⟩
 have A:=WM y
 have jT:Kp (λk=>k=r\/k=b7) v v6:=(((Hi.trans Hk).trans Hm).trans Ho).trans Hp
 have Hq:=jT.S4 Y ω
 refine qV (VI (cs:=[_,_,_,_,_]) Vf O zh1 O O)<|Sn z2i O<|Sm O (Ta (news:=Z9 h.p) Vf O O O O Hq ξ) ?_
 rintro w9⟨Z,B⟩
 replace Z:Sk w9 D [I (h.n:Int),I (h.m:Int),I (h.p.SH:Int),I (h.p.chain:Int),I (h.p.interval:Int),I (h.p.zeta:Int),I (h.p.most:Int),I 0] 153:=Z
 have tZ:Xz w9 r pt (0+32+32+8+8+8+8+32):=⟨B.S4 z.1 ω,z.2⟩
 have jr:=B.S4 Bu ω
 have Hr:=B.S4 Bv ω
 refine qM O<|Sf O<|Uk O O (Vc z3k O O) (WQ tZ jr Hr ⟨ω,ω,ω⟩ 64 h.bits ψ ω ω _ A) ?_
 rintro _ v7⟨rfl,Oe,Lu,Bx,E⟩
 have Of:=WM A
 have Hs:=E.S4 Z ω
 refine Sn YO O<|Sm O (TO T8 O O O Hs ξ) ?_
 rintro c⟨J,F⟩
 replace J:Sk c D (hdC h) 153:=J
 have BA:=F.S4 Bx ω
 have BB:Kp (λk=>k=r\/k=b7\/k=D) q c:=((((rg.trans jT).Se λk e=>ω).trans (B.Se λk e=>ω)).trans (E.Se λk e=>ω)).trans (F.Se λk e=>ω)
 have il:Ext w1 c:=bZ.An BB (λk e=>ω)
 refine S5<|It<|qN O<|qV (Sc U4 O O BA O)<|Sf O<|qV (SO (news:=hdC h) z2T O XI O (J.cells (n:=8) O) O)<|Sr zeY O (z1I h X _) ?_
 rintro _ a3⟨rfl,Q⟩
 refine TK O<|Td O<|S5<|SI.qb (e:=[(2,_),(3,_),(9,_),(51,_)]) ?_
 refine VP O<|qN O<|qV (SO (news:=hdC h) z2T O XI O ((Q.S4 J).cells (n:=8) O) O) ?_
 have BC:=(il.trans Q).S4 P
 refine Sm O (Ta (news:=hdC h) XI O O O O BC ξ) ?_
 rintro l⟨d,bj⟩
 replace d:Sk l b2 (hdC h) 153:=d
 replace d:Sk l b2 [I (h.n:Int),I (h.m:Int),I (h.p.SH:Int),I (h.p.chain:Int),I (h.p.interval:Int),I (h.p.zeta:Int),I (h.p.most:Int),I (h.bits:Int)] 153:=d
 refine Sq O<|SF func141 (.cell z2T O XI O (Sk.cells (n:=8) d (news:=[_,_,_,_,_,_,_,_]) O) O (.tmp O .nil)) ?_
 exact⟨_,O,O,((H.trans il).trans Q).An bj (λk e=>ω)⟩
theorem zel (h:PHd)(x:h.U8)(J:h.n<=500)(w:World):SG prog 142 [hdV h] w λu w'=>u= .tuple #[I ((28+(h.bits+7) / 8+(XD (h.n+1) (h.bits+1)).size:Nat):Int),I 0]/\Ext w w':=by
 obtain⟨M,N,Q,g4,R⟩:=id x
 have B:=z6V (n:=h.n+1) (u:=h.bits+1) ω ω ω ω
 have G:(XD (h.n+1) (h.bits+1)).size<=40000000:=by
  have S:=Fm.z0K B;obtain⟨T,U,Y⟩:=B;unfold Fm.size Fm.YF;omega
 refine py (e:=[(0,_)]) func142 O ntmps142 O O<|qN O<|Sd O O (UD O (cs:=hdC h) O) ?_
 rintro _ w1⟨b1,rfl,K,C,c⟩
 replace c:Sk w1 b1 [I (h.n:Int),I (h.m:Int),I (h.p.SH:Int),I (h.p.chain:Int),I (h.p.interval:Int),I (h.p.zeta:Int),I (h.p.most:Int),I (h.bits:Int)] 153:=c
 refine To O<|It<|qN O<|qV (SO (news:=hdC h) z2T O XI O (c.cells (n:=8) O) O)<|Sr zeY O (z1I h x _) ?_
 rintro _ w2⟨rfl,l⟩
 have d:=l.S4 c
 refine TR O<|TK O<|Tt O<|qN O<|Sn XY O<|qV (Sc U3 O O d O)<|Tr O<|Sn YO O<|qV (Sc U3 O O d O)<|qV (TM O U3 Va ω) ?_
 rw[show(h.n:Int)+1=((h.n+1:Nat):Int) by omega]
 refine Sr znG O (za8 (h.n+1) h.bits ω ω ω _) ?_
 rintro _ Z⟨rfl,r⟩
 have D:=r.S4 d
 refine Sf O<|qV (UY (v:=I ((XD (h.n+1) (h.bits+1)).size:Int)) O O)<|qV (UY (v:=I 0) O O) ?_
 generalize (XD (h.n+1) (h.bits+1)).size=q at G
 refine Vj O<|Up O<|Sn YO O<|qV (Sc U3 O O D O)<|Tr O<|qV (yqu O O ω)<|Tr O<|Sf O<|Tr O<|Sf O<|To O<|SI.qb (e:=[(2,_),(3,_)]) ?_
 refine S3 func142 O (⟨_,O,?_,(C.trans l).trans r⟩)
 show Value.tuple #[I (28+((h.bits:Int)+7) / 8+(q:Int)),I 0]= .tuple #[I ((28+(h.bits+7) / 8+q:Nat):Int),I 0]
 rw[show(28:Int)+((h.bits:Int)+7) / 8+(q:Int)=((28+(h.bits+7) / 8+q:Nat):Int) by omega]
section
variable {e:Env}{d:Option Nat}{pos:String}{g:Option (Nat×Bool)}{x:Operand}
theorem zbj {f:FuncId}{c:String}{u:Value}(h:methT P t c=some f):(nilAhead (P.types.size+Made.depth) t u c).run P w= .ok (some false) w:=by
 rw[show P.types.size+Made.depth=P.types.size+(Made.depth-1)+1 from rfl]
 unfold methT at h
 split at h<;>try cases h
 rename_i i hi
 split at h<;>try cases h
 rename_i m B
 split at h<;>try cases h
 rename_i f' pr n q
 have r:i.methods.find? (·.name==c)=some m:=by rw[<-B,Array.find?_toList]
 unfold nilAhead
 split at h<;>try cases h
 ·rename_i el l
  cases pr<;>simp at h;subst h;simp[Xv hi,r,n,followBlind,q]
 ·rename_i C v l
  cases pr<;>simp at h;subst h;simp only[y09,Xv hi,y0J,r,n,followBlind,y05,q,run_underlying l];cases C<;>first|exact absurd rfl (v _)|rfl
def zmw {c:TypeDesc}{v:Value}(ht:P.underlying t=some c)(h:∀ms,c≠ .interface ms)(l:look e x=some v):Y P e ⟨d,.makeInterface t x,ty,pos,aft,g⟩ (.iface t v) w w:=fun ρ n=>by
 simp only[execOp,n _ _ l,Instr.makeInterface,y09,run_underlying ht,y0J]
 cases c<;>first|rfl|exact(h _ rfl).elim
def ymm {v:Value}(c:look e x=some v):Y P e ⟨d,.makeFunc (.method nm) #[x] #[],ty,pos,aft,g⟩ (.func (.method nm) #[v] #[]) w w:=fun ρ h=>by
 simp[execOp,h _ _ c,Instr.makeFunc]
def zoH {f:FuncId}{tx:TypeId}{v:Value}(c:methT P tx nm=some f)(l:look e x=some (.func (.method nm) #[.iface tx v] #[])):Y P e ⟨d,.nilCheck x,ty,pos,aft,g⟩ (.func (.method nm) #[.iface tx v] #[]) w w:=fun ρ n=>by
 have h:=zbj (w:=w) (u:=v) c
 have q:(program).run P w= .ok P w:=rfl
 simp[execOp,n _ _ l,q,h]
end
def z3r (t:TypeId)(u:Value)(a n:Nat):Value:= .agg #[.iface t u,I (a:Int),I (n:Int)]
theorem z9s (t:TypeId)(u:Value)(a n:Nat)(w:World):SG prog 293 [z3r t u a n] w λv w'=>v=I (n:Int)/\Ext w w':=by
 unfold z3r
 refine py (e:=[(0,_)]) func293 O ntmps293 O O<|qN O<|Sd O O (UD O (cs:=[.iface t u,I (a:Int),I (n:Int)]) O) ?_
 rintro _ w1⟨b1,rfl,l,c,h⟩
 refine Up O<|Sn z78 O<|qV (Sc U3 O O h O)<|Sq O<|S3 func293 O ?_
 exact⟨_,O,O,c⟩
theorem za4 {u:Value}{T:Sa}(R:Src t u T)(a n:Nat)(K:a+n<=T.length)(J:T.length<=100000000000)(off m:Nat)(C:R.inv X w)(D:∀k,X k->k<w.heap.size)(h:off+m<=n):
  SG prog 294 [z3r t u a n,I (off:Int),I (m:Int)] w λv w'=>v= .tuple #[S ((((T.drop a).take n).drop off).take m),I 0]/\R.inv X w'/\Kp (λk=>¬X k) w w':=by
 have e:(((T.drop a).take n).drop off).take m=(T.drop (a+off)).take m:=by
  rw[y1u,y1n,y0G,show min m (n-off)=m by omega]
 rw[e]
 unfold z3r
 refine py (e:=[(0,_),(1,_),(2,_)]) func294 O ntmps294 O O<|qN O<|Sd O O (UD O (cs:=[.iface t u,I (a:Int),I (n:Int)]) O) ?_
 rintro _ w1⟨b1,rfl,G,l,c⟩
 refine To O<|SX O<|TW O<|Sz O<|TW O<|T0<|Td O<|Sz O<|Sn z78 O<|qV (Sc U3 O O c O)<|Ub O<|T0<|Td O<|Sz O ?_
 refine Sn z78 O<|qV (Sc U3 O O c O)<|Sf O<|UO O<|Ub O<|T0<|Td O<|S5<|SI.qb (e:=[(1,_),(2,_),(3,_),(6,_),(7,_),(27,_)]) ?_
 refine VP O<|qN O<|Sn zhM O<|qV (Sc z5B O O c O)<|Sn zhz O<|qV (Sc U3 O O c O)<|Sf O<|Tr O<|Sf O ?_
 rw[show(a:Int)+(off:Int)=((a+off:Nat):Int) by omega]
 refine Uk O O (yci R.cr R.mr O O) (R.rd (a+off) m (R.ext C l (λk q=> .inl q)) (λk q=>by have:=D k q;have:=l.size;omega) ω) ?_
 rintro _ w2⟨rfl,B,r⟩
 refine Vk O<|To O<|S3 func294 O ?_
 exact⟨_,O,O,B,l.kp.trans r⟩
def zi4 {t:TypeId}{u:Value}{T:Sa}(R:Src t u T)(a n:Nat)(B:Sa)(l:a+n<=T.length)(c:T.length<=100000000000)(hB:(T.drop a).take n=B):Src 249 (z3r t u a n) B where
 inv:=R.inv
 fl:=293
 fr:=294
 cl:=zmB
 cr:=znL
 ml:=y00
 mr:=y00
 ext:=R.ext
 step:=R.step
 len:=fun {X w} h=>by
  have e:B.length=n:=by rw[<-hB,y0c,y08];omega
  rw[e];exact z9s t u a n w
 rd:=fun {X w} off m h hX ho=>by
  have e:B.length=n:=by rw[<-hB,y0c,y08];omega
  rw[<-hB];exact za4 R a n l c off m h hX ω
def phd (p:TX)(g:List (List Nat))(E:List (Nat×Nat)):PHd:=⟨g.length,Tk g,p,(Uc p g E g.length).length⟩
def pfm (p:TX)(g:List (List Nat))(E:List (Nat×Nat)):Fm:=XD (g.length+1) ((Uc p g E g.length).length+1)
structure WB (p:TX)(g:List (List Nat))(E:List (Nat×Nat)):Prop where
 U8:p.U8
 gr:Um g
 n1:1<=g.length
 pk:zeS p g E
section
variable {p:TX}
def WB.head (h:WB p g E):(phd p g E).U8:=by
 have e:=h.gr.n
 have d:=h.pk.bits
 have c:=XJ h.gr g.length
 rw[y0K] at c
 exact⟨h.n1,(by show g.length<=_;omega),(by show Tk g<=_;omega),(by show(Uc p g E g.length).length<=_;omega),h.U8⟩
theorem WB.ef (h:WB p g E):Zx (atL p g E g.length) (pfm p g E) (Uc p g E g.length).length:=by
 have e:=h.gr.n
 have d:=h.pk.bits
 have c:=z7m p g E g.length
 refine⟨ω,ω,zbD p g E g.length,?_,ω,?_⟩
 ·rw[c,y1h];exact z3P p g E (y07 g.length)
 ·rw[c];rfl
def z0d (p:TX)(g:List (List Nat))(E:List (Nat×Nat)):Nat:=28+((Uc p g E g.length).length+7) / 8
theorem WB.len (h:WB p g E):(pkT p g E).length=z0d p g E+(pfm p g E).size:=by
 unfold pkT z0d
 rw[y01,y01,z0F,T3]
 have:=h.ef.len
 show _+(efT (atL p g E g.length) (pfm p g E)).length=_
 rw[this]
def WB.small (h:WB p g E):(pkT p g E).length<=50000000/\40<=(pkT p g E).length:=by
 have d:=h.ef.size_le
 have c:=h.len
 have e:=h.pk.bits
 unfold z0d at c
 omega
theorem zhp:((pkT p g E).drop 0).take 28=hdT (phd p g E):=by
 unfold pkT
 rw[y0V,y06,<-z0F (phd p g E)]
 exact y3p
theorem WB.index (h:WB p g E):((pkT p g E).drop (z0d p g E)).take (pfm p g E).size=efT (atL p g E g.length) (pfm p g E):=by
 have c:(hdT (phd p g E)++SM (Uc p g E g.length)).length=z0d p g E:=by
  rw[y01,z0F,T3];rfl
 have d:=h.ef.len
 unfold pkT
 show((hdT (phd p g E)++SM (Uc p g E g.length)++efT (atL p g E g.length) (pfm p g E)).drop _).take _=_
 rw[<-c,y34,<-d,y0K]
theorem zhS (h:WB p g E)(a n:Nat)(c:8*(a+n)<=(Uc p g E g.length).length+7):((pkT p g E).drop (28+a)).take n=((SM (Uc p g E g.length)).drop a).take n:=by
 unfold pkT
 exact piece (by rw[z0F]) (by rw[T3];omega)
end
def gwC (h:PHd)(t:TypeId)(u:Value)(x:Nat):List Value:=[I (h.n:Int),I (h.m:Int),I (h.p.SH:Int),I (h.p.chain:Int),I (h.p.interval:Int),I (h.p.zeta:Int),I (h.p.most:Int),I (h.bits:Int),.iface t u,ptr x 0]
theorem zaE {u:Value}{p:TX}(C:WB p g E)(R:Src t u (pkT p g E))(q:R.inv X w)(hX:∀k,X k->k<w.heap.size):
  SG prog 107 [.iface t u] w λv w'=>∃k x,v= .tuple #[ptr k 0,I 0]/\Sk w' k (gwC (phd p g E) t u x) 158/\Sk w' x (elC (pfm p g E) 249 (z3r t u (z0d p g E) (pfm p g E).size)) 293/\w.heap.size<=x/\w.heap.size<=k/\x≠k/\R.inv (λj=>X j\/j=x\/j=k) w'/\Kp (λj=>¬X j) w w':=by
 have S:=C.len
 obtain⟨dy,dG⟩:=C.small
 have hn:=C.gr.n
 have cy:=C.n1
 have ue:=C.pk.bits
 have hg:=Ext.Sv w
 have V:=C.head
 have En:(phd p g E).bits=(Uc p g E g.length).length:=rfl
 have Rq:z0d p g E=28+((phd p g E).bits+7) / 8:=rfl
 have Rr:(phd p g E).n=g.length:=rfl
 refine py (e:=[(0,_)]) func107 O ntmps107 O O<|qN O<|To O<|SX O<|qV (zim z5B O O)<|Tt O<|It<|Ux (λw'=>R.inv X w'/\Kp (λk=>¬X k) w w') O<|St 0 O O (⟨R.ext q hg (λk c=> .inl c),hg.kp⟩)<|St 1 O O (⟨R.ext q hg (λk c=> .inl c),hg.kp⟩)<|S8 4 O (ymm O) (⟨R.ext q hg (λk c=> .inl c),hg.kp⟩)<|S8 5 O (zoH R.mr O) (⟨R.ext q hg (λk c=> .inl c),hg.kp⟩)<|St 6 O O (⟨R.ext q hg (λk c=> .inl c),hg.kp⟩)<|qO 2 ?_
 refine z0r (i:=2) O O O (yci R.cl R.ml O O) (R.len (R.ext q hg (λk c=> .inl c))) ?_
 rintro _ w1⟨rfl,G⟩
 refine⟨⟨R.ext q (hg.trans G) (λk c=> .inl c),(hg.trans G).kp⟩,?_⟩
 have l:=hg.trans G
 rw[S]
 refine S8 3 O (ymi O O) (⟨R.ext q (hg.trans G) (λk c=> .inl c),(hg.trans G).kp⟩) ?_
 rw[show min (28:Int) ((z0d p g E+(pfm p g E).size:Nat):Int)=((28:Nat):Int) by omega]
 have jG:=R.ext q l (λk c=> .inl c)
 have y:∀k,X k->k<w1.heap.size:=λk c=>by have:=hX k c;have:=l.size;omega
 refine qO 7<|z0r (i:=7) O O O (yci R.cr R.mr O O) (R.rd 0 28 jG y ω) ?_
 rintro _ w2⟨rfl,B,r⟩
 refine⟨⟨B,l.kp.trans r⟩,?_⟩
 rw[zhp]
 have s:Kp (λk=>¬X k) w w2:=l.kp.trans r
 have fx:∀k,X k->k<w2.heap.size:=λk c=>by have:=y k c;have:=r.size;omega
 refine St 8 O O (⟨B,l.kp.trans r⟩)<|S8 9 O (UY O O) (⟨B,l.kp.trans r⟩)<|S8 10 O (UY O O) (⟨B,l.kp.trans r⟩)<|S8 11 O (UU O) (⟨B,l.kp.trans r⟩)<|S8 12 O (UU O) (⟨B,l.kp.trans r⟩)<|qE<|SX O<|TK O<|Tt O<|SE O<|Sr zng O (zea (phd p g E) V w2) ?_
 rintro _ w3⟨rfl,o⟩
 refine Sf O<|qV (UY (v:=hdV (phd p g E)) O O)<|qV (UY (v:=I 0) O O)<|Sd O O (UK (cs:=[_,_,_,_,_,_,_,_]) XI O) ?_
 rintro _ w4⟨b6,rfl,oo,aA,aW⟩
 refine Sm O (Ta (news:=hdC (phd p g E)) XI O O O O aW ξ) ?_
 rintro W⟨K,ai⟩
 replace K:Sk W b6 (hdC (phd p g E)) 153:=K
 have bQ:Ext w3 W:=aA.An ai (λi e=>ω)
 have ji:=o.trans bQ
 refine Sq O<|SI.qb (e:=[(0,_),(2,_),(3,_),(5,_),(6,_)]) ?_
 refine SX O<|TK O<|Tt O<|It<|qN O<|qV (SO (news:=hdC (phd p g E)) z2T O XI O (K.cells (n:=8) O) O)<|Sr zlA O (zel (phd p g E) V (by show g.length<=_;omega) _) ?_
 rintro _ w6⟨rfl,f⟩
 have A:=ji.trans f
 have P:=R.ext B A (λk c=> .inl c)
 have wR:=f.S4 K
 refine Sf O<|qV (UY (v:=I ((z0d p g E+(pfm p g E).size:Nat):Int)) O O)<|qV (UY (v:=I 0) O O)<|Vj O<|TR O<|TK O<|T0<|Sz O<|Sf O<|Uk O O (yci R.cl R.ml O O) (R.len P) ?_
 rintro _ w7⟨rfl,T⟩
 rw[S]
 have Ht:=A.trans T
 have M:=T.S4 wR
 refine TK O<|T0<|Td O ?_
 replace M:Sk w7 b6 [I ((phd p g E).n:Int),I ((phd p g E).m:Int),I ((phd p g E).p.SH:Int),I ((phd p g E).p.chain:Int),I ((phd p g E).p.interval:Int),I ((phd p g E).p.zeta:Int),I ((phd p g E).p.most:Int),I ((phd p g E).bits:Int)] 153:=M
 refine Tt O<|qN O<|Sn YO O<|qV (Sc U3 O O M O)<|Tr O<|qV (yqu O O ω)<|Tr O ?_
 rw[show 28+((((phd p g E).bits:Nat):Int)+7) / 8=(z0d p g E:Int) by omega]
 refine Sq O<|SI.qb (e:=[(0,_),(2,_),(3,_),(5,_),(6,_),(9,_)]) ?_
 refine TV O<|Sf O ?_
 have L:=R.ext P T (λk c=> .inl c)
 refine Uk O O (yci R.cl R.ml O O) (R.len L) ?_
 rintro _ w8⟨rfl,U⟩
 rw[S]
 have J:=Ht.trans U
 have H3:=R.ext L U (λk c=> .inl c)
 have F:=U.S4 M
 have b:=J.size
 refine Sf O<|UO O ?_
 rw[show((z0d p g E+(pfm p g E).size:Nat):Int)-(z0d p g E:Int)=((pfm p g E).size:Int) by omega]
 refine qV (VI (cs:=[_,_,_]) zn5 O zo2 O O)<|qV (zmw zfr (λ_ h=>by cases h) rfl) ?_
 have a0:=F.lt
 have Og:=R.ext (Y:=λk=>X k\/k=b6) B J (λk c=>c.imp id λe=>by have:=o.size;omega)
 have nM:∀k,(X k\/k=b6)->k<w8.heap.size:=λk c=>by
  rcases c with c| e
  ·have:=fx k c;have:=J.size;omega
  ·omega
 refine Sr zmY O (zb4 C.ef (zi4 R (z0d p g E) (pfm p g E).size (efT (atL p g E g.length) (pfm p g E)) ω ω C.index) (X:=λk=>X k\/k=b6) Og nM) ?_
 rintro _ a⟨x,rfl,Z,hx,kP,Q⟩
 have H:=Q.S4 F (λhh=>hh (.inr O))
 have Hu:Kp (λk=>¬X k) w2 a:=J.kp.trans (Q.Se λk c e=>c (.inl e))
 have z9:=Q.size
 refine Sf O<|qV (UY (v:=ptr x 0) O O)<|qV (UY (v:=I 0) O O)<|To O<|TZ<|SE O<|TK O<|Sq O<|S9 O<|It ?_
 have d:=Ext.Sv a
 refine Ux (λw'=>Ext a w') O<|St 0 O O d<|S8 2 O (SN XY O) d<|qT 3 O (λ_ h=>Sc U3 O O (h.S4 H) O) d<|S8 4 O (YB O O ω) d<|VF 1 O zmb O (zd8 (d.S4 Z)) ?_
 rintro _ a2⟨rfl,rfl⟩
 refine⟨d,?_⟩
 rw[show(pfm p g E).n=(phd p g E).n+1 from rfl]
 refine S8 5 O (yne O O) d<|S8 6 O (UU O) d<|qE<|SI.qb (e:=[(0,_),(2,_),(3,_),(6,_),(10,_),(69,_)]) ?_
 have fE:=d.S4 H
 have BD:=d.S4 Z
 refine So O (λz=>?_)<|λz=>?_
 ·exact absurd ω z
 ·refine S6<|S2<|qN O<|qV (SO (news:=hdC (phd p g E)) z2T O XI O (Sk.cells (n:=8) fE O) O)<|Sz O<|qV (VI (cs:=[_,_,_,_,_,_,_,_,_,_]) zlZ O zlB O O)<|Sd O O (UD O (cs:=gwC (phd p g E) t u x) O) ?_;rintro _ a3⟨k,rfl,c,aJ,bq⟩;refine To O<|S3 func107 O ?_;have N:=d.trans aJ;have a4:=s.size;have b:=J.size;have a5:=d.size;have a1:=BD.lt;refine⟨_,O,k,x,O,bq,N.S4 Z,ω,ω,ω,R.ext kP N (λj D=>?_),(s.trans Hu).trans N.kp⟩;rcases D with D|D|D
  ·exact .inl (.inl (.inl D))
  ·exact .inl (.inr D)
  ·exact .inr ω
structure YC {t:TypeId}{u:Value}{p:TX}{g:List (List Nat)}{E:List (Nat×Nat)}(R:Src t u (pkT p g E))(k x:Nat)(X:Nat->Prop)(w:World):Prop where
 ok:WB p g E
 S4:Sk w k (gwC (phd p g E) t u x) 158
 ix:Sk w x (elC (pfm p g E) 249 (z3r t u (z0d p g E) (pfm p g E).size)) 293
 xk:X k
 xx:X x
 inv:R.inv X w
 lt:∀j,X j->j<w.heap.size
 x1:X 1
 x2:X 2
 gam:Sk w 1 (W5 .gamma) 314
 una:Sk w 2 (W5 .unary) 314
section
variable {u:Value}{p:TX}{R:Src t u (pkT p g E)}{x:Nat}{Y S:Nat->Prop}
def YC.grow (h:YC R k x X w)(c:Ext w w')(n:∀j,Y j->X j\/(w.heap.size<=j/\j<w'.heap.size))(d:∀j,X j->Y j):YC R k x Y w':=
 ⟨h.ok,c.S4 h.S4,c.S4 h.ix,d _ h.xk,d _ h.xx,R.ext h.inv c (λj l=>(n j l).imp id And.left),λj l=>by
  rcases n j l with e| e
  ·have:=h.lt j e;have:=c.size;omega
  ·exact e.2,d _ h.x1,d _ h.x2,c.S4 h.gam,c.S4 h.una⟩
def YC.ext (h:YC R k x X w)(d:Ext w w'):YC R k x X w':=h.grow d (λj c=> .inl c) λj c=>c
def YC.less (h:YC R k x Y w)(d:∀j,X j->Y j)(n:X k)(q:X x)(e:X 1)(l:X 2):YC R k x X w:=
 ⟨h.ok,h.S4,h.ix,n,q,R.ext h.inv (Ext.refl w) (λj c=> .inl (d j c)),λj c=>h.lt j (d j c),e,l,h.gam,h.una⟩
def YC.step (h:YC R k x X w)(c:Kp S w w')(d:∀j,S j->X j/\j≠k/\j≠x/\j≠1/\j≠2)(q:∀j,Y j->X j\/(w.heap.size<=j/\j<w'.heap.size))(n:∀j,X j->Y j):YC R k x Y w':=
 ⟨h.ok,c.S4 h.S4 (λe=>(d _ e).2.1 O),c.S4 h.ix (λe=>(d _ e).2.2.1 O),n _ h.xk,n _ h.xx,R.step h.inv c (λj l=>(d j l).1) (λj l=>(q j l).imp id And.left),λj l=>by
  rcases q j l with e| e
  ·have:=h.lt j e;have:=c.size;omega
  ·exact e.2,n _ h.x1,n _ h.x2,c.S4 h.gam (λe=>(d _ e).2.2.2.1 O),c.S4 h.una (λe=>(d _ e).2.2.2.2 O)⟩
def YC.own (h:YC R k x X w)(c:Kp S w w')(d:∀j,S j->X j/\j≠k/\j≠x/\j≠1/\j≠2):YC R k x X w':=
 ⟨h.ok,c.S4 h.S4 (λe=>(d _ e).2.1 O),c.S4 h.ix (λe=>(d _ e).2.2.1 O),h.xk,h.xx,R.own h.inv c (λj l=>(d j l).1),λj l=>by have:=h.lt j l;have:=c.size;omega,h.x1,h.x2,c.S4 h.gam (λe=>(d _ e).2.2.2.1 O),c.S4 h.una (λe=>(d _ e).2.2.2.2 O)⟩
def YC.src (h:YC R k x X w)(c:Kp (λj=>¬X j) w w')(d:R.inv X w'):YC R k x X w':=
 ⟨h.ok,c.S4 h.S4 (λe=>e h.xk),c.S4 h.ix (λe=>e h.xx),h.xk,h.xx,d,λj l=>by have:=h.lt j l;have:=c.size;omega,h.x1,h.x2,c.S4 h.gam (λe=>e h.x1),c.S4 h.una (λe=>e h.x2)⟩
def YC.R2 (R:Src t u (pkT p g E))(h:WB p g E):Src 249 (z3r t u (z0d p g E) (pfm p g E).size) (efT (atL p g E g.length) (pfm p g E)):=
 zi4 R (z0d p g E) (pfm p g E).size _ (by have:=h.len;omega) (by have:=h.small;omega) h.index
theorem YC.cells (h:YC R k x X w):Sk w k [I ((phd p g E).n:Int),I ((phd p g E).m:Int),I ((phd p g E).p.SH:Int),I ((phd p g E).p.chain:Int),I ((phd p g E).p.interval:Int),I ((phd p g E).p.zeta:Int),I ((phd p g E).p.most:Int),I ((phd p g E).bits:Int),.iface t u,ptr x 0] 158:=h.S4
def zgX (h:YC R k x X w):SG prog 37 [ptr k 0] w λv w'=>v=I (g.length:Int)/\w'=w:=by
 have hB:=h.cells
 refine py (e:=[(0,_)]) func37 O ntmps37 O O<|TU O<|SX O<|qV (T9 U28 O O)<|Tt O<|SE O<|SC O<|Sn ZB O<|Sn XY O<|qV (Sc U3 O O hB O)<|Sq O<|S3 func37 O ?_
 exact⟨_,O,O,O⟩
theorem zbA (h:YC R k x X w){v c:Nat}(B:v<g.length)(hr:Rd w (.slice (some ⟨b,0,none⟩) 1 c) 1 1 [I (v:Int)]):SG prog 183 [ptr k 0,.slice (some ⟨b,0,none⟩) 1 c] w λv w'=>v=I 0/\w'=w:=by
 have hB:=h.cells
 have r:(phd p g E).n=g.length:=rfl
 refine py (e:=[(0,_),(1,_)]) func183 O ntmps183 O O<|TU O<|SX O<|qV (T9 U28 O O)<|Tt O<|SX O<|UR Tx O<|Sf O<|S5<|S7<|UW (α:=Nat) (0) (λi=>[(0,ptr k 0),(9,.slice (some ⟨b,0,none⟩) 1 c),(10,I 1),(11,I (i:Int))]) (λi w'=>w'=w/\i<=1) (λi=>1-i) ?hI ?hround
 case hI=>exact⟨O,y02 _⟩
 case hround=>
  rintro i w2⟨rfl,hi⟩ q
  try dsimp only
  refine qN O<|TW O<|S5<|It<|So O (λl=>?_)<|λl=>?_
  ·have d:i=0:=ω
   subst d;refine S6 (TZ (qN O (qV (Tm Tx T8 O O ω) (qV (SQ U3 O O (TF hr O)) (TR O (TW O (T0 (Sz O (Sf O (SC O (Sn ZB O (Sn XY O (qV (Sc U3 O O hB O) ?_)))))))))))));refine WZ O<|T0<|Td O<|Tt O<|S2<|Sg O<|Tr O<|Sf O<|S5 ?_;exact(q 1 _ ⟨O,ω⟩ ω).qb
  ·refine Sh O<|TU O<|S3 func183 O ?_;exact⟨_,O,O,O⟩
theorem zdP {p:TX}{v n:Nat}(h:((SM (Uc p g E g.length)).drop (a / 8)).take n=s)(e:(Uc p g E v).length=a)(C:v<g.length)(B:a+(z1u p g E v).length<=8*(a / 8+n)):∃rest,(SA s).drop (a%8)=z1u p g E v++rest:=by
 have c:∃r,Uc p g E g.length=Uc p g E (v+1)++r:=by
  have key:∀d i,∃r,Uc p g E (i+d)=Uc p g E i++r:=λd i=>by
   induction d with
   |zero=>exact⟨[],ξ⟩
   | succ d q =>
     obtain⟨r,hr⟩:=q;exact⟨r++z1u p g E (i+d),by rw[<-y1B,WO,hr,y06]⟩
  obtain⟨r,hr⟩:=key (g.length-(v+1)) (v+1);rw[show v+1+(g.length-(v+1))=g.length by omega] at hr;exact⟨r,hr⟩
 obtain⟨r,hr⟩:=c
 obtain⟨z,l,-,-⟩:=VV (Uc p g E g.length)
 rw[<-h,Yn,Xr,l,hr,WO,y1u,y0G,show 8*(a / 8)+a%8=a by omega,y06,y06,y11 e,y2l,y0B ω]
 exact⟨_,O⟩
theorem z9S (h:YC R k x X w){v:Nat}(L:v<g.length):SG prog 209 [ptr k 0,I (v:Int)] w λr w'=>∃(b a e:Nat)(s:Sa) (rest:List Bool),r= .tuple #[ptr b 0,I (e:Int),I 0]/\Xz w' b s a/\(SA s).drop a=z1u p g E v++rest/\a+(z1u p g E v).length=e/\w.heap.size<=b/\YC R k x (λj=>X j\/j=b) w'/\Kp (λj=>¬X j) w w':=by
 have hn:=h.ok.gr.n
 have ue:=h.ok.pk.bits
 have hB:=h.cells
 have m:=z3P p g E (n:=g.length) (i:=v) ω
 have f:=z3P p g E (n:=g.length) (i:=v+1) ω
 have V:=z0N p g E (g.length-(v+1)) (v+1)
 rw[show v+1+(g.length-(v+1))=g.length by omega] at V
 have z:=WO p g E v
 have mM:=congrArg List.length z
 rw[y01] at mM
 refine py (e:=[(0,_),(1,_)]) func209 O ntmps209 O O<|qN O<|Vj O<|Vj O<|TR O<|SC O<|Sn zbY O<|qV (Sc z5w O O hB O)<|Sf O<|Sr zjc O (z5S h.ok.ef (YC.R2 R h.ok) h.inv h.lt h.xx h.ix m) ?_
 rintro _ w1⟨rfl,W,K⟩
 have d:=h.src K W
 have o:=d.cells
 refine Sf O<|Vk O<|To O<|SX O<|TK O<|Tt O<|SE O<|SC O<|Sn zbY O<|qV (Sc z5w O O o O)<|Sf O<|Tr O ?_
 rw[show(v:Int)+1=((v+1:Nat):Int) by omega]
 refine Sr zjc O (z5S d.ok.ef (YC.R2 R d.ok) d.inv d.lt d.xx d.ix f) ?_
 rintro _ w2⟨rfl,y,Q⟩
 have q:=d.src Q y
 have N:=q.cells
 have U:=K.trans Q
 obtain⟨c,G⟩:∃n,(Uc p g E v).length=n:=⟨_,O⟩
 obtain⟨bl,A⟩:∃n,(Uc p g E (v+1)).length=n:=⟨_,O⟩
 rw[G,A]
 have En:(phd p g E).bits=(Uc p g E g.length).length:=rfl
 refine Sf O<|Vk O<|To O<|SI.qb (e:=[(0,_),(4,_),(5,_),(6,_),(7,_),(8,_),(9,_)]) ?_
 refine TZ<|SE O<|TK O<|Sq O<|S9 O<|TV O<|Ub O<|T0<|Sz O<|Sf O<|SC O<|Sn ZB O<|Sn YO O<|qV (Sc U3 O O N O) ?_
 refine qV (TM O U3 Va ω)<|Ub O<|T0<|Td O<|Sq O<|VP O<|S2<|SE O<|qV (zmd O O O (by simp only[IntKind.bits];omega) ω) ?_
 refine qV (T7 O Va U3 ω)<|Sq O<|SI.qb (e:=[(0,_),(4,_),(5,_),(6,_),(7,_),(8,_),(9,_),(10,_)]) ?_
 refine SE O<|SC O<|Sn zhs O<|qV (Sc z5B O O N O)<|Sf O<|Tr O<|Sf O<|qV (YW O O)<|qV (T7 O Va U3 ω)<|qV (yqu O O ω)<|Sf O<|UO O ?_
 have oD:28+c / 8+((bl+7) / 8-c / 8)<=(pkT p g E).length:=by have:=h.ok.len;unfold z0d at this;omega
 rw[show 28+((c / 8:Nat):Int)=((28+c / 8:Nat):Int) by omega]
 rw[show(((bl+7)%18446744073709551616:Nat):Int) / 8-((c / 8:Nat):Int)=(((bl+7) / 8-c / 8:Nat):Int) by omega]
 refine Uk O O (yci R.cr R.mr O O) (R.rd (28+c / 8) ((bl+7) / 8-c / 8) q.inv q.lt oD) ?_
 rintro _ w3⟨rfl,uD,B⟩
 have Z:=q.src B uD
 rw[zhS h.ok (c / 8) ((bl+7) / 8-c / 8) ω]
 obtain⟨s,D⟩:∃s,((SM (Uc p g E g.length)).drop (c / 8)).take ((bl+7) / 8-c / 8)=s:=⟨_,O⟩
 rw[D]
 refine Sf O<|Vk O<|To O<|SI.qb (e:=[(4,_),(5,_),(6,_),(7,_),(8,_),(9,_),(10,_),(11,_)]) ?_
 refine SX O<|TK O ?_
 have ic:s.length=(bl+7) / 8-c / 8:=by
  rw[<-D,y0c,y08,T3];omega
 obtain⟨rest,pN⟩:∃rest,(SA s).drop (c%8)=z1u p g E v++rest:=zdP D G L ω
 refine Tt O<|SE O<|Sr zc7 O (z0Y s ω w3) ?_
 rintro _ w4⟨b,rfl,T,J,hb⟩
 have lb:=T.1.lt
 have F:YC R k x (λj=>X j\/j=b) w4:=Z.grow J (λj C=>C.imp id λe=>ω) (λj C=> .inl C)
 have l:¬X b:=λe=>by have:=Z.lt b e;omega
 refine Up O<|Sz O<|qV (T7 O Va U3 ω)<|Sf O<|qV (Zf O O ω)<|UO O ?_
 rw[show(c:Int)-8*((c / 8:Nat):Int)=((c%8:Nat):Int) by omega]
 refine Sr zeJ O (z2R T (c%8) ω) ?_
 rintro _ w5⟨rfl,P,M⟩
 have H:=F.own M (λj e=>by
  subst e
  exact⟨.inr O,λe=>l (e▸h.xk),λe=>l (e▸h.xx),λe=>l (e▸h.x1),λe=>l (e▸h.x2)⟩)
 refine qM O<|Sz O<|qV (T7 O Va U3 ω)<|Sf O<|qV (Zf O O ω)<|UO O ?_
 rw[show(bl:Int)-8*((c / 8:Nat):Int)=((bl-8*(c / 8):Nat):Int) by omega]
 refine Vj O<|To O<|SI.qb (e:=[(4,_),(5,_),(6,_)]) ?_
 refine S3 func209 O ?_
 have a0:=(U.trans B).size
 exact⟨_,O,b,c%8,bl-8*(c / 8),s,rest,O,P,pN,ω,ω,H,((U.trans B).trans J.kp).An M (λj e=> .inl ω)⟩
end
def Si (g:List (List Nat))(v:Nat):List Nat:=(g[v]?).getD []
def SS (g:List (List Nat))(E:List (Nat×Nat))(v:Nat):Nat:=if Si g v=[] then 0 else((E[v]?).getD (0,0)).1
def Xn (p:TX)(g:List (List Nat))(E:List (Nat×Nat))(v:Nat):List (Cd×Nat):=if Si g v=[] then [] else Yu p.list v (Si g v) (Ug g v (SS g E v)) (SS g E v)
def zde (p:TX)(g:List (List Nat))(E:List (Nat×Nat))(v:Nat):z1u p g E v=SD (Ud p.list (Si g v).length (SS g E v))++SD (Xn p g E v):=by
 unfold z1u Xn SS
 rw[<-W3]
 by_cases h:Si g v=[]
 ·have c:(g[v]?).getD []=[]:=h;rw[if_pos h,if_pos h,c,h]
  rfl
 ·rw[if_neg h,if_neg h];have:=z5f p.list v (ref:=Ug g v ((E[v]?).getD (0,0)).1) ((E[v]?).getD (0,0)).1 h;rw[<-this];rfl
section
variable {u:Value}{p:TX}{R:Src t u (pkT p g E)}{x:Nat}
theorem WB.ent (h:WB p g E){v:Nat}(l:v<g.length):z3l p g E v (Si g v).length ((E[v]?).getD (0,0)):=by
 have d:=h.pk.el
 obtain⟨e,c⟩:∃e,E[v]? =some e:=⟨_,y04 ω⟩
 have:=h.pk.ok.ent v e c
 rw[c];exact this
def WB.z7p (h:WB p g E){v:Nat}(c:v<g.length):SS g E v<=p.SH/\SS g E v<=v:=by
 unfold SS
 split
 ·omega
 ·rcases h.ent c with e| e
  ·rw[e];exact⟨y02 _,y02 _⟩
  ·exact⟨e.2.1,e.2.2.1⟩
def WB.suc (h:WB p g E){v:Nat}(d:v<g.length):T4 (Si g v)/\(Si g v).length<=g.length/\∀y∈Si g v,y<g.length:=by
 have c:Si g v∈g:=by
  unfold Si;rw[y04 d];exact y1s d
 exact⟨h.gr.ok _ c,h.gr.len c,h.gr.lt _ c⟩
theorem zah (h:YC R k x X w){v:Nat}(m:v<g.length):SG prog 185 [ptr k 0,I (v:Int)] w λr w'=>∃(b a:Nat)(s:Sa) (rest:List Bool),r= .tuple #[.agg #[I ((Si g v).length:Int),I (SS g E v:Int)],ptr b 0,I ((a+(SD (Xn p g E v)).length:Nat):Int),I 0]/\Xz w' b s a/\(SA s).drop a=SD (Xn p g E v)++rest/\w.heap.size<=b/\YC R k x (λj=>X j\/j=b) w'/\Kp (λj=>¬X j) w w':=by
 have hn:=h.ok.gr.n
 obtain⟨dy,dG,oz⟩:=h.ok.suc m
 have gN:=h.ok.z7p m
 have H:=zde p g E v
 have uF:(Si g v).length=0->SS g E v=0:=λe=>by unfold SS;rw[if_pos (y0x e)]
 refine py (e:=[(0,_),(1,_)]) func185 O ntmps185 O O<|qN O<|Sd O O (UK (cs:=[_,_]) VS O) ?_
 rintro _ w1⟨D,rfl,fO,q,y⟩
 have l4:=y.lt
 have h1:YC R k x (λj=>X j\/j=D) w1:=h.grow q (λj d=>d.imp id λe=>ω) (λj d=> .inl d)
 have B:∀j,X j->j≠D:=λj d e=>by have:=h.lt j d;omega
 refine Vj O<|Vj O<|Up O<|Sz O<|Sr zlI O (z9S h1 m) ?_
 rintro _ w2⟨b,a,e,s,rest,rfl,T,f,he,hb,F,z⟩
 have bE:=z.S4 y (λe=>e (.inr O))
 have W:=F.cells
 have lb:=T.1.lt
 have l:∀j,X j->j≠b:=λj d e=>by have:=h.lt j d;have:=q.size;omega
 have nN:∀j,j=b->(X j\/j=D)\/j=b:=λj e=> .inr e
 refine Sf O<|qV (UY (v:=ptr b 0) O O)<|qV (UY (v:=I (e:Int)) O O)<|qV (UY (v:=I 0) O O)<|Vj O<|To O<|SX O<|TK O<|Tt O<|TV O<|SC O<|Sn ZB O<|Sn z2i O<|qV (SO (news:=Z9 p) U93 O Vf O (Sk.cells (i:=2) (n:=5) W O) O) ?_
 refine Sr z4X O (WH p w2) ?_
 rintro _ w3⟨rfl,C⟩
 have Z:=F.ext C
 have gH:Xz w3 b s a:=⟨C.S4 T.1,T.2⟩
 rw[H,y06] at f
 refine Sr ziG O (z6u gH p.list h.ok.U8.1 Z.gam Z.una (λe=>l 1 h.x1 e) (λe=>l 2 h.x2 e) (Si g v).length (SS g E v) ω gN.1 uF _ f) ?_
 rintro _ L⟨rfl,A,K⟩
 have V:=VW f
 have h4:=Z.own K (λj e=>⟨.inr e,λc=>l k h.xk (c▸e),λc=>l x h.xx (c▸e),λc=>l 1 h.x1 (c▸e),λc=>l 2 h.x2 (c▸e)⟩)
 have cK:=K.S4 (C.S4 bE) (λe=>ω)
 have ic:=congrArg List.length H
 rw[y01] at ic
 refine Sf O<|qV (UY (v:= .agg #[I ((Si g v).length:Int),I (SS g E v:Int)]) O O)<|qV (UY (v:=I 0) O O)<|Sd O O (UK (cs:=[_,_]) VS O) ?_
 rintro _ w5⟨N,rfl,jR,aU,bq⟩
 refine Sm O (Ta (news:=[I ((Si g v).length:Int),I (SS g E v:Int)]) VS O O O O bq ξ) ?_
 rintro J⟨o,aI⟩
 replace o:Sk J N [I ((Si g v).length:Int),I (SS g E v:Int)] 303:=o
 have G:Ext L J:=aU.An aI (λj e=>ω)
 have h6:=h4.ext G
 have U:Xz J b s (a+(SD (Ud p.list (Si g v).length (SS g E v))).length):=⟨G.S4 A.1,A.2⟩
 refine Sq O<|SI.qb (e:=[(4,_),(5,_),(6,_),(7,_),(8,_),(9,_),(10,_),(11,_)]) ?_
 refine SX O<|TK O<|T0<|Sz O<|Sr z26 O (XT U) ?_
 rintro _ J⟨rfl,rfl⟩
 refine Sf O<|Ub O<|T0<|Td O<|Tt O<|qN O<|qV (SO (news:=[I ((Si g v).length:Int),I (SS g E v:Int)]) z5n O VS O (Sk.cells (n:=2) o O) O)<|Sz O ?_
 have bY:=G.S4 cK
 refine Sm O (Ta (news:=[I ((Si g v).length:Int),I (SS g E v:Int)]) VS O O O O bY ξ) ?_
 rintro P⟨Q,M⟩
 replace Q:Sk P D [I ((Si g v).length:Int),I (SS g E v:Int)] 303:=Q
 have h7:=(h6.own M (λj e=>⟨.inl (.inr e),λc=>B k h.xk (c▸e),λc=>B x h.xx (c▸e),λc=>B 1 h.x1 (c▸e),λc=>B 2 h.x2 (c▸e)⟩)).less (X:=λj=>X j\/j=b) (λj d=>d.imp .inl id) (.inl h.xk) (.inl h.xx) (.inl h.x1) (.inl h.x2)
 have Oj:Xz P b s (a+(SD (Ud p.list (Si g v).length (SS g E v))).length):=⟨M.S4 U.1 ω,U.2⟩
 refine Vj O<|To O<|SF func185 (.cell z5n O VS O (Sk.cells (n:=2) Q (news:=[_,_]) O) O (.tmp O (.tmp O (.tmp O .nil)))) (⟨_,O,b,a+(SD (Ud p.list (Si g v).length (SS g E v))).length,s,rest,?_,Oj,V,by have:=q.size;omega,h7,?_⟩)
 ·rw[show a+(SD (Ud p.list (Si g v).length (SS g E v))).length+(SD (Xn p g E v)).length=e by omega]
  rfl
 ·have rg:Kp (λj=>¬X j) w L:=((q.kp.trans (z.Se λj e c=>e (.inl c))).trans C.kp).An K (λj e=> .inl (by have:=q.size;omega));exact(rg.trans G.kp).An M (λj e=> .inl ω)
end
section
variable {u:Value}{p:TX}{R:Src t u (pkT p g E)}{x:Nat}{Y S:Nat->Prop}
abbrev z8c (w:World)(vv:Value)(l:List Nat):Prop:=Sl w vv 42 1 l.length (l.map SV)
def XB (E:List (Nat×Nat))(v:Nat):Nat:=((E[v]?).getD (0,0)).2
structure TdM (R:Src t u (pkT p g E))(k x gb pb fb:Nat)(X:Nat->Prop)(w:World):Prop where
 gw:YC R k x X w
 bg:Sk w gb [ptr k 0] 28
 bp:Sk w pb [I (p.SH:Int),I (p.chain:Int),I (p.interval:Int),I (p.zeta:Int),I (p.most:Int)] 93
 bf:Sk w fb [.func (.func 184) #[] #[ptr gb 0,ptr pb 0,ptr fb 0]] 301
 xg:X gb
 xp:X pb
 xf:X fb
def TdM.step (h:TdM R k x gb pb fb X w)(l:Kp S w w')(d:∀j,S j->X j->False)(n:YC R k x Y w')(c:∀j,X j->Y j):TdM R k x gb pb fb Y w':=
 ⟨n,l.S4 h.bg (λe=>d _ e h.xg),l.S4 h.bp (λe=>d _ e h.xp),l.S4 h.bf (λe=>d _ e h.xf),c _ h.xg,c _ h.xp,c _ h.xf⟩
def z0E (R:Src t u (pkT p g E))(k x gb pb fb v behind:Nat)(X:Nat->Prop)(w:World):Prop:=
 SG prog 184 [I (v:Int),I (behind:Int),ptr gb 0,ptr pb 0,ptr fb 0] w λr w'=>∃c,r= .tuple #[c,I 0]/\z8c w' c (Si g v)/\(∀b,c.ownBlock=some b->w.heap.size<=b)/\YC R k x (λj=>X j\/c.ownBlock=some j) w'/\Kp (λj=>¬X j) w w'
def WB.back (h:WB p g E){v:Nat}(K:v<g.length)(c:0<SS g E v):SS g E v<=v/\XB E v=XB E (v-SS g E v)+1/\Ug g v (SS g E v)=Si g (v-SS g E v)/\0<(Si g (v-SS g E v)).length/\(Si g (v-SS g E v)).length<=p.most/\(Si g v).length<=p.most/\Si g v≠[]/\XB E v<=p.chain:=by
 have d:Si g v≠[]:=λe=>by unfold SS at c;rw[if_pos e] at c;omega
 have B:SS g E v=((E[v]?).getD (0,0)).1:=by unfold SS;rw[if_neg d]
 rcases h.ent K with e|⟨D,G,n,l,N,q,r,I,J⟩
 ·rw[B,e] at c;cases c
 ·rw[<-B] at D G n q r;have M:=of_decide_eq_true J;have C:Si g (v-SS g E v)=l:=by unfold Si;rw[q];rfl
  refine⟨n,?_,?_,by rw[C];omega,by rw[C];omega,ω,d,?_⟩
  ·unfold XB;rw[r];exact I
  ·unfold Ug;rw[if_neg ω];rfl
  ·show((E[v]?).getD (0,0)).2<=_;omega
theorem zej (d:WB p g E)(jZ:g.length<50){v:Nat}(N:v<g.length){rest:List Bool}(q:Xz w b s a)(M:(SA s).drop a=SD (Xn p g E v)++rest)(i:Sk w 1 (W5 .gamma) 314)(k:Sk w 2 (W5 .unary) 314)(Z:¬1=b)(f:¬2=b)
  {vb:Value} (U:SS g E v=0->vb= .slice none 0 0) (L:0<SS g E v->z8c w vb (Si g (v-SS g E v))) (F:∀j,vb.ownBlock=some j->j≠b):
  SG prog 186 [ptr b 0,I (v:Int),I (g.length:Int),.agg #[I ((Si g v).length:Int),I (SS g E v:Int)],vb,lpV p.list] w λr w'=>∃Q,r= .tuple #[Q,I 0]/\z8c w' Q (Si g v)/\(∀j,Q.ownBlock=some j->w.heap.size<=j)/\Xz w' b s (a+(SD (Xn p g E v)).length)/\Kp (λj=>j=b) w w':=by
 obtain⟨J,dG,o⟩:=d.suc N
 have K:=d.z7p N
 by_cases h:Si g v=[]
 ·have A:SS g E v=0:=by unfold SS;rw[if_pos h]
  have D:Xn p g E v=[]:=by unfold Xn;rw[if_pos h]
  rw[A,U A,D,h];refine(z6Z p.list d.U8.1 v ω g.length ω).mono λr w' hr=>?_;obtain⟨rfl,m⟩:=hr;exact⟨_,O,Sl.nil _ _ _,λj e=>(by cases e),⟨m.S4 q.1,q.2⟩,m.kp⟩
 ·have D:Xn p g E v=Yu p.list v (Si g v) (Ug g v (SS g E v)) (SS g E v):=by unfold Xn;rw[if_neg h]
  have B:T4 (Ug g v (SS g E v))/\(Ug g v (SS g E v)).length<=60:=by
   have hn:=d.gr.n;rcases z0V g v (SS g E v) with e| e
   ·rw[e];exact⟨⟨y1p,λy V=>(by cases V)⟩,ξ⟩
   ·exact⟨d.gr.ok _ e,by have:=d.gr.len e;omega⟩
  have X:=z3d d.U8.1 (x:=v) ω J B.1 K.1 ω B.2;rw[D] at M⊢;rcases y0D (SS g E v) with l|l
  ·have C:Ug g v (SS g E v)=[]:=by unfold Ug;rw[if_pos l]
   rw[U l];have:=z3B q p.list d.U8.1 v ω g.length ω (ra:=none) (rc:=0) (Si g v) (Ug g v (SS g E v)) J h ω o B.1 (SS g E v) K.1 (λ_=>C) i k Z f (λw2 T=>by rw[C];exact(Sl.nil _ 42 1).rd) (by rw[C];exact y07 _) ω rest M;rw[C] at this⊢;exact this
  ·obtain⟨q1,q2,z,q4,q5,q6,q7,q8⟩:=d.back N l;have G:=L l;rw[<-z] at G
   obtain⟨H,gc,rfl,W⟩:∃a c,vb= .slice a (Ug g v (SS g E v)).length c/\(Ug g v (SS g E v)).length<=c:=by
    rcases G.shape with⟨-,e⟩|⟨b,c,e,P⟩
    ·rw[z] at e;omega
    ·exact⟨_,c,e,P⟩
   exact z3B q p.list d.U8.1 v ω g.length ω (ra:=H) (rc:=gc) (Si g v) (Ug g v (SS g E v)) J h ω o B.1 (SS g E v) K.1 (λe=>ω) i k Z f (λw2 T=>(G.kp T λj e=>F j e).rd) W ω rest M
end
section
variable {u:Value}{p:TX}{R:Src t u (pkT p g E)}{x:Nat}{Y:Nat->Prop}
theorem z3C (jZ:g.length<50){v behind:Nat}(U:v<g.length)(Eo:behind+XB E v<=p.chain)(ht:TdM R k x gb pb fb X w)
  (ih:0<SS g E v->∀(X':Nat->Prop)(w':World),TdM R k x gb pb fb X' w'->z0E R k x gb pb fb (v-SS g E v) (behind+1) X' w'):z0E R k x gb pb fb v behind X w:=by
 have M:=ht.gw.ok
 have hn:=M.gr.n
 have Rs:p.chain<=1000000:=by have:=M.U8.2.1;omega
 obtain⟨dy,dG,oz⟩:=M.suc U
 have gN:=M.z7p U
 have AV:=ht.bg
 unfold z0E
 refine py (e:=[(0,_),(1,_),(2,_),(3,_),(4,_)]) func184 O ntmps184 O O<|qN O<|Vj O<|Up O<|qV (Sc U28 O O AV O)<|Sf O<|Sr zkN O (zah ht.gw U) ?_
 rintro _ w1⟨b,a,s,rest,rfl,z,sD,bT,h1,aR⟩
 have a1:=z.1.lt
 have B:∀j,X j->j≠b:=λj l e=>by have:=ht.gw.lt j l;omega
 refine Sf O<|qV (UY (v:= .agg #[I ((Si g v).length:Int),I (SS g E v:Int)]) O O)<|qV (UY (v:=ptr b 0) O O)<|qV (UY (v:=I ((a+(SD (Xn p g E v)).length:Nat):Int)) O O)<|qV (UY (v:=I 0) O O)<|Sd O O (UK (cs:=[_,_]) VS O) ?_
 rintro _ w2⟨C,rfl,oU,ae,cI⟩
 refine Sm O (Ta (news:=[I ((Si g v).length:Int),I (SS g E v:Int)]) VS O O O O cI ξ) ?_
 rintro D⟨K,ar⟩
 replace K:Sk D C [I ((Si g v).length:Int),I (SS g E v:Int)] 303:=K
 have f:Ext w1 D:=ae.An ar (λj e=>ω)
 have a0:=K.lt
 have a3:=f.size
 have N:YC R k x (λj=>(X j\/j=b)\/j=C) D:=h1.grow f (λj l=>l.imp id λe=>ω) (λj l=> .inl l)
 have y:Kp (λj=>¬X j) w D:=aR.trans f.kp
 have Z:TdM R k x gb pb fb (λj=>(X j\/j=b)\/j=C) D:=ht.step y (λj e d=>e d) N (λj l=> .inl (.inl l))
 have gH:Xz D b s a:=⟨f.S4 z.1,z.2⟩
 refine Vj O<|To O<|SX O<|TK O<|Tt O<|TU O<|It<|qN O<|Sn Wb O<|qV (Sc U3 O O K O)<|Ub O<|S5<|SI.qb (e:=[(0,_),(1,_),(2,_),(3,_),(4,_),(7,_),(8,_),(9,_),(10,_),(11,_),(12,_),(13,_),(28,_)]) ?_
 refine Tc (λd w'=>∃vb,d=[(0,I (v:Int)),(2,ptr gb 0),(3,ptr pb 0),(9,ptr C 0),(10,ptr b 0),(11,I ((a+(SD (Xn p g E v)).length:Nat):Int)),(13,vb)]/\YC R k x (λj=>(X j\/j=b)\/j=C) w'/\Kp (λj=>¬((X j\/j=b)\/j=C)) D w'/\(SS g E v=0->vb= .slice none 0 0)/\(0<SS g E v->z8c w' vb (Si g (v-SS g E v)))/\(∀j,vb.ownBlock=some j->j≠b)) ?bL<|λbL=>?dE
 case bL=>
  rintro d Q⟨vb,rfl,T,J,tY,fJ,Hz⟩;have m:TdM R k x gb pb fb (λj=>(X j\/j=b)\/j=C) Q:=Z.step J (λj e d=>e d) T (λj l=>l);have kq:=J.S4 K (λe=>e (.inr O));have W:Xz Q b s a:=⟨J.S4 gH.1 (λe=>e (.inl (.inr O))),gH.2⟩;have HA:=m.bg;have A:=m.bp;have HB:=m.gw.cells;have q:=Ext.Sv Q;refine It ?_;have H:gb≠b:=B gb ht.xg;have nk:k≠b:=B k ht.gw.xk;have L:pb≠b:=B pb ht.xp;have n9:C≠b:=ω
  refine Ux (λw'=>Kp (λj=>j=b) Q w') O<|St 0 O O q.kp<|St 1 O O q.kp<|qT 2 O (λ_ h=>(Sc U28 O O (h.S4 HA H) O)) q.kp<|S8 3 O (Tu O) q.kp<|S8 4 O (SN ZB O) q.kp<|S8 5 O (SN XY O) q.kp<|qT 6 O (λ_ h=>(Sc U3 O O (h.S4 HB nk) O)) q.kp<|St 8 O O q.kp<|qT 7 O (λ_ hS=>SO (news:=[I ((Si g v).length:Int),I (SS g E v:Int)]) z5n O VS O (Sk.cells (n:=2) (hS.S4 kq n9) O) O) q.kp<|qT 9 O (λ_ h=>SO (news:=Z9 p) U93 O Vf O (Sk.cells (n:=5) (h.S4 A L) O) O) q.kp<|VF 10 O z4X O (WH p Q.drew) ?_;rintro _ w5⟨rfl,V⟩;refine⟨(q.trans V).kp,?_⟩;have r:=q.trans V;have F:=T.ext r;have iC:Xz w5 b s a:=⟨r.S4 W.1,W.2⟩;have HC:¬1=b:=λe=>B 1 ht.gw.x1 e;have HD:¬2=b:=λe=>B 2 ht.gw.x2 e;refine VF 11 O znl O (zej M jZ U iC sD F.gam F.una HC HD tY (λe=>(fJ e).ext r) Hz) ?_;rintro _ w6⟨i,rfl,iN,oQ,eZ,G⟩;refine⟨r.kp.trans G,?_⟩;refine St 12 O O (r.kp.trans G)<|S8 13 O (UY (v:=i) O O) (r.kp.trans G)<|S8 15 O (UU O) (r.kp.trans G)<|S8 14 O (UY (v:=I 0) O O) (r.kp.trans G)<|S8 16 O (UU O) (r.kp.trans G)<|qE<|SX O<|TK O<|Sz O<|Sr z26 O (XT eZ) ?_;rintro _ w6⟨rfl,rfl⟩;refine Sf O<|TK O<|T0<|Td O<|S5<|SI.qb (e:=[(14,_),(92,_)]) ?_;refine VP O<|SE O<|To O<|S3 func184 O ?_;have a4:=J.size;have a5:=r.size;have a2:=y.size;have h6:=(F.step (Y:=λj=>((X j\/j=b)\/j=C)\/i.ownBlock=some j) G (λj e=>⟨.inl (.inr e),λd=>B k ht.gw.xk (d▸e),λd=>B x ht.gw.xx (d▸e),λd=>B 1 ht.gw.x1 (d▸e),λd=>B 2 ht.gw.x2 (d▸e)⟩) (λj l=>l.imp id λe=>⟨oQ j e,iN.lt e⟩) (λj l=> .inl l)).less (X:=λj=>X j\/i.ownBlock=some j) (λj l=>l.imp (λe=> .inl (.inl e)) id) (.inl ht.gw.xk) (.inl ht.gw.xx) (.inl ht.gw.x1) (.inl ht.gw.x2);exact⟨_,O,i,O,iN,λj e=>by have:=oQ j e;omega,h6,((y.trans (J.Se λj e d=>e (.inl (.inl d)))).trans r.kp).trans (G.Se λj e d=>B j d e)⟩
 case dE=>
  refine So O (λh0=>?_)<|λh0=>?_
  ·have yX:0<SS g E v:=ω
   obtain⟨q1,q2,q3,q4,q5,q6,q7,q8⟩:=M.back U yX;have pP:=Z.bp;have HE:=Z.bf;refine It<|qN O<|Sn Wb O<|qV (Sc U3 O O K O)<|Sf O<|Ub O<|T0<|Sz O<|Sn z2V O<|qV (Sc U3 O O pP O)<|WZ O<|T0<|Td O<|Sf O ?_;refine Sn X8 O<|qV (Sc U3 O O K O)<|Sn Xt O<|qV (Sc U3 O O pP O)<|Ub O<|T0<|Td O<|S5<|SI.qb (e:=[(0,_),(1,_),(2,_),(3,_),(4,_),(7,_),(8,_),(9,_),(10,_),(11,_),(12,_),(13,_),(45,_)]) ?_;refine VP O<|It<|qN O<|qV (Sc zlr O O HE O)<|Sf O<|Sn Wb O<|qV (Sc U3 O O K O)<|UO O ?_;rw[show(v:Int)-(SS g E v:Int)=((v-SS g E v:Nat):Int) by omega];refine Sf O<|Tr O ?_;rw[show(behind:Int)+1=((behind+1:Nat):Int) by omega];have P:=ih yX _ D Z;unfold z0E at P;refine Uk O O (Vc zie O O) (P) ?_;rintro _ Q⟨vb,rfl,eF,sd,T,J⟩
   obtain⟨vo,vc,rfl,Eb⟩:∃o c,vb= .slice (some ⟨o,0,none⟩) (Si g (v-SS g E v)).length c/\D.heap.size<=o:=by
    rcases eF.shape with⟨-,e⟩|⟨o,c,e,hc⟩
    ·omega
    ·exact⟨o,c,e,sd o (by rw[e];rfl)⟩
   refine Sf O<|qV (UY (v:= .slice (some ⟨vo,0,none⟩) (Si g (v-SS g E v)).length vc) O O)<|qV (UY (v:=I 0) O O)<|Vj O<|TR O<|TK O ?_;have A:=(Z.step J (λj e d=>e d) T (λj l=> .inl l)).bp;refine S5<|SI.qb (e:=[(0,_),(2,_),(3,_),(7,_),(8,_),(9,_),(10,_),(11,_),(12,_),(13,_),(58,_)]) ?_;refine VP O<|SE O<|UR SR O<|U7 O<|T0<|Sz O<|UR SR O<|Sn Xt O<|qV (Sc U3 O O A O)<|Ub O<|T0<|Td O<|Tt O ?_;exact(bL _ _ ⟨_,O,T.less (λj l=> .inl l) N.xk N.xx N.x1 N.x2,J,λe=>ω,λ_=>eF,λj e=>by have d:vo=j:=UC e;omega⟩).qb
  ·refine S6 ?_;exact(bL _ _ ⟨_,O,N,Kp.refl _ _,λ_=>rfl,λe=>ω,λj e=>by cases e⟩).qb
theorem z4D (e:g.length<50):∀(d:Nat) {v behind:Nat} {X:Nat->Prop} {w:World},XB E v<=d->v<g.length->behind+XB E v<=p.chain->TdM R k x gb pb fb X w->z0E R k x gb pb fb v behind X w
 | 0, v, behind, X, w, hd, hv, Eo, ht => z3C e hv Eo ht λc => by
   obtain⟨l,n,-⟩:=ht.gw.ok.back hv c
   omega
 | d + 1, v, behind, X, w, hd, hv, Eo, ht => z3C e hv Eo ht λc X' w' h => by
   obtain⟨l,n,-⟩:=ht.gw.ok.back hv c;exact z4D e d ω ω ω h
def WB.zeW (h:WB p g E){v:Nat}(d:v<g.length):XB E v<=p.chain:=by
 rcases h.ent d with e|⟨r,B,C,l,q,D,G,I,c⟩
 ·unfold XB;rw[e];exact y02 _
 ·have n:=of_decide_eq_true c;unfold XB;omega
theorem zaM (jZ:g.length<50){v:Nat}(D:v<g.length)(h:YC R k x X w):SG prog 153 [ptr k 0,I (v:Int)] w λr w'=>∃c,r= .tuple #[c,I 0]/\z8c w' c (Si g v)/\(∀b,c.ownBlock=some b->w.heap.size<=b)/\YC R k x (λj=>X j\/c.ownBlock=some j) w'/\Kp (λj=>¬X j) w w':=by
 refine py (e:=[(0,_),(1,_)]) func153 O ntmps153 O O<|qN O<|Sd O O (UD O (cs:=[ptr k 0]) O) ?_
 rintro _ w1⟨gb,rfl,On,B,Q⟩
 refine To O<|It<|qN O<|qV (Sc U28 O O Q O)<|Sf O<|Sd O O (pbs (cs:=[_]) (zs:=[Value.int .i64 0]) Tx T8 O y00 O O O ψ) ?_
 rintro _ w2⟨vb,rfl,⟨ew,l,Rt⟩,wU⟩
 have f:=(h.ext B).ext l
 have M:=l.S4 Q
 have s:=f.cells
 have z1:=B.size
 have z2:=l.size
 refine Sr znB O (zbA f D wU.rd) ?_
 rintro _ w2⟨rfl,rfl⟩
 refine TR O<|TK O<|Tt O<|qN O<|qV (Sc U28 O O M O)<|SC O<|Sn ZB O<|Sn z2i O<|qV (SO (news:=Z9 p) U93 O Vf O (Sk.cells (i:=2) (n:=5) s O) O)<|Sd O O (UK (cs:=[_,_,_,_,_]) Vf O) ?_
 rintro _ w3⟨pb,rfl,ue,U,uk⟩
 refine Sm O (Ta (news:=Z9 p) Vf O O O O uk ξ) ?_
 rintro J⟨q,A⟩
 replace q:Sk J pb [I (p.SH:Int),I (p.chain:Int),I (p.interval:Int),I (p.zeta:Int),I (p.most:Int)] 93:=q
 have Z:Ext w2 J:=U.An A (λj e=>ω)
 refine qM O<|Sd O O (UK (cs:=[_]) ziv O) ?_
 rintro _ w5⟨fb,rfl,Ru,z,H⟩
 refine qM O<|qV (ymf (first:=[]) (caps:=[.tmp 2,.tmp 7,.tmp 8]) O O)<|Sm O (TO ziv O O O H ξ) ?_
 rintro K⟨T,y⟩
 have C:Ext J K:=z.An y (λj e=>ω)
 have G:=Z.trans C
 have z6:=G.size
 have lg:=M.lt
 have lp:=q.lt
 have lf:=T.lt
 have a0:=Z.size
 have z3:=U.size
 have a1:=C.size
 have m:=(B.trans l).trans G
 have V:YC R k x (λj=>X j\/j=gb\/j=pb\/j=fb) K:=h.grow m (λj d=>d.imp id λe=>ω) (λj d=> .inl d)
 have N:TdM R k x gb pb fb (λj=>X j\/j=gb\/j=pb\/j=fb) K:=⟨V,G.S4 M,C.S4 q,T,.inr (.inl O),.inr (.inr (.inl O)),.inr (.inr (.inr O))⟩
 have o:=N.bf
 have a:=z4D jZ _ (behind:=0) (y07 _) D (by have:=h.ok.zeW D;omega) N
 unfold z0E at a
 refine qM O<|qV (Sc zlr O O o O)<|Sf O<|Uk O O (Vc zie O O) a ?_
 rintro _ w7⟨c,rfl,P,kL,W,F⟩
 refine qV (UY (v:=c) O O)<|qV (UY (v:=I 0) O O)<|To O<|SI.qb (e:=[(4,_),(5,_)]) ?_
 refine S3 func153 O ?_
 exact⟨_,O,c,O,P,λj e=>by have:=kL j e;omega,W.less (λj d=>d.imp .inl id) (.inl h.xk) (.inl h.xx) (.inl h.x1) (.inl h.x2),m.kp.trans (F.Se λj e L=>e (.inl L))⟩
end
def stV (b:Bool):Value:= .int .u8 (if b then 1 else 0)
structure ExM (w:World)(m gi:Nat)(L:List Bool):Prop where
 S4:Sk w m [I 2,.slice (some ⟨gi,0,none⟩) L.length L.length,.slice none 0 0,.bool false] 135
 sl:Sl w (.slice (some ⟨gi,0,none⟩) L.length L.length) 185 1 L.length (L.map stV)
 ne:gi≠m
 n:L.length<=4096
 n2:2<=L.length
section
variable {S:Nat->Prop}
def ExM.kp (h:ExM w m gi L)(c:Kp S w w')(d:¬S m)(l:¬S gi):ExM w' m gi L:=
 ⟨c.S4 h.S4 d,h.sl.kp c λg e=>by cases e;exact l,h.ne,h.n,h.n2⟩
theorem ExM.ext (h:ExM w m gi L)(c:Ext w w'):ExM w' m gi L:=h.kp (S:=λ_=>False) c id id
def ExM.ltm (h:ExM w m gi L):m<w.heap.size:=h.S4.lt
def ExM.ltg (h:ExM w m gi L):gi<w.heap.size:=h.sl.lt O
theorem ExM.get (h:ExM w m gi L){b:Bool}(hi:L[i]? =some b):w.cell? ⟨gi,0+i*1,none⟩=some (stV b):=
 TF h.sl.rd (by rw[y0l,hi];rfl)
theorem zeo (B:Nat)(hB:2<=B/\B<=4096)(w:World):SG prog 31 [I 2,I (B:Int)] w λv w'=>∃m gi,v= .tuple #[ptr m 0,I 0]/\ExM w' m gi (List.replicate B false)/\w.heap.size<=m/\w.heap.size<=gi/\Ext w w':=by
 refine py (e:=[(0,_),(1,_)]) func31 O ntmps31 O O<|qN O<|To O<|SX O<|TW O<|T0<|Sz O<|Sf O<|Ub O<|T0<|Td O<|Sz O<|Ub O<|T0 ?_
 refine Td O<|Tt O<|TV O<|Sd O O (pmk (c:=B) (n:=B) Zd z6b O O O (y07 _) ω (by simp only[maxLen];omega)) ?_
 rintro _ w1⟨gi,rfl,⟨C,d,r⟩,l⟩
 refine qV (VI (cs:=[_,_,_,_]) zmV O zm2 O O)<|Sd O O (UD O (cs:=[I 2,.slice (some ⟨gi,0,none⟩) B B,.slice none 0 0,.bool false]) O) ?_
 rintro _ w2⟨m,rfl,u,h,q⟩
 refine To O<|S3 func31 O ?_
 have:=d.size
 have x:=l.lt (g:=gi) O
 refine⟨_,O,m,gi,O,⟨by rw[y0b];exact q,?_,ω,by rw[y0b];omega,by rw[y0b];omega⟩,ω,ω,d.trans h⟩
 rw[y0b,y2Z]
 exact l.ext h
def Th (L:List Bool)(s n:Nat)(b:Bool):List Bool:=L.take s++(List.replicate n b++L.drop (s+n))
theorem TE {s n:Nat}{b:Bool}(h:s+n<=L.length):(Th L s n b).length=L.length:=by
 unfold Th
 rw[y01,y01,y0c,y0b,y08];omega
theorem zdx (L:List Bool)(s:Nat)(b:Bool):Th L s 0 b=L:=by simp[Th]
theorem zdA {s n:Nat}{b:Bool}(h:s+n<L.length):(Th L s n b).set (s+n) b=Th L s (n+1) b:=by
 have c:(L.take s++List.replicate n b).length=s+n:=by rw[y01,y0c,y0b];omega
 unfold Th
 rw[<-y06,y22 _ _ ω,c,y1w,y2k h,y2E,y36,y06,y06]
 rfl
theorem z5N (h:ExM w m gi L)(s n:Nat)(b:Bool)(U:s+n<=L.length):SG prog 136 [ptr m 0,.agg #[I (s:Int),I (n:Int)],stV b] w λv w'=>v= .tuple #[]/\ExM w' m gi (Th L s n b)/\Kp (λk=>k=gi) w w':=by
 have T:=h.n
 refine py (e:=[(0,_),(1,_),(2,_)]) func136 O ntmps136 O O<|qN O<|Sd O O (UD O (cs:=[I (s:Int),I (n:Int)]) O) ?_
 rintro _ w1⟨D,rfl,R,u,d⟩
 have Z:=h.ltg
 have Y:=d.lt
 have K:=h.ext u
 refine qM O<|Sn UI O<|qV (Sc U3 O O d O)<|Sf O<|S5<|S7<|UW (α:=Nat) (0) (λi=>[(0,ptr m 0),(2,stV b),(4,ptr D 0),(8,I (n:Int)),(9,I (i:Int))]) (λi w'=>ExM w' m gi (Th L s i b)/\Kp (λk=>k=gi) w1 w'/\i<=n) (λi=>n-i) ?hI ?hround
 case hI=>exact⟨by rw[zdx];exact K,Kp.refl _ _,y02 _⟩
 case hround=>
  rintro i w2⟨c,l,hi⟩ N
  try dsimp only
  refine qN O<|TW O<|S5<|It<|So O (λJ=>?_)<|λJ=>?_
  ·have r:i<n:=ω
   have q:=TE (L:=L) (s:=s) (n:=i) (b:=b) ω;have x:=c.S4;have G:=l.S4 d ω;have hg:=Ext.Sv w2;refine S6 (TZ (SE O (Sq O (Sx [10] (λw'=>Ext w2 w') y00 O (Te 0 O O hg (SB 1 O (Tu O) hg (SB 2 O (SN YY O) hg (qL 3 O (λ_ h=>(Sc Zd O O (h.S4 x) O)) hg (SB 4 O (SN Us O) hg (qL 5 O (λ_ h=>(Sc U3 O O (h.S4 G) O)) hg (Te 6 O O hg (SB 7 O (YB O O ω) hg (Te 8 O O hg ?_)))))))))))));refine SB 9 O (Tm Zd z6b O O ω) hg (Wg [10] (qO 10 (SY (i:=10) O O (Vl z6b O O O (c.ext hg).sl (by rw[y0h,q];omega)) ?_)));rintro Q⟨C,B⟩;refine⟨trivial,?_⟩
   have M:ExM Q m gi (Th L s (i+1) b):=by
    refine⟨?_,?_,c.ne,by rw[TE ω];exact h.n,by rw[TE ω];exact h.n2⟩
    ·rw[TE ω,<-q];exact B.S4 (hg.S4 x) (λe=>c.ne e.symm)
    ·rw[show 0+(s+i)*1=s+i by omega,<-y1V,zdA ω] at C;rw[TE ω,<-q];exact C
   refine qE<|S2<|Sg O<|Tr O<|Sf O<|S5 ?_;exact(N (i+1) _ ⟨M,l.trans (hg.kp.trans B),ω⟩ ω).qb
  ·have r:i=n:=ω
   subst r;refine Sh O<|Tv func136 O ?_;exact⟨_,O,O,c,u.kp.trans l⟩
end
structure Pre (L:List Bool)(a:Nat):Prop where
 a2:2<=a
 le:a<=L.length
 tk:∀i,2<=i->i<a->L[i]? =some true
 fr:∀i,a<=i->i<L.length->L[i]? =some false
section
variable {S:Nat->Prop}
theorem z1S {l u:Nat}(U:ExM w m gi L)(Y:Pre L a)(ha:a<L.length)(F:Sk w u [ptr m 0] 66)(J:World->Prop)(hJ:∀w w',J w->Ext w w'->J w')
  (hround:∀w',Ext w w'->z4Y prog l [.agg #[I (a:Int),I ((L.length-a:Nat):Int)]] w' λv d=>(v= .bool true/\J d/\Sk d u [ptr m 0] 66/\ExM d m gi L)\/(v= .bool false/\J d)):
  SG prog 88 [.func (.yield l) #[] #[],ptr u 0] w λv w'=>v= .tuple #[]/\J w':=by
 have hn:=U.n
 have vL:=Y.a2
 have hB:=U.S4
 refine py (e:=[(0,_),(1,_)]) func88 O ntmps88 O O<|qN O<|qV (Sc U66 O O F O)<|SC O<|Sn zcy O<|qV (Sc U3 O O hB O)<|Sq O<|S7<|UW (α:=Nat) (2) (λi=>[(0,.func (.yield l) #[] #[]),(1,ptr u 0),(3,I (i:Int))]) (λi w'=>Sk w' u [ptr m 0] 66/\ExM w' m gi L/\((2<=i/\i<=a/\Ext w w')\/(i=L.length+1/\J w'))) (λi=>L.length+1-i) ?hI ?hround
 case hI=>exact⟨F,U,.inl ⟨y07 _,vL,Ext.refl _⟩⟩
 case hround=>
  rintro i w1⟨k,Z,A⟩ z;have X:=Z.S4
  try dsimp only
  refine SX O<|qV (Sc U66 O O k O)<|SC O<|Sn YY O<|qV (Sc Zd O O X O)<|UR Zd O<|TW O<|S5<|So O (λh0=>?_)<|λh0=>?_
  ·have wX : 2 <= i /\ i <= a /\ Ext w w1 := by
    rcases A with h| h
    ·exact h
    ·omega
   obtain⟨dF,Rv,s⟩:=wX;refine S6<|TZ<|SE O<|qV (VI (cs:=[_,_]) UF O zmo O O)<|Sd O O (UK (cs:=[_,_]) UF O) ?_;rintro _ w2⟨K,rfl,fO,N,W⟩;refine Sm O (Ta (news:=[I (i:Int),I 0]) UF O O O O W ξ) ?_;rintro g⟨x,ar⟩;replace x:Sk g K [I (i:Int),I 0] 124:=x;have G:Ext w1 g:=N.An ar (λj e=>ω);have o:=G.S4 k;have E:=Z.ext G;have R:=E.S4;refine S5<|TZ<|UW (α:=Nat) (i) (λj=>[(0,.func (.yield l) #[] #[]),(1,ptr u 0),(3,I (j:Int)),(4,ptr K 0)]) (λj w'=>w'=g/\i<=j/\j<=L.length/\(i<j->i=a)) (λj=>L.length-j) ?hI ?hround
   case hI=>exact⟨O,y07 _,ω,λh=>absurd h ω⟩
   case hround =>
    rintro j w4⟨rfl,gR,Rw,M⟩ f
    try dsimp only
    rcases y0a j L.length with T|T
    ·obtain⟨b,D⟩:∃b,L[j]? =some b:=⟨_,y04 T⟩;have t:=E.get D;refine SX O<|qV (Sc U66 O O o O)<|SC O<|Sn YY O<|qV (Sc Zd O O R O)<|UR Zd O<|TW O<|Ue<|Sf O<|qV (Sc U66 O O o O)<|SC O<|Sn YY O<|qV (Sc Zd O O R O)<|Sf O ?_;refine qV (Tm Zd z6b O O ω) ?_
     cases b with
     | true =>
       refine qV (SQ (v:= .int .u8 1) zfL O O t) ?_
       have Oo:i<a:=by
        rcases y0a i a with h| h
        ·exact h
        ·have:=Y.fr j ω T;rw[this] at D;cases D
       have uv:j=i:=by
        rcases y0a i j with h| h
        ·have:=M h;omega
        ·omega
       subst uv;refine U7 O (T0 (Uj O (S5 (S9 O (Sh O (SE O (Sn Us O (qV (Sc U3 O O x O) (UO O (Sn UI O (Sm O (TO T8 O O O x ξ) ?_)))))))))));rintro r⟨c,Q⟩;rw[show(j:Int)-(j:Int)=0 by omega] at c;replace c:Sk r K [I (j:Int),I 0] 124:=c;have C:Ext w1 r:=G.An Q (λq e=>by have:=N.size;omega);refine qM O<|Sn UI O<|qV (Sc U3 O O c O)<|Ub O<|Sf O<|Ua<|Ua<|Td O<|Tt O<|S2<|Uw O<|Tr O<|Sq O ?_
       exact(z (j+1) r ⟨C.S4 k,Z.ext C,.inl ⟨ω,ω,s.trans C⟩⟩ ω).qb
     | false =>
       refine qV (SQ (v:= .int .u8 0) zfL O O t)<|U7 O<|Ue<|Uj O ?_
       have p:i=a:=by
        rcases y0a i a with h| h
        ·rcases y0a i j with y|y
         ·exact M y
         ·have e:j=i:=ω
          subst e;have:=Y.tk j dF h;rw[this] at D;cases D
        ·omega
       refine S5<|Sb O<|S6<|S7<|Uw O<|Tr O<|Sq O<|S2 ?_;exact(f (j+1) _ ⟨O,ω,ω,λ_=>p⟩ ω).qb
    ·have P:j=L.length:=ω
     subst P;have p:=M ω;subst p;refine SX O<|qV (Sc U66 O O o O)<|SC O<|Sn YY O<|qV (Sc Zd O O R O)<|UR Zd O<|TW O<|T0<|Sf O<|Ua<|Ua<|Ua<|Ua<|Td O ?_;refine S5 (S9 O (Sh O (SE O (Sn Us O (qV (Sc U3 O O x O) (UO O (Sn UI O (Sm O (TO T8 O O O x ξ) ?_))))))));rintro r⟨c,Q⟩;rw[show(L.length:Int)-(i:Int)=((L.length-i:Nat):Int) by omega] at c;replace c:Sk r K [I (i:Int),I ((L.length-i:Nat):Int)] 124:=c;have C:Ext w1 r:=G.An Q (λq e=>by have:=N.size;omega);refine qM O<|Sn UI O<|qV (Sc U3 O O c O)<|Ub O<|Ue<|Sz O<|qV (SO (news:=[I (i:Int),I ((L.length-i:Nat):Int)]) Z1 O UF O (Sk.cells (n:=2) c O) O)<|zad O O (yy O O) (hround r (s.trans C)) ?_;rintro v w6 hv;rcases hv with⟨rfl,B,H,V⟩|⟨rfl,B⟩
     ·refine qV (Vn O)<|Uj O<|Tt O<|S2<|Uw O<|Tr O<|Sq O ?_;exact(z (L.length+1) w6 ⟨H,V,.inr ⟨O,B⟩⟩ ω).qb
     ·refine qV (Vn O)<|Uj O<|S5<|Sb O<|S3 func88 O ?_;exact⟨_,O,O,B⟩
  ·rcases A with⟨-,h,-⟩|⟨-,B⟩
   ·omega
   ·refine Sh O<|Tv func88 O ?_;exact⟨_,O,O,B⟩
theorem z1Z (w:World)(m:Nat):SG prog 57 [ptr m 0] w λv w'=>∃c,v= .func (.func 88) #[] #[ptr c 0]/\Sk w' c [ptr m 0] 66/\w.heap.size<=c/\Ext w w':=by
 refine py (e:=[(0,_)]) func57 O ntmps57 O O<|qN O<|Sd O O (UD O (cs:=[ptr m 0]) O) ?_
 rintro _ w1⟨c,rfl,l,d,h⟩
 refine Up O<|qV (ymf (first:=[]) (caps:=[.tmp 1]) O O)<|Sq O<|S3 func57 O ?_
 exact⟨_,O,c,O,h,ω,d⟩
theorem zaI (h:ExM w m gi L)(hp:Pre L a)(ha:a<L.length):SG prog 25 [ptr m 0] w λv w'=>v=I ((L.length-a:Nat):Int)/\Ext w w':=by
 have hn:=h.n
 refine py (e:=[(0,_)]) func25 O ntmps25 O O<|qN O<|Up O<|Sd O O (UK (cs:=[_]) T8 O) ?_
 rintro _ w1⟨b3,rfl,dS,Z,au⟩
 refine Sm O (TO T8 O O O au ξ) ?_
 rintro w2⟨C,X⟩
 replace C:Sk w2 b3 [I 0] 3:=C
 have W:Ext w w2:=Z.An X (λj e=>ω)
 refine S5<|SX O<|qV (z8Y U66 O O)<|S5<|Sb O<|SE O<|Sr zmU O (z1Z w2 m) ?_
 rintro _ u⟨bm,rfl,T,nN,K⟩
 have b:=W.trans K
 have i:=K.S4 C
 have o:=h.ext b
 have l3:=i.lt
 have a0:=C.lt
 have lm:=T.lt
 have a2:=h.ltm
 have a1:=h.ltg
 have z1:=Z.size
 refine S5<|S7<|Wu (ps:=[9]) (p:=[]) (q:=[_]) O zl5 ?_
 rintro l wl d gD cR hD F c f
 have HI:=zfd c f
 have zl:=d.size
 refine SG.mono (z1S (o.ext d) hp ha (d.S4 T)
  (λw'=>F .ready none w'/\Sk w' b3 [I ((L.length-a:Nat):Int)] 3/\Kp (λk=>k=l\/k=b3) wl w')
  (λw w' h Q=>⟨Q.kp.rc (S:=λ_=>False) c h.1 id,Q.S4 h.2.1,h.2.2.trans Q.kp⟩) ?_) ?_
 ·intro s r;have G:=Kp.rc (S:=λ_=>False) r c f id;have dj:=r.S4 (d.S4 i);have z4:=r.size;refine XH c G O O<|Sg O<|Sd O O (UK (cs:=[_,_]) UF O) ?_;rintro _ w5⟨b4,rfl,fO,V,H⟩;refine Sm O (Ta (news:=[I (a:Int),I ((L.length-a:Nat):Int)]) UF O O O O H ξ) ?_;rintro t⟨x,P⟩;replace x:Sk t b4 [I (a:Int),I ((L.length-a:Nat):Int)] 124:=x;have B:Ext s t:=V.An P (λj e=>ω);have z:=Kp.rc (S:=λ_=>False) B c G id;have a3:=B.size;have l4:=x.lt;refine S5<|run_beginRound O c z ?_;rintro w7 h7 M;have g:=M.S4 (B.S4 dj) ω;have bA:=M.S4 x ω;refine S7<|Sg O<|qV (Sc U3 O O g O)<|Sn UI O<|qV (Sc U3 O O bA O)<|Tr O ?_;rw[show(0:Int)+((L.length-a:Nat):Int)=((L.length-a:Nat):Int) by omega];refine Sm O (TO T8 O O O g ξ) ?_;rintro w8⟨gW,U⟩;have h8:=Kp.rc U c h7 ω;refine S5<|S2<|VY c h8 ?_;intro w9 h9 Y;have R:Kp (λk=>k=l\/k=b3) s w9:=((B.kp.trans (M.Se λk e=> .inl e)).trans (U.Se λk e=> .inr e)).trans (Y.Se λk e=> .inl e);exact .inl ⟨O,⟨h9,Y.S4 gW ω,r.kp.trans R⟩,R.S4 (r.S4 (d.S4 T)) ω,((o.ext d).ext r).kp R ω ω⟩
 ·rintro v wz⟨rfl,G,A,N⟩;refine⟨_,_,G,ξ,λJ D=>?_⟩;have zz:=N.size;have zy:=D.size;have E:=D.S4 A ω;have sP:=D.heap (N.heap hD ω) ω;refine S2 (qN O (qV (Sc U3 O O E O) (Sq O (z9p ξ (z0M sP) func25 O ?_))));have z3:=K.size;have cO:Kp (λk=>k=u.heap.size) J (Wh [.mk u.heap.size] J):=U1 J u.heap.size (.deferred none);have y:Kp (λk=>k=l\/k=b3\/k=u.heap.size) u (Wh [.mk u.heap.size] J):=((d.kp.trans (N.Se λk e=>ω)).trans (D.Se λk e=>ω)).trans (cO.Se λk e=>ω);exact⟨_,O,O,b.An y (λk e=>ω)⟩
end
section
variable {S:Nat->Prop}
theorem z8i (h:ExM w m gi L)(hp:Pre L a){n:Nat}(cy:1<=n)(rz:a+n<=L.length):SG prog 96 [ptr m 0,I (n:Int)] w λv w'=>v= .tuple #[.agg #[I (a:Int),I (n:Int)],I 0]/\ExM w' m gi (Th L a n true)/\Kp (λk=>k=gi) w w':=by
 have hn:=h.n
 refine py (e:=[(0,_),(1,_)]) func96 O ntmps96 O O<|qN O<|Sd O O (UD O (cs:=[ptr m 0]) O) ?_
 rintro _ w1⟨b2,rfl,bS,y,z⟩
 refine Sd O O (UD O (cs:=[I (n:Int)]) O) ?_
 rintro _ w2⟨b3,rfl,dS,f,A⟩
 refine Sd O O (UK (cs:=[_,_]) UF O) ?_
 rintro _ w3⟨E,rfl,fO,K,t⟩
 refine Sd O O (UK (cs:=[_]) z0p O) ?_
 rintro _ w4⟨b5,rfl,gC,B,s⟩
 have l2:=z.lt
 have l3:=A.lt
 have l4:=t.lt
 have l5:=s.lt
 have z1:=y.size
 have z2:=f.size
 have z3:=K.size
 have z4:=B.size
 have i:=B.S4 (K.S4 (f.S4 z))
 have H:=B.S4 (K.S4 A)
 have cK:=B.S4 t
 refine S5<|TZ<|qN O<|qV (Sc U66 O O i O)<|qV (T9 U66 O O)<|Sq O<|S9 O<|qN O<|qV (Sc U3 O O H O)<|TW O<|T0<|Sq O<|VP O<|S2 ?_
 refine It<|qN O<|qV (Sc U66 O O i O)<|Sr zmU O (z1Z w4 m) ?_
 rintro _ w5⟨bm,rfl,W,nN,b⟩
 have F:=(((y.trans f).trans K).trans B).trans b
 have X:=h.ext F
 have lm:=W.lt
 have a1:=h.ltm
 have a0:=h.ltg
 have z5:=b.size
 refine S5<|S7<|Wu (ps:=[17]) (p:=[]) (q:=[_]) O zl5 ?_
 rintro l wl x gD cR hD Rc c P
 have HI:=zfd c P
 have zl:=x.size
 have AQ:=b.trans x
 refine SG.mono (z1S (X.ext x) hp ω (x.S4 W)
  (λw'=>Rc .done (some .ret) w'/\Sk w' E [I (a:Int),I (n:Int)] 124/\Sk w' b5 [I 0] 45/\ExM w' m gi (Th L a n true)/\Kp (λk=>k=l\/k=E\/k=b5\/k=gi) wl w')
  (λw w' h G=>⟨G.kp.rc (S:=λ_=>False) c h.1 id,G.S4 h.2.1,G.S4 h.2.2.1,h.2.2.2.1.ext G,h.2.2.2.2.trans G.kp⟩) ?_) ?_
 ·intro w6 C;have T:=Kp.rc (S:=λ_=>False) C c P id;have z6:=C.size;refine XH c T O O<|Sg O<|Sd O O (UK (cs:=[_,_]) UF O) ?_;rintro _ w7⟨b6,rfl,oo,bV,aW⟩;refine Sm O (Ta (news:=[I (a:Int),I ((L.length-a:Nat):Int)]) UF O O O O aW ξ) ?_;rintro w8⟨U,aH⟩;replace U:Sk w8 b6 [I (a:Int),I ((L.length-a:Nat):Int)] 124:=U;have J:Ext w6 w8:=bV.An aH (λj e=>ω);have yY:=Kp.rc (S:=λ_=>False) J c T id;have z8:=J.size;have l6:=U.lt;refine S5<|run_beginRound O c yY ?_;rintro w9 h9 d;have Z:=(AQ.trans C).trans J;have x7:=d.S4 (Z.S4 H) ω;have x8:=d.S4 (Z.S4 i) ω;have V:=d.S4 U ω;have Ox:=((((X.ext x).ext C).ext J).kp d ω ω);refine S7 (qN O (Sn UI O (qV (Sc U3 O O V O) (qV (Sc U3 O O x7 O) (WZ O (Ue (S5 (Sb O (qN O (qV (Sc U3 O O x7 O) (Sn UI O (Sm O (TO T8 O O O V ξ) ?_))))))))))));rintro o⟨R,r⟩;replace R:Sk o b6 [I (a:Int),I (n:Int)] 124:=R;have BI:=r.S4 x8 ω;have HK:=Ox.kp r ω ω;have gB:=Kp.rc r c h9 ω;refine qM O<|qV (Sc U66 O O BI O)<|qV (SO (news:=[I (a:Int),I (n:Int)]) Z1 O UF O (Sk.cells (n:=2) R O) O)<|Sr zjf O (z5N HK a n true rz) ?_;rintro _ a2⟨rfl,HM,D⟩;have pQ:=D.S4 R ω;have BJ:=D.S4 (r.S4 (d.S4 (Z.S4 cK) ω) ω) ω;have BK:=D.S4 (r.S4 (d.S4 (Z.S4 s) ω) ω) ω;have mX:=Kp.rc D c gB ω;refine S5<|SI.qb (e:=[(4,_),(5,_),(6,_)]) ?_;refine qN O (qV (SO (news:=[I (a:Int),I (n:Int)]) Z1 O UF O (Sk.cells (n:=2) pQ O) O) (Sm O (Ta (news:=[I (a:Int),I (n:Int)]) UF O O O O BJ ξ) ?_));rintro a3⟨BL,M⟩;refine Sm O (TO z0p O O O (M.S4 BK ω) ξ) ?_;rintro a4⟨BM,Q⟩;have BN:=Kp.rc Q c (Kp.rc M c mX ω) ω;refine S5 ?_
  -- AT: Code.ret
  refine ZO c BN ?_;intro a5 Oy Y
  exact .inr ⟨rfl,Oy,Y.S4 (Q.S4 BL ω) ω,Y.S4 BM ω,((HM.kp M ω ω).kp Q ω ω).kp Y ω ω,
   (((((((C.kp.trans J.kp).trans (d.Se λk e=>ω)).An r (λk e=>ω)).trans (D.Se λk e=>ω)).trans (M.Se λk e=>ω)).trans (Q.Se λk e=>ω)).trans (Y.Se λk e=>ω))⟩
 ·rintro v wz⟨rfl,T,HN,HO,Oz,g⟩;refine⟨_,_,T,ξ,λwy u=>?_⟩;have zz:=g.size;have zy:=u.size;have HP:=u.S4 HN ω;have HQ:=u.S4 HO ω;have sP:=u.heap (g.heap hD ω) ω;have N:=U1 wy w5.heap.size (.deferred none);have x9:=N.S4 HP ω;have HR:=N.S4 HQ ω;refine Zw ξ (z0M sP) func96 (.cell Z1 O UF O (Sk.cells (n:=2) x9 (news:=[_,_]) O) O (.cell1 U45 O O ((HR).cell _) .nil)) ?_;have xa:Kp (λk=>k=gi) w (Wh [.mk w5.heap.size] wy):=((((F.kp.trans x.kp).An g (λk e=>ω)).An u (λk e=>ω)).An N (λk e=>ω));exact⟨_,O,O,(Oz.kp u ω ω).kp N ω ω,xa⟩
end
section
theorem ze8 (h:ExM w m gi L)(s n:Nat)(q:1<=n)(r:2<=s)(B:s+n<=L.length):SG prog 146 [ptr m 0,.agg #[I (s:Int),I (n:Int)]] w λv w'=>v= .bool true/\Ext w w':=by
 have x:=h.n
 refine py (e:=[(0,_),(1,_)]) func146 O ntmps146 O O<|qN O<|Sd O O (UD O (cs:=[I (s:Int),I (n:Int)]) O) ?_
 rintro _ w1⟨b3,rfl,u,l,c⟩
 have hg:=Ext.Sv w1
 have d:=(h.ext l).S4
 refine Sq O<|It<|Ux (λw'=>Ext w1 w') O<|S8 0 O (SN UI O) hg<|qT 1 O (λ_ h=>(Sc U3 O O (h.S4 c) O)) hg<|S8 2 O (yge O O) hg<|Xl<|St 3 O O hg<|S8 4 O (SN Us O) hg<|qT 5 O (λ_ h=>(Sc U3 O O (h.S4 c) O)) hg<|St 6 O O hg<|S8 7 O (Tu O) hg<|S8 8 O (SN zcy O) hg<|qT 9 O (λ_ h=>(Sc U3 O O (h.S4 d) O)) hg ?_
 refine S8 10 O (yge O O) hg<|Xl<|S8 11 O (YD O O) hg<|St 12 O O hg<|S8 13 O (SN Us O) hg<|qT 14 O (λ_ h=>(Sc U3 O O (h.S4 c) O)) hg<|St 15 O O hg<|S8 16 O (Tu O) hg<|S8 17 O (SN YY O) hg<|qT 18 O (λ_ h=>(Sc Zd O O (h.S4 d) O)) hg<|S8 19 O (VQ Zd O) hg<|S8 20 O (ylt O O) hg<|Xl<|S8 21 O (YD O O) hg ?_
 refine St 22 O O hg<|S8 23 O (SN UI O) hg<|qT 24 O (λ_ h=>(Sc U3 O O (h.S4 c) O)) hg<|St 25 O O hg<|S8 26 O (Tu O) hg<|S8 27 O (SN YY O) hg<|qT 28 O (λ_ h=>(Sc Zd O O (h.S4 d) O)) hg<|S8 29 O (VQ Zd O) hg<|S8 30 O (SN Us O) hg<|qT 31 O (λ_ h=>(Sc U3 O O (h.S4 c) O)) hg<|S8 32 O (ysb O O ω) hg<|S8 33 O (yle O O) hg<|Xl<|S8 34 O (YD O O) hg ?_
 refine S8 35 O (UU O) hg<|qE<|SI.qb (e:=[(4,_)]) ?_
 refine S3 func146 O ?_
 exact⟨_,O,O,l.trans hg⟩
def z9P (c d:Bool)(hB:Sk w b5 [stV d] 185)(h:c=d):SG prog 181 [stV c,ptr b5 0] w λv w'=>v= .bool false/\w'=w:=by
 subst h
 cases c with
 | true =>
   replace hB:Sk w b5 [.int .u8 1] 185:=hB;show SG prog 181 [.int .u8 1,ptr b5 0] w _;refine py (e:=[(0,_),(1,_)]) func181 O ntmps181 O O<|qN O<|TR O<|qV (Sc zfL O O hB O)<|TK O<|T0<|Sq O<|S3 func181 O ?_
   exact⟨_,O,O,O⟩
 | false =>
   replace hB:Sk w b5 [.int .u8 0] 185:=hB;show SG prog 181 [.int .u8 0,ptr b5 0] w _;refine py (e:=[(0,_),(1,_)]) func181 O ntmps181 O O<|qN O<|TR O<|qV (Sc zfL O O hB O)<|TK O<|T0<|Sq O<|S3 func181 O ?_;exact⟨_,O,O,O⟩
theorem zei {n:Nat}(q:n<=4096)(c:Bool)(hB:Sk w b5 [stV c] 185)(h:Rd w (.slice (some ⟨b,o,none⟩) n cap) 1 n (List.replicate n (stV c))):
  SG prog 208 [.slice (some ⟨b,o,none⟩) n cap,.func (.func 181) #[] #[ptr b5 0]] w λv w'=>v=I (-1)/\w'=w:=by
 refine py (e:=[(0,_),(1,_)]) func208 O ntmps208 O O<|TU O<|SX O<|UR Zd O<|Sf O<|S5<|S7<|UW (α:=Nat) (0) (λi=>[(0,.slice (some ⟨b,o,none⟩) n cap),(1,.func (.func 181) #[] #[ptr b5 0]),(7,I (n:Int)),(8,I (i:Int))]) (λi w'=>w'=w/\i<=n) (λi=>n-i) ?hI ?hround
 case hI=>exact⟨O,y02 _⟩
 case hround=>
  rintro i w1⟨rfl,hi⟩ l
  try dsimp only
  refine qN O<|TW O<|S5<|It<|So O (λd=>?_)<|λd=>?_
  ·refine S6 (TZ (SE O (Up O (Sz O (Sf O (qV (Tm Zd z6b O O ω) (qV (SQ (v:=stV c) zfL O O (TF h (by rw[y0Z,if_pos ω]))) ?_)))))));refine Uk O O (Vc znr O O) (z9P c c hB O) ?_;rintro _ w1⟨rfl,rfl⟩;refine Tt O<|S2<|Sg O<|Tr O<|Sf O<|S5 ?_;exact(l (i+1) _ ⟨O,ω⟩ ω).qb
  ·refine Sh O<|TU O<|S3 func208 O ?_;exact⟨_,O,O,O⟩
def zd4 {n:Nat}(h:n<=4096)(c:Bool)(hB:Sk w b5 [stV c] 185)(d:Rd w (.slice (some ⟨b,o,none⟩) n cap) 1 n (List.replicate n (stV c))):
  SG prog 180 [.slice (some ⟨b,o,none⟩) n cap,.func (.func 181) #[] #[ptr b5 0]] w λv w'=>v= .bool false/\w'=w:=by
 refine py (e:=[(0,_),(1,_)]) func180 O ntmps180 O O<|qN O<|Up O<|Sz O<|Sr zlG O (zei h c hB d) ?_
 rintro _ w⟨rfl,rfl⟩
 refine WZ O<|T0<|Sq O<|S3 func180 O ?_
 exact⟨_,O,O,O⟩
theorem zdo (h:ExM w m gi L)(s n:Nat)(c:Bool)(R:1<=n)(Z:s+n<=L.length)(M:∀i,s<=i->i<s+n->L[i]? =some c):SG prog 147 [ptr m 0,.agg #[I (s:Int),I (n:Int)],stV c] w λv w'=>v= .bool true/\Ext w w':=by
 have Y:=h.n
 refine py (e:=[(0,_),(1,_),(2,_)]) func147 O ntmps147 O O<|qN O<|Sd O O (UD O (cs:=[I (s:Int),I (n:Int)]) O) ?_
 rintro _ w1⟨Q,rfl,T,C,B⟩
 refine Sd O O (UD O (cs:=[stV c]) (by cases c<;>rfl)) ?_
 rintro _ w2⟨b5,rfl,U,r,u⟩
 have hg:=Ext.Sv w2
 have l:=C.trans r
 have N:=(h.ext l).S4
 have q:=r.S4 B
 have D:=(h.ext l).ext hg
 refine Sq O<|It<|Ux (λw'=>Ext w2 w') O<|St 0 O O hg<|S8 1 O (Tu O) hg<|S8 2 O (SN YY O) hg<|qT 3 O (λ_ h=>(Sc Zd O O (h.S4 N) O)) hg<|S8 4 O (SN Us O) hg<|qT 5 O (λ_ h=>(Sc U3 O O (h.S4 q) O)) hg<|S8 6 O (SN Us O) hg<|qT 7 O (λ_ h=>(Sc U3 O O (h.S4 q) O)) hg<|S8 8 O (SN UI O) hg<|qT 9 O (λ_ h=>(Sc U3 O O (h.S4 q) O)) hg<|S8 10 O (YB O O ω) hg ?_
 refine S8 12 O (ymf (first:=[]) (caps:=[.tmp 5]) O O) hg ?_
 rw[show(s:Int)+(n:Int)=((s+n:Nat):Int) by omega]
 refine S8 11 O (zjq (i:=s) (j:=s+n) Zd z6b O O O ω ω) hg ?_
 rw[show s+n-s=n by omega]
 have K:Rd w2.drew (.slice (some ⟨gi,0+s*1,none⟩) n (L.length-s)) 1 n (List.replicate n (stV c)):=by
  have d:=YT (XC D.sl.rd (i:=s) ω (y07 _)) (i:=n) ω;rw[if_neg ω] at d
  have e:((L.map stV).drop s).take n=List.replicate n (stV c):=by
   apply y1f;intro i;rw[y1K,y1J,y0l,y0Z];by_cases hi:i<n
   ·rw[if_pos hi,if_pos hi,M (s+i) ω ω];rfl
   ·rw[if_neg hi,if_neg hi]
  rw[e] at d
  have G:(some (⟨gi,0,none⟩:Addr)).map (λx=>x.add (s*1))=some ⟨gi,0+s*1,none⟩:=by
   show some (Addr.add _ _)=_;unfold Addr.add;split
   ·rename_i J;rw[J]
   ·rfl
  rw[G] at d;exact d
 refine VF 13 O zmP O (zd4 ω c (hg.S4 u) K) ?_
 rintro _ a⟨rfl,rfl⟩
 refine⟨hg,?_⟩
 refine S8 14 O (Vn O) hg<|S8 15 O (UU O) hg<|qE<|S3 func147 O ?_
 exact⟨_,O,O,l.trans hg⟩
theorem zaw (h:ExM w m gi L)(s n:Nat)(x:1<=n)(K:2<=s)(r:s+n<=L.length)(N:∀i,s<=i->i<s+n->L[i]? =some true):SG prog 109 [ptr m 0,.agg #[I (s:Int),I (n:Int)]] w λv w'=>v=I 0/\ExM w' m gi (Th L s n false)/\Kp (λk=>k=gi) w w':=by
 refine py (e:=[(0,_),(1,_)]) func109 O ntmps109 O O<|qN O<|Sd O O (UD O (cs:=[I (s:Int),I (n:Int)]) O) ?_
 rintro _ w1⟨b3,rfl,R,u,l⟩
 have C:=h.ext u
 have T:=l.lt
 have U:=h.ltg
 refine Sq O<|TZ<|SE O<|qV (T9 U66 O O)<|Sq O<|S9 O<|SE O<|qV (SO (news:=[I (s:Int),I (n:Int)]) Z1 O UF O (Sk.cells (n:=2) l O) O)<|Sr zlk O (ze8 C s n x K r) ?_
 rintro _ w2⟨rfl,d⟩
 have D:=C.ext d
 have q:=d.S4 l
 refine qV (Vn O)<|Sz O<|qV (SO (news:=[I (s:Int),I (n:Int)]) Z1 O UF O (Sk.cells (n:=2) q O) O)<|Sr zlS O (zdo D s n true x r N) ?_
 rintro _ Y⟨rfl,c⟩
 have G:=D.ext c
 have B:=c.S4 q
 have Q:=G.S4
 refine qV (Vn O)<|Td O<|Sq O<|S9 O<|SE O<|SC O<|Sn zhy O<|qV (Sc U4 O O Q O)<|Sq O<|S9 O ?_
 have B:=c.S4 q
 refine Uw O<|qV (SO (news:=[I (s:Int),I (n:Int)]) Z1 O UF O (Sk.cells (n:=2) B O) O)<|Sr zjf O (z5N G s n false r) ?_
 rintro _ Z⟨rfl,M,J⟩
 refine S5<|SI.qb (e:=[(4,_)]) ?_
 refine S2<|TU O<|S3 func109 O ?_
 exact⟨_,O,O,M,((u.trans d).trans c).kp.trans J⟩
end
structure Dev where
 due:Int
 W8:List Int
 zhW:Int
 mask:UInt8
 B:Nat
 N:Nat
 sf:Int->Option Sa
 cache:List (Int×Sa)
 down:Bool
 calls:Int
 reads:Int
def zeros (n:Nat):Sa:=List.replicate n 0
def Dev.kept (D:Dev)(n:Int):Sa:=(D.sf n).getD (zeros (512*D.N))
def z0n (l:List (Int×Sa))(n:Int):Option Sa:=(l.reverse.find? λx=>x.1==n).map (·.2)
def Dev.now (D:Dev)(n:Int):Sa:=(z0n D.cache n).getD (D.kept n)
def Dev.has (D:Dev)(n:Int):Bool:=decide (0<=n/\n<(D.B:Int))
def Dev.count (D:Dev):Dev:={D with calls:=D.calls+1,due:=if D.due=0 then 0 else D.due-1}
structure Dev.Ok (D:Dev):Prop where
 hB:16<=D.B/\D.B<=4096
 hN:1<=D.N/\D.N<=8
 due:0<=D.due/\D.due<=9223372036854775807
 sf:∀n s,D.sf n=some s->0<=n/\n<(D.B:Int)/\s.length=512*D.N
 cache:∀x∈D.cache,0<=x.1/\x.1<(D.B:Int)/\x.2.length=512*D.N
 len:0<=D.calls
 reads:True
def Dev.Bd (D:Dev):Prop:=D.calls<1000000000000/\D.cache.length<1000000000000/\True
def wr (x:Int×Sa):List Value:=[I x.1,S x.2]
def wrs (l:List (Int×Sa)):List Value:=l.flatMap wr
@[simp] theorem wrs_length (l:List (Int×Sa)):(wrs l).length=l.length*2:=by
 induction l with
 |nil=>rfl
 |cons x r ih=>simp[wrs,wr,y0W] at ih⊢;omega
def z1V (kp ca:Value)(m:Nat)(D:Dev):List Value:=[I D.due,kp,I D.zhW,WD D.mask,I (D.B:Int),I (D.N:Int),.map (some m),ca,.bool D.down,I D.calls,I D.reads]
@[simp] theorem devCs_length (kp ca:Value) (m:Nat) (D:Dev):(z1V kp ca m D).length=11:=rfl
abbrev KI:Int->Value:=λz=> .int .i64 z
structure Vs (w:World)(p m:Nat)(kp ca:Value)(D:Dev):Prop where
 S4:Sk w p (z1V kp ca m D) 132
 map:∃kv,z0g KI w m kv/\∀n,UM kv n=(D.sf n).map S
 cache:Sl w ca 336 2 D.cache.length (wrs D.cache)
 W8:Sl w kp 3 1 D.W8.length (D.W8.map I)
 ok:D.Ok
def fpD (p m:Nat)(kp ca:Value):Nat->Prop:=λk=>k=p\/k=m\/ca.ownBlock=some k\/kp.ownBlock=some k
def z07 (w:World)(p:Nat)(D:Dev)(F:Nat->Prop):Prop:=∃m kp ca,Vs w p m kp ca D/\∀k,F k↔fpD p m kp ca k
def Upd (F c:Nat->Prop)(w w':World):Prop:=Kp F w w'/\∀k,c k->F k\/w.heap.size<=k
theorem Upd.trans {l d:Nat->Prop}{a b c:World}(h:Upd F l a b)(k:Upd l d b c):Upd F d a c:=
 ⟨h.1.An k.1 λi hi=>(h.2 i hi).symm,λi hi=>by
  rcases k.2 i hi with e|e
  ·exact h.2 i e
  ·exact .inr (y0d h.1.size e)⟩
theorem Ext.upd (h:Ext w w'):Upd F F w w':=⟨h.kp,λ_ h=> .inl h⟩
theorem Vs.pm {kp:Value}{D:Dev}(h:Vs w p m kp ca D):¬p=m:=λe=>by
 obtain⟨kv,⟨⟨n,c,l,-⟩,-⟩,-⟩:=h.map
 obtain⟨q,d,-⟩:=h.S4
 rw[e] at d;rw[d] at l;cases l
theorem Xb {v:Value}{e size n:Nat}(h:Sl w v e size n cs)(c:v.ownBlock=some b):∃xs l,w.heap[b]? =some (.cells xs e l):=by
 rcases h.2 with⟨r,-⟩|⟨g,cap,d,q,-,hg,-⟩
 ·rw[r] at c;cases c
 ·rw[q] at c;cases c;exact⟨_,_,hg⟩
theorem Vs.kp {S:Nat->Prop}{kp:Value}{D:Dev}(h:Vs w p m kp ca D)(k:Kp S w w')(c:∀i,fpD p m kp ca i->¬S i):Vs w' p m kp ca D:=
 ⟨k.S4 h.S4 (c p (.inl O)),let ⟨kv,h1,h2⟩:=h.map;⟨kv,k.map h1 (c m (.inr (.inl O))),h2⟩,h.cache.kp k λg hg=>c g (.inr (.inr (.inl hg))),h.W8.kp k λg hg=>c g (.inr (.inr (.inr hg))),h.ok⟩
def Vs.ext {kp:Value}{D:Dev}(h:Vs w p m kp ca D)(k:Ext w w'):Vs w' p m kp ca D:=h.kp k λ_ _=>id
theorem Dev.Ok.count {D:Dev}(h:D.Ok):D.count.Ok:=by
 have:=h.due
 have:=h.len
 refine⟨h.hB,h.hN,?_,h.sf,h.cache,?_,h.reads⟩
 ·simp only[Dev.count];split<;>omega
 ·simp only[Dev.count];omega
theorem Vs.turn {kp:Value}{D D':Dev}(h:Vs w p m kp ca D)(x:Sk w' p (z1V kp ca m D') 132)(k:Kp (λi=>i=p) w w')(r:D'.sf=D.sf)(u:D'.cache=D.cache)(v:D'.W8=D.W8)(C:D'.N=D.N)(q:D'.Ok):Vs w' p m kp ca D':=by
 obtain⟨B,n,-⟩:=h.S4
 refine⟨x,let ⟨kv,hm,hs⟩:=h.map;⟨kv,k.map hm λe=>h.pm e.symm,by rw[r];exact hs⟩,?_,?_,q⟩
 ·rw[u];refine h.cache.kp k λg hg l=>?_;obtain⟨xs,d,c⟩:=Xb h.cache hg;rw[l,n] at c;cases c
 ·rw[v];refine h.W8.kp k λg hg l=>?_;obtain⟨xs,d,c⟩:=Xb h.W8 hg;rw[l,n] at c;cases c
def upd (f:Int->Option Sa)(n:Int)(s:Sa):Int->Option Sa:=λx=>if x=n then some s else f x
def ze1 (c:Sa)(i:Nat)(x:Sa):Sa:=c.take i++x++c.drop (i+x.length)
def mixN (mask:UInt8)(a b:Sa):Nat->Sa
 |0=>a
 |s+1=>if mask.toNat / 2^s%2=1 then ze1 (mixN mask a b s) (512*s) ((b.drop (512*s)).take 512) else mixN mask a b s
theorem z7O (c x:Sa)(i:Nat)(h:i+x.length<=c.length):(ze1 c i x).length=c.length:=by
 simp[ze1];omega
def z0A (mask:UInt8)(a b:Sa)(N:Nat)(d:a.length=512*N)(e:b.length=512*N):∀s,s<=N->(mixN mask a b s).length=512*N
 |0,_=>d
 | s + 1, h => by
   have c:=z0A mask a b N d e s ω;simp only[mixN];split
   ·rw[z7O _ _ _ (by simp[c];omega),c]
   ·exact c
def Dev.fallTo (D:Dev)(l:List Int)(c:Int)(mk:UInt8):Nat->(Int->Option Sa)
 |0=>D.sf
 | i + 1 => match D.cache[i]? with
   |none=>D.fallTo l c mk i
   | some x => if (i : Int) = c then upd (D.fallTo l c mk i) x.1 (mixN mk (((D.fallTo l c mk i) x.1).getD (zeros (512 * D.N))) x.2 D.N)
     else if(i:Int)∈l then upd (D.fallTo l c mk i) x.1 x.2 else D.fallTo l c mk i
def Dev.zg3 (D:Dev)(l:List Int)(c:Int)(mk:UInt8):Dev:=
 {D with sf:=D.fallTo l c mk D.cache.length,cache:=[],due:=0,W8:=[],zhW:=0,mask:=0,down:=true}
theorem Dev.Ok.put {D:Dev}(h:D.Ok){n:Int}(d:0<=n/\n<(D.B:Int))(l:s.length=512*D.N):Dev.Ok {D with sf:=upd D.sf n s}:=
 ⟨h.hB,h.hN,h.due,λx t c=>by
  simp only[upd] at c;split at c
  ·rename_i e
   cases c;exact⟨ω,by rw[e];exact d.2,l⟩
  ·exact h.sf x t c,h.cache,h.len,h.reads⟩
theorem Dev.Ok.kept {D:Dev}(h:D.Ok)(n:Int):(D.kept n).length=512*D.N:=by
 unfold Dev.kept
 cases c:D.sf n with
 |none=>simp[zeros]
 |some s=>exact(h.sf n s c).2.2
theorem Vs.put {kp:Value}{D:Dev}{n:Int}(h:Vs w p m kp ca D)(v:∀n,UM kv n=(D.sf n).map S)(u:z0g KI w' m (putL kv n (S s)))(k:Kp (λi=>i=m) w w')
  (r:Dev.Ok {D with sf:=upd D.sf n s}):Vs w' p m kp ca {D with sf:=upd D.sf n s}:=by
 obtain⟨B,⟨⟨C,c,q,-⟩,-⟩,-⟩:=h.map
 refine⟨k.S4 h.S4 h.pm,⟨_,u,λx=>?_⟩,?_,?_,r⟩
 ·rw[zfM,v x];simp only[upd];split<;>rfl
 ·refine h.cache.kp k λg hg l=>?_;obtain⟨xs,e,d⟩:=Xb h.cache hg;rw[l,q] at d;cases d
 ·refine h.W8.kp k λg hg l=>?_;obtain⟨xs,e,d⟩:=Xb h.W8 hg;rw[l,q] at d;cases d
theorem Rd.kpm {v:Value}{size n:Nat}(h:Rd w v size n cs)(I:z0g KI w m kv)(k:Kp (λi=>i=m) w w'):Rd w' v size n cs:=by
 obtain⟨x,B⟩:=h
 refine⟨x,B.imp id λ⟨b,off,cap,J,C⟩=>⟨b,off,cap,J,λj u G=>?_⟩⟩
 have d:=C j u G
 obtain⟨⟨K,c,D,-⟩,-⟩:=I
 have r:¬b=m:=λe=>by
  rw[e] at d;simp[World.cell?,D] at d
 have q:b<w.heap.size:=by
  rcases y0a b w.heap.size with l|l
  ·exact l
  ·simp[World.cell?,y1M l] at d
 rw[<-d]
 simp only[World.cell?,k.block b q r]
theorem Vs.zmW {kp:Value}{D:Dev}(h:Vs w p m kp ca D){g:Nat}(hg:ca.ownBlock=some g):¬g=p/\¬g=m/\¬kp.ownBlock=some g:=by
 obtain⟨xs,n,d⟩:=Xb h.cache hg
 refine⟨λe=>?_,λe=>?_,λe=>?_⟩
 ·obtain⟨x,q,-⟩:=h.S4;rw[e,q] at d;cases d
 ·obtain⟨kv,⟨⟨u,c,r,-⟩,-⟩,-⟩:=h.map;rw[e,r] at d;cases d
 ·obtain⟨B,v,l⟩:=Xb h.W8 e;rw[d] at l;cases l
theorem Vs.zkZ {kp:Value}{D:Dev}(h:Vs w p m kp ca D){g:Nat}(hg:kp.ownBlock=some g):¬g=p/\¬g=m/\¬ca.ownBlock=some g:=by
 obtain⟨xs,n,d⟩:=Xb h.W8 hg
 refine⟨λe=>?_,λe=>?_,λe=>?_⟩
 ·obtain⟨x,q,-⟩:=h.S4;rw[e,q] at d;cases d
 ·obtain⟨kv,⟨⟨u,c,r,-⟩,-⟩,-⟩:=h.map;rw[e,r] at d;cases d
 ·obtain⟨B,v,l⟩:=Xb h.cache e;rw[d] at l;cases l
theorem Vs.lt {kp:Value}{D:Dev}(h:Vs w p m kp ca D):∀k,fpD p m kp ca k->k<w.heap.size:=by
 intro k d
 rcases d with rfl|rfl|c|c
 ·exact h.S4.lt
 ·obtain⟨kv,e,-⟩:=h.map;exact e.lt
 ·exact h.cache.lt c
 ·exact h.W8.lt c
theorem z07.kp {S:Nat->Prop}{D:Dev}(h:z07 w p D F)(k:Kp S w w')(e:∀i,F i->¬S i):z07 w' p D F:=by
 obtain⟨m,kp,ca,d,c⟩:=h
 exact⟨m,kp,ca,d.kp k λi hi=>e i ((c i).2 hi),c⟩
def z07.ext {D:Dev}(h:z07 w p D F)(k:Ext w w'):z07 w' p D F:=h.kp k λ_ _=>id
theorem z07.lt {D:Dev}(h:z07 w p D F):∀k,F k->k<w.heap.size:=by
 obtain⟨m,kp,ca,c,e⟩:=h
 intro k l
 rcases (e k).1 l with rfl|rfl|d|d
 ·exact c.S4.lt
 ·obtain⟨kv,n,-⟩:=c.map;exact n.lt
 ·exact c.cache.lt d
 ·exact c.W8.lt d
def z3G (n:Nat):((List.replicate n (Value.int .u8 0)).drop 0).take n=(zeros n).map WD:=by
 simp[zeros,WD]
section
variable {kp:Value}{D:Dev}
def zb3 (h:Vs w p m kp ca D):SG prog 138 [ptr p 0] w λv w'=>v=I (D.B:Int)/\w'=w:=by
 have c:=h.S4
 refine py (e:=[(0,_)]) func138 O ntmps138 O O<|TU O<|SX O<|qV (T9 U26 O O)<|Tt O<|SE O<|SC O<|Sn z3X O<|Sn z2U O<|qV (Sc U3 O O c O)<|Sq O<|S3 func138 O ?_
 exact⟨_,O,O,O⟩
def z4q (h:Vs w p m kp ca D):SG prog 95 [ptr p 0] w λv w'=>v=I ((512*D.N:Nat):Int)/\w'=w:=by
 have c:=h.S4
 have hN:=h.ok.hN
 refine py (e:=[(0,_)]) func95 O ntmps95 O O<|TU O<|SX O<|qV (T9 U26 O O)<|Tt O<|SE O<|SC O<|Sn z3X O<|Sn z2G O<|qV (Sc U3 O O c O)<|qV (Zf O O ω)<|Sq O<|S3 func95 O (⟨_,O,?_,O⟩)
 show I _=I _
 congr 1;omega
def z6g (h:Vs w p m kp ca D):SG prog 194 [ptr p 0] w λv w'=>v=I (if D.down then 8 else 0)/\w'=w:=by
 have d:=h.S4
 refine py (e:=[(0,_)]) func194 O ntmps194 O O<|TU O<|TZ<|SE O<|qV (T9 U26 O O)<|Sq O<|S9 O<|SE O<|SC O<|Sn z6K O<|qV (Sc U4 O O d O)<|Sq O<|TL O (λc=>?_)<|λc=>?_
 ·refine TU O<|S3 func194 O ?_;exact⟨_,O,by simp[c,TC],O⟩
 ·refine S6<|S2<|TU O<|S3 func194 O ?_;exact⟨_,O,by simp[c,TC],O⟩
def zcv (n:Int)(h:Vs w p m kp ca D):SG prog 195 [ptr p 0,I n] w λv w'=>v= .bool (D.has n)/\w'=w:=by
 have d:=h.S4
 refine py (e:=[(0,_),(1,_)]) func195 O ntmps195 O O<|qN O<|TR O<|WZ O<|W4 (λc=>?_)<|λc=>?_
 ·refine Sz O<|Sf O<|SC O<|Sn z3X O<|Sn z2U O<|qV (Sc U3 O O d O)<|TW O<|Uj O<|Sq O<|S3 func195 O (⟨_,O,?_,O⟩);simp[Dev.has,c,TC]
 ·refine Sf O<|Ua<|Ua<|Ua<|qS<|Td O<|Sq O<|S3 func195 O (⟨_,O,?_,O⟩);simp[Dev.has,c,TC]
theorem z8K (n:Int)(h:Vs w p m kp ca D):SG prog 219 [ptr p 0,I n] w λv w'=>v=S (D.kept n)/\Ext w w':=by
 have u:=h.S4
 have hN:=h.ok.hN
 have G:maxLen=9223372036854775807:=rfl
 obtain⟨kv,x,B⟩:=h.map
 refine py (e:=[(0,_),(1,_)]) func219 O ntmps219 O O<|TU O<|SX O<|SC O<|Sn z6S O<|qV (Sc zbg O O u O)<|Sf O<|qV (zoe (k:=n) (K:=KI) zbg (VH U3) ti9 O O x) ?_
 rw[B n]
 cases d:D.sf n with
 | some s =>
   refine Sf O<|Vk O<|Vj O<|TR O<|S5<|Sb O<|SE O<|Sq O<|S3 func219 O ?_
   exact⟨_,O,by simp[Dev.kept,d,TC],Ext.refl w⟩
 | none =>
   refine Sf O<|Vk O<|Vj O<|TR O<|Tt O<|SE O<|Sr zkt O (z4q h) ?_;rintro _ w1⟨rfl,rfl⟩;refine Sd O O (pmk (c:=512*D.N) (n:=512*D.N) TT ti5 O O O ω ω ω) ?_;rintro _ w1⟨b1,rfl,⟨C,q,r⟩,-⟩;refine qV (zbn (l:=zeros (512*D.N)) TT U5 U9 O r (z3G _) (by simp[zeros])) ?_;refine Sq O<|S3 func219 O ?_;exact⟨_,O,by simp[Dev.kept,d,TC],q⟩
theorem z9E (h:Vs w p m kp ca D)(B:D.calls<1000000000000):SG prog 216 [ptr p 0] w λv w'=>v= .bool (decide (D.due=1))/\Vs w' p m kp ca D.count/\Kp (λk=>k=p) w w':=by
 have u:=h.S4
 have C:=h.ok.due
 have x:=h.ok.len
 refine py (e:=[(0,_)]) func216 O ntmps216 O O<|qN O<|TR O<|SC O<|Sn zc9 O<|qV (Sc U3 O O u O)<|Tr O<|SC O<|Sn zc9 O<|Sm O (TO T8 O O O u ξ) ?_
 rintro w1⟨c,d⟩
 refine S5<|SX O<|SC O<|Sn z0W O<|Sn z3Y O<|qV (Sc U3 O O c O)<|U7 O<|S5<|So O (λn=>?_)<|λn=>?_
 ·refine TU O<|S3 func216 O ?_;have l:(z1V kp ca m D).set (0+9) (I (D.calls+1))=z1V kp ca m D.count:=by simp[z1V,Dev.count,n]
  rw[l] at c;exact⟨_,O,by simp[TC];omega,h.turn c d O O O O h.ok.count,d⟩
 ·refine S6 (SE O (SC O (Sn z0W O (Sn z3Y O (qV (Sc U3 O O c O) (UO O (SC O (Sn z0W O (Sn z3Y O (Sm O (TO T8 O O O c ξ) ?_))))))))));rintro w2⟨q,r⟩;refine qM O<|Sf O<|SC O<|Sn z0W O<|Sn z3Y O<|qV (Sc U3 O O q O)<|U7 O<|Sq O<|SI.qb (e:=[(2,_)]) ?_;refine S3 func216 O ?_;have l:((z1V kp ca m D).set (0+9) (I (D.calls+1))).set (0+0+0) (I (D.due-1))=z1V kp ca m D.count:=by simp[z1V,Dev.count,n]
  rw[l] at q;exact⟨_,O,by simp[TC];omega,h.turn q (d.trans r) O O O O h.ok.count,d.trans r⟩
end
theorem zcD (xs:List (Int×Sa))(j:Nat)(h:j<xs.length):((wrs xs).drop (j*2)).take 2=wr xs[j]:=by
 induction xs generalizing j with
 |nil=>simp at h
 | cons x r c =>
   cases j with
   |zero=>simp[wrs,wr,y0W]
   | succ j =>
     have e:(wrs (x::r))=I x.1::S x.2::wrs r:=by simp[wrs,wr,y0W]
     rw[e,show(j+1)*2=(j*2)+1+1 by omega]
     simpa using c j (by simpa using h)
def z5l (a:Option Addr)(n cap:Nat)(w:World):SG prog 218 [.slice a n cap] w λv w'=>∃b,v= .func (.func 235) #[] #[ptr b 0]/\z3J w b [.slice a n cap] 130 w':=by
 refine py (e:=[(0,_)]) func218 O ntmps218 O O<|qN O<|Sd O O (UD O O) ?_
 rintro _ w1⟨b1,rfl,hN⟩
 refine Up O<|qV (ymf (first:=[]) (caps:=[.tmp 1]) O O)<|Sq O<|S3 func218 O ?_
 exact⟨_,O,_,O,hN⟩
theorem z7e (l c:Nat)(ca:Value)(xs:List (Int×Sa))(J:Nat->World->Prop)(q:World->Prop)(w:World)(m:xs.length<4611686018427387904)
  (C:∀i w,J i w->(∃T,Sk w c [ca] T)/\Sl w ca 336 2 xs.length (wrs xs))
  (hround:∀i w x,xs.reverse[i]? =some x->J i w->z4Y prog l [I ((xs.length:Int)-1-i),.agg (wr x).toArray] w λv w'=>(v= .bool true/\J (i+1) w')\/(v= .bool false/\q w')) (B:J 0 w):
  SG prog 235 [.func (.yield l) #[] #[],ptr c 0] w λv w'=>v= .tuple #[]/\(J xs.length w'\/q w'):=by
 obtain⟨⟨T,Q⟩,R⟩:=C 0 w B
 obtain⟨a,cap,rfl,k⟩:=R.rd.shape
 refine py (e:=[(0,_),(1,_)]) func235 O ntmps235 O O<|qN O<|qV (Sc z3I O O Q O)<|UR z3I O<|UO O<|Sq O<|S7 ?_
 rw[show(xs.length:Int)-1=(xs.length:Int)-1-((0:Nat):Int) by omega]
 refine UW (α:=Nat) (0) (λi=>[(0,.func (.yield l) #[] #[]),(1,ptr c 0),(3,I ((xs.length:Int)-1-i))]) (λi w=>i<=xs.length/\J i w) (λi=>xs.length-i) ?hI ?hround
 case hI=>exact⟨ω,B⟩
 case hround=>
  rintro i w1⟨hi,d⟩ Z
  try dsimp only
  obtain⟨⟨j,N⟩,G⟩:=C i w1 d;refine SX O<|WZ O<|S5<|So O (λf=>?_)<|λf=>?_
  ·have r:i<xs.length:=ω
   have K:=G.shape;rcases K with⟨-,h⟩|⟨gb,u,g,o⟩
   ·omega
   cases g;obtain⟨x,n⟩:∃x,xs.reverse[i]? =some x:=⟨_,y04 (by simpa using r)⟩
   have Y:((wrs xs).drop ((xs.length-1-i)*2)).take 2=wr x:=by
    rw[zcD xs _ ω]
    congr 1
    rw[List.getElem?_reverse r,y04 ω] at n;exact UC n
   have U:((xs.length:Int)-1-i)=((xs.length-1-i:Nat):Int):=ω
   have D:=hround i w1 x n d;rw[U] at D⊢;refine S6 (TZ (TV O (qV (Sc z3I O O N O) (Sf O (qV (Tm z3I z0h O O ω) (qV (SO zeG O z0h O (G.part Y) O) (zad O O (yy O O) D ?_)))))));rintro v w2 S;rcases S with⟨rfl,b⟩|⟨rfl,M⟩
   ·refine qV (Vn O)<|Tt O<|S2<|Uw O<|UO O<|Sq O ?_;rw[show((xs.length-1-i:Nat):Int)-1=(xs.length:Int)-1-((i+1:Nat):Int) by omega];exact(Z (i+1) w2 ⟨ω,b⟩ ω).qb
   ·refine qV (Vn O)<|S5<|Sb O<|S3 func235 O ?_;exact⟨_,O,O,.inr M⟩
  ·refine Sh O<|Tv func235 O ?_;have:i=xs.length:=ω
   subst this;exact⟨_,O,O,.inl d⟩
theorem zar (xs:List (Int×Sa))(n:Int)(i:Nat):(∀j x,j<i->xs.reverse[j]? =some x->x.1≠n)->∀x,xs.reverse[i]? =some x->x.1=n->z0n xs n=some x.2:=by
 intro e x c l
 have d:i<xs.reverse.length:=by
  rcases y0a i xs.reverse.length with h| h
  ·exact h
  ·rw[y0n h] at c;cases c
 have:xs.reverse.find? (λx=>x.1==n)=some x:=by
  rw[List.find?_eq_some_iff_getElem];refine⟨by simp[l],i,d,?_,λj q=>?_⟩
  ·rw[y04 d] at c;exact UC c
  ·have:=e j _ q (y04 ω)
   simpa using this
 simp[z0n,this]
theorem zbi (xs:List (Int×Sa))(n:Int):(∀j x,j<xs.length->xs.reverse[j]? =some x->x.1≠n)->z0n xs n=none:=by
 intro d
 have:xs.reverse.find? (λx=>x.1==n)=none:=by
  rw[List.find?_eq_none];intro x e;obtain⟨j,c,rfl⟩:=List.getElem_of_mem e;have:=d j _ (by simpa using c) (y04 c)
  simpa using this
 simp[z0n,this]
theorem zgK {kp:Value}{D:Dev}(n:Int)(h:Vs w p m kp ca D)(hc:D.cache.length<1000000000000):
  SG prog 196 [ptr p 0,I n] w λv w'=>v=S (D.now n)/\Ext w w':=by
 have hM:=h.S4
 have ax:=h.ok.len
 have ff:=hc
 obtain⟨a,cap,rfl,ha⟩:=h.cache.rd.shape
 refine py (e:=[(0,_),(1,_)]) func196 O ntmps196 O O<|qN O<|Sd O O (UD O O) ?_
 rintro _ w1⟨b3,rfl,dS,o,u⟩
 refine Sd O O (UK (cs:=[_]) ti9 O) ?_
 rintro _ w2⟨b4,rfl,fO,T,J⟩
 replace h:=(h.ext o).ext T
 have j0:=h.S4
 refine S5<|SX O<|SC O<|Sn z2w O<|qV (Sc z3I O O j0 O)<|Sr zkE O (z5l a D.cache.length cap _) ?_
 rintro _ N⟨bx,rfl,gd,M,Z⟩
 replace h:=h.ext M
 replace u:=M.S4 (T.S4 u)
 replace J:=M.S4 J
 refine S5<|S7<|Wu (ps:=[12,13]) (p:=[]) (q:=[_]) O znY ?_
 rintro l P G hl cR hD W B eR
 have Rx:=zfd B eR
 have A:=h
 replace h:=h.ext G
 replace u:=G.S4 u
 replace J:=G.S4 J
 have HS:=Z.lt
 have oE:=u.lt
 have dy:=o.size
 have dG:=T.size
 have oz:=M.size
 have OA:bx<N.heap.size:=Z.lt
 replace Z:=G.S4 Z
 refine SG.mono (z7e l bx (.slice a D.cache.length cap) D.cache
  (λi w'=>W .ready none w'/\Kp (λk=>k=l) P w'/\∀j x,j<i->D.cache.reverse[j]? =some x->x.1≠n)
  (λw'=>W .done (some .ret) w'/\Kp (λk=>k=l\/k=b4) P w'/\Sk w' b4 [S (D.now n)] 9) P ω ?_ ?_ ⟨eR,Kp.refl _ _,ω⟩) ?_
 ·rintro i w'⟨d,c,-⟩;refine⟨⟨_,c.S4 Z ω⟩,h.cache.kp c λg hg eA=>?_⟩;have:=A.cache.lt hg;omega
 ·rintro i w' x hx⟨d,c,z⟩;refine XH B d O O ?_;have AU:=c.size;refine Sg O<|Sd O O (UK (cs:=[_,_]) z0h O) ?_;rintro _ b⟨b6,rfl,oo,Q,aW⟩;refine Sm O (Ta z0h O O O O aW ξ) ?_;rintro w6⟨oS,aI⟩;have K:=Q.An aI (λi hi=>ω);replace d:=K.rc B d id;replace c:=c.trans K.kp;have HT:=Q.size;have OB:=oS.lt;refine S5<|run_beginRound O B d ?_;rintro V h7 r;have t:=r.S4 oS ω;have L:=(c.trans r).S4 u ω;refine S7<|qN O<|Sn z4c O<|qV (Sc U3 O O t O)<|qV (Sc U3 O O L O)<|U7 O<|S5<|So O (λE=>?_)<|λE=>?_
  ·have U:=(c.trans r).S4 J ω;refine qN O (Sn z6Y O (qV (Sc U9 O O t O) (Sm O (TO ti9 O O O U ξ) ?_)));rintro w8⟨R,X⟩;refine S5 (ZO B (X.rc B h7 ω) ?_);intro w9 F f;refine .inr ⟨O,F,((c.trans r).Se λ_ h=> .inl h).trans ((X.Se λ_ h=> .inr h).trans (f.Se λ_ h=> .inl h)),?_⟩
   have HU:D.now n=x.2:=by
    unfold Dev.now;rw[zar D.cache n i z x hx E]
    rfl
   rw[HU];exact f.S4 R ω
  ·refine S6<|S2<|VY B h7 ?_;intro w9 F f;refine .inl ⟨O,F,(c.trans r).trans f,λj y hj H=>?_⟩;rcases y0a j i with uv|uv
   ·exact z j y uv H
   ·have:j=i:=ω
    subst this;rw[hx] at H;cases H;exact E
 ·rintro v w'⟨rfl,⟨d,c,z⟩|⟨d,c,hB⟩⟩
  ·refine⟨_,_,d,ξ,λb Y=>?_⟩;have s:=c.trans Y;have Q:Ext N b:=G.An s (λi hi=>ω);replace A:=A.ext Q;have L:=s.S4 u ω;have U:=s.S4 J ω;have C:=s.heap hD ω;refine S2<|SE O<|qV (Sc U3 O O L O)<|Sr zje O (z8K n A) ?_;rintro _ w6⟨rfl,K⟩;replace U:=K.S4 U;replace C:=K.heap C id;refine Sm O (TO ti9 O O O U ξ) ?_;rintro V⟨t,r⟩;replace C:=r.heap C ω;have R:=(U1 V N.heap.size (.deferred none)).S4 t ω;refine S5 (Zw ξ (z0M C) func196 (.cell1 U9 O O ((R).cell _) .nil) ?_);refine⟨_,O,?_,?_⟩
   ·simp[Dev.now,zbi D.cache n z,TC]
   ·exact((((o.trans (T.trans M)).trans Q).trans K).An r (λi hi=>ω)).An (U1 V N.heap.size (.deferred none)) (λi hi=>ω)
  ·refine⟨_,_,d,ξ,λb Y=>?_⟩;have C:=(c.trans (Y.Se λ_ h=> .inl h)).heap hD ω;have aF:=Y.S4 hB ω;have R:=(U1 b N.heap.size (.deferred none)).S4 aF ω;refine Zw ξ (z0M C) func196 (.cell1 U9 O O ((R).cell _) .nil) ?_;refine⟨_,O,O,?_⟩;exact(((o.trans (T.trans (M.trans G))).An c (λi hi=>ω)).An Y (λi hi=>ω)).An (U1 b N.heap.size (.deferred none)) (λi hi=>ω)
section
variable {kp:Value}{D:Dev}
def zgw (h:Vs w p m kp ca D):SG prog 154 [ptr p 0] w λv w'=>v= .bool D.down/\w'=w:=by
 have c:=h.S4
 refine py (e:=[(0,_)]) func154 O ntmps154 O O<|qN O<|TR O<|qV (T9 U26 O O)<|Sz O<|SC O<|Sn z6K O<|qV (Sc U4 O O c O)<|Td O<|Sq O<|S3 func154 O ?_
 exact⟨_,O,O,O⟩
end
theorem zdq (v:Value)(l:List Int)(x:Int)(w:World)(M:l.length<=17592186044416)(hr:Rd w v 1 l.length (l.map I)):
  SG prog 206 [v,I x] w λu w'=>(∃k,u=I k/\(0<=k↔x∈l))/\w'=w:=by
 obtain⟨a,cap,rfl,K⟩:=hr.shape
 refine py (e:=[(0,_),(1,_)]) func206 O ntmps206 O O<|TU O<|SX O<|UR Tx O<|Sf O<|S5<|S7<|UW (α:=Nat) (0) (λi=>[(0,.slice a l.length cap),(1,I x),(7,I (l.length:Int)),(8,I (i:Int))]) (λi w'=>w'=w/\i<=l.length/\∀j,j<i->l[j]?≠some x) (λi=>l.length-i) ?hI ?hround
 case hI=>exact⟨O,ω,ω⟩
 case hround =>
  rintro i _⟨rfl,hi,r⟩ G
  try dsimp only
  refine qN O<|TW O<|S5<|It<|So O (λC=>?_)<|λC=>?_
  ·have n:i<l.length:=ω
   rcases hr.2 with⟨c,-,h⟩|⟨b,off,q,J,D⟩
   ·omega
   cases J;refine S6 (TZ (SE O (Up O (Sz O (Sf O (qV (Tm Tx T8 O O ω) (qV (SQ U3 O O (D (i*1) (I l[i]) (by simp[n]))) ?_)))))));refine U7 O<|S5<|So O (λd=>?_)<|λd=>?_
   ·refine SE O<|Sq O<|S3 func206 O (⟨_,O,⟨(i:Int),O,?_⟩,O⟩);constructor
    ·intro _;rw[d];exact y1s n
    ·intro _;omega
   ·refine S6<|S2<|Sg O<|Tr O<|Sf O<|S5 ?_
    exact(G (i+1) _ ⟨rfl,ω,λj B=>by
     rcases y0a j i with h| h
     ·exact r j h
     ·have:j=i:=ω
      subst this;rw[y04 n]
      exact λh=>d (UC h).symm⟩ ω).qb
  ·refine Sh O<|TU O<|S3 func206 O (⟨_,O,⟨-1,O,?_⟩,O⟩);constructor
   ·intro h;omega
   ·intro h;obtain⟨j,B,e⟩:=List.getElem_of_mem h;exact absurd (by rw[y04 B,e]) (r j ω)
theorem z6R (v:Value)(l:List Int)(x:Int)(w:World)(d:l.length<=17592186044416)(hr:Rd w v 1 l.length (l.map I)):
  SG prog 234 [v,I x] w λu w'=>u= .bool (decide (x∈l))/\w'=w:=by
 refine py (e:=[(0,_),(1,_)]) func234 O ntmps234 O O<|qN O<|Up O<|Sz O<|Sr zjg O (zdq v l x w d hr) ?_
 rintro _ w1⟨⟨k,rfl,c⟩,rfl⟩
 refine WZ O<|Sq O<|S3 func234 O (⟨_,O,?_,O⟩)
 simp only[TC,c]
theorem z9Z (c x:Sa)(rest:List Value)(i:Nat)(h:i+x.length<=c.length):Ul (c.map WD++rest) i (x.map WD)=(ze1 c i x).map WD++rest:=by
 unfold Ul ze1
 rw[y1v (by simp;omega),y1j (by simp;omega)]
 simp
theorem z2Z {D:Dev}{l:List Int}{c:Int}{mk:UInt8}{x:Int×Sa}(d:D.cache[i]? =some x):D.fallTo l c mk (i+1)=
  if(i:Int)=c then upd (D.fallTo l c mk i) x.1 (mixN mk (((D.fallTo l c mk i) x.1).getD (zeros (512*D.N))) x.2 D.N)
   else if(i:Int)∈l then upd (D.fallTo l c mk i) x.1 x.2 else D.fallTo l c mk i:=by
 simp only[Dev.fallTo,d]
theorem zfc {kp cv:Value}{D:Dev}(h:Vs w p m kp ca D)(l:List Int)(G:Int)(mk:UInt8)(hl:l.length<=17592186044416)(hr:Rd w cv 1 l.length (l.map I))(ff:D.cache.length<2000000000000):
  SG prog 217 [ptr p 0,.agg #[cv,I G,WD mk]] w λv w'=>v= .tuple #[]/\Vs w' p m (.slice none 0 0) (.slice none 0 0) (D.zg3 l G mk)/\Kp (λk=>k=p\/k=m) w w':=by
 have ax:=h.ok.len
 have hN:=h.ok.hN
 have OC:=mk.toNat_lt
 have OD:=h.pm
 have Er:=h.lt m (.inr (.inl O))
 have Lw:∀{w':World},Ext w w'->w.heap.size<=w'.heap.size:=λh=>h.size
 obtain⟨a,cap,rfl,ha⟩:=h.cache.rd.shape
 obtain⟨ac,u,rfl,Ry⟩:=hr.shape
 refine py (e:=[(0,_),(1,_)]) func217 O ntmps217 O O<|qN O<|Sd O O (UD O O) ?_
 rintro _ w1⟨b3,rfl,dS,X,au⟩
 have h0:=h.ext X
 have dy:=X.size
 replace hr:=hr.ext X
 have HS:=au.lt
 have hM:=h0.S4
 refine S5<|SX O<|SC O<|Sn z2w O<|qV (Sc z3I O O hM O)<|UR z3I O<|Sf O<|S5<|S7<|UW (α:=Nat) (0) (λi=>[(0,ptr p 0),(3,ptr b3 0),(11,.slice a D.cache.length cap),(12,I (D.cache.length:Int)),(13,I (i:Int))]) (λi g=>i<=D.cache.length/\Vs g p m kp (.slice a D.cache.length cap) {D with sf:=D.fallTo l G mk i}/\Rd g (.slice ac l.length u) 1 l.length (l.map I)/\Sk g b3 [.slice ac l.length u,I G,WD mk] 127/\Kp (λk=>k=m) w1 g) (λi=>D.cache.length-i) ?hI ?hround
 case hI=>exact⟨ω,h0,hr,au,Kp.refl _ _⟩
 case hround =>
  rintro i g⟨hi,d,E,C,rL⟩ ih
  try dsimp only
  have OE:=rL.size;refine qN O<|TW O<|S5<|It<|So O (λaN=>?_)<|λaN=>?_
  ·have gX : i < D.cache.length := by omega
   have pR:=d.cache;rcases pR.shape with⟨-,h⟩|⟨gb,a0,n8,lh⟩
   ·exact absurd h (by show ¬D.cache.length=0;omega)
   cases n8;obtain⟨x,R⟩:∃x,D.cache[i]? =some x:=⟨_,y04 gX⟩;have zI:D.cache[i]=x:=by rw[y04 gX] at R;exact UC R
   have iB:((wrs D.cache).drop (i*2)).take 2=wr x:=by rw[zcD _ _ gX,zI]
   have M:=d.ok.cache x (y0i R);simp only at M;have mJ:=pR.part iB;refine S6 (TZ (SE O (qV (Tm z3I z0h O O ω) (qV (SO zeG O z0h O mJ O) (Sd O O (UK (cs:=[_,_]) z0h O) ?_)))));rintro _ w2⟨b5,rfl,gC,ae,aF⟩;refine Vj O (Sm O (Ta z0h O O O O aF ξ) ?_);rintro L⟨J,ar⟩;replace J:Sk L b5 [I x.1,S x.2] 336:=J;have t:Ext g L:=ae.An ar (λj hj=>ω);have OF:=J.lt;replace d:=d.ext t;have nv:=d.lt;replace E:=E.ext t;have sT:=E;replace C:=t.S4 C;have oE:=C.lt;have cj:Kp (λk=>k=m) w1 L:=rL.trans t.kp;have OG:=t.size;have Lx:¬b3=b5:=by have:=ae.size;have:=C;omega
   refine S5<|S7<|SE O<|Sn zhJ O<|qV (Sc U3 O O C O)<|U7 O<|Sq O<|So O (λV=>?_)<|λV=>?_
   ·refine SE O<|Sn z4c O<|qV (Sc U3 O O J O)<|Sr zje O (z8K x.1 d) ?_;rintro _ n⟨rfl,aA⟩;obtain⟨r,iU⟩:∃r,Dev.kept {D with sf:=D.fallTo l G mk i} x.1=r:=⟨_,O⟩;have nO:r.length=512*D.N:=by rw[<-iU];exact d.ok.kept x.1
    rw[iU];refine Sd O O (zfx U9 TT U5 O) ?_;rintro _ w5⟨bb,y,rest,rfl,⟨yH,aU,yZ⟩,Ly⟩;have Z:=aA.trans aU;replace d:=d.ext Z;replace E:=E.ext Z;replace C:=Z.S4 C;replace J:=Z.S4 J;have OH:=yZ.lt;have sU:=d.S4;have Lz:=Z.size;have OI:=aA.size;have OJ:=d.S4.lt;refine Sq O<|SX O<|SC O<|Sn z3X O<|Sn z2G O<|qV (Sc U3 O O sU O)<|Sf O<|S5<|S7<|UW (α:=Nat) (0) (λs=>[(0,ptr p 0),(3,ptr b3 0),(5,ptr b5 0),(6,.slice (some ⟨bb,0,none⟩) r.length y),(11,.slice (some ⟨gb,0,none⟩) D.cache.length cap),(12,I (D.cache.length:Int)),(13,I (i:Int)),(32,I (D.N:Int)),(33,I (s:Int))]) (λs c=>s<=D.N/\Sk c bb ((mixN mk r x.2 s).map WD++rest) 5/\Kp (λk=>k=bb) w5 c) (λs=>D.N-s) ?hI ?hround
    case hI=>exact⟨ω,yZ,Kp.refl _ _⟩
    case hround=>
     rintro s c⟨hs,nP,b⟩ A
     try dsimp only
     have BO:=b.S4 C ω;have BP:=b.S4 J ω;have fI:=z0A mk r x.2 D.N nO M.2.2 s hs;refine qN O<|TW O<|S5<|It<|So O (λiW=>?_)<|λiW=>?_
     ·have OK:s<D.N:=ω
      obtain⟨q,hq⟩:∃q,mk.toNat / 2^s=q:=⟨_,O⟩;have Rz:q<256:=by rw[<-hq];exact y1Z (y0S _ _) OC
      refine S6 (TZ (SE O (Up O (Sn zhO O (qV (Sc U5 O O BO O) (Sf O (qV (XE s (2^s) O O (by simp only[IntKind.bits];omega) O) ?_)))))));rw[hq];refine qV (zos O O ω ω) ?_;rw[y2z];refine U7 O<|S5<|So O (λpE=>?_)<|λpE=>?_
      ·have pS:q%2=1:=ω
       refine Ux (λw'=>Kp (λk=>k=bb) c w') O (St 0 O O ((Kp.refl _ c).drew) (St 1 O O ((Kp.refl _ c).drew) (S8 2 O (Zf O O ω) ((Kp.refl _ c).drew) (St 3 O O ((Kp.refl _ c).drew) (S8 4 O (YB O O ω) ((Kp.refl _ c).drew) (S8 5 O (Zf O O ω) ((Kp.refl _ c).drew) (S8 7 O (SN z6Y O) ((Kp.refl _ c).drew) (qT 8 O (λ_ h=>Sc U9 O O (h.S4 BP ω) O) ((Kp.refl _ c).drew) (St 9 O O ((Kp.refl _ c).drew) (S8 10 O (Zf O O ω) ((Kp.refl _ c).drew) (S8 11 O (z3t U9 O O ω) ((Kp.refl _ c).drew) (S8 6 O (zjq (i:=s*512) (j:=(s+1)*512) TT ti5 O O O ω ω) ((Kp.refl _ c).drew) (qO 12 ?_)))))))))))));refine z1Y (i:=12) O O O (zoz TT ti5 O O ((Ext.Sv c).S4 nP) (by simp[fI];omega)) ?_;rintro _ w6⟨rfl,T,W⟩;refine⟨(Kp.refl _ c).drew.trans W,?_⟩
       have e6:((x.2.drop (s*512)).take ((s+1)*512-s*512)).map WD=((x.2.drop (512*s)).take 512).map WD:=by
        rw[show(s+1)*512-s*512=512 by omega,y0H]
       rw[e6,show 0+s*512*1=512*s by omega,z9Z _ _ _ _ (by simp[fI,M.2.2];omega)] at T
       have em:mixN mk r x.2 (s+1)=ze1 (mixN mk r x.2 s) (512*s) ((x.2.drop (512*s)).take 512):=by
        simp only[mixN,hq,pS,if_true]
       rw[<-em] at T;refine qE<|S2<|Sg O<|Tr O<|Sf O<|S5 ?_;exact(A (s+1) w6 ⟨ω,T,b.trans ((Kp.refl _ c).drew.trans W)⟩ ω).qb
      ·have pS:¬q%2=1:=ω
       have em:mixN mk r x.2 (s+1)=mixN mk r x.2 s:=by simp only[mixN,hq,pS,if_false]
       rw[<-em] at nP;refine S6<|S2<|Sg O<|Tr O<|Sf O<|S5 ?_;exact(A (s+1) c ⟨ω,nP,b⟩ ω).qb
     ·have Gg:s=D.N:=ω
      subst Gg;have P:=d.kp b λk hk dq=>by have:=nv k hk;omega
      obtain⟨kv,Y,F⟩:=P.map;have OL:=P.S4;have LA:Ext L c:=Z.An b (λj hj=>ω);have xe:=sT.ext LA;refine Sh O (Ux (λw'=>Kp (λk=>k=m) c w') O (St 0 O O ((Kp.refl _ c).drew) (S8 1 O (Tu O) ((Kp.refl _ c).drew) (S8 2 O (SN z6S O) ((Kp.refl _ c).drew) (qT 3 O (λ_ h=>(Sc zbg O O (h.S4 OL P.pm) O)) ((Kp.refl _ c).drew) (S8 4 O (SN z4c O) ((Kp.refl _ c).drew) (qT 5 O (λ_ z=>(Sc U3 O O (z.S4 BP ω) O)) ((Kp.refl _ c).drew) (St 6 O O ((Kp.refl _ c).drew) (qT 7 O (λ_ h=>zbn (l:=mixN mk r x.2 D.N) TT U5 U9 O (h.S4 nP ω) (z8J _ _ _ ω) ω) ((Kp.refl _ c).drew) (qO 8 (SY (i:=8) O O (zmu (k:=x.1) (K:=KI) zbg (VH U3) O O O (Ext.map (Ext.Sv c) Y)) ?_)))))))))));rintro f⟨iq,U⟩;refine⟨(Kp.refl _ c).drew.trans U,?_⟩;have Q:=(Kp.refl (λi=>i=m) c).drew.trans U;have H:=P.put F iq Q (P.ok.put ⟨M.1,M.2.1⟩ (z0A mk r x.2 D.N nO M.2.2 D.N (y07 _)))
      have ef:upd (D.fallTo l G mk i) x.1 (mixN mk r x.2 D.N)=D.fallTo l G mk (i+1):=by
       rw[z2Z R,if_pos V,<-iU];rfl
      simp only[ef] at H;refine qE<|S2<|S2<|Sg O<|Tr O<|Sf O<|S5 ?_;exact(ih (i+1) f ⟨ω,H,xe.kpm Y Q,Q.S4 BO ω,cj.trans (LA.kp.trans Q)⟩ ω).qb
   ·have HV:=d.S4;refine qN O<|Sn zhP O<|qV (Sc Tx O O C O)<|Sf O<|Sr zm6 O (z6R (.slice ac l.length u) l (i:Int) L hl sT) ?_;rintro _ n⟨rfl,rfl⟩;refine Sq O<|So O (λo=>?_)<|λo=>?_
    ·obtain⟨kv,Y,F⟩:=d.map;refine Ux (λw'=>Kp (λk=>k=m) n w') O (St 0 O O ((Kp.refl _ n).drew) (S8 1 O (Tu O) ((Kp.refl _ n).drew) (S8 2 O (SN z6S O) ((Kp.refl _ n).drew) (qT 3 O (λ_ h=>(Sc zbg O O (h.S4 HV d.pm) O)) ((Kp.refl _ n).drew) (S8 4 O (SN z4c O) ((Kp.refl _ n).drew) (qT 5 O (λ_ z=>(Sc U3 O O (z.S4 J ω) O)) ((Kp.refl _ n).drew) (S8 6 O (SN z6Y O) ((Kp.refl _ n).drew) (qT 7 O (λ_ z=>(Sc U9 O O (z.S4 J ω) O)) ((Kp.refl _ n).drew) (qO 8 (SY (i:=8) O O (zmu (k:=x.1) (K:=KI) zbg (VH U3) O O O (Ext.map (Ext.Sv n) Y)) ?_))))))))));rintro f⟨iq,U⟩;refine⟨(Kp.refl _ n).drew.trans U,?_⟩;have Q:=(Kp.refl (λi=>i=m) n).drew.trans U;have H:=d.put F iq Q (d.ok.put ⟨M.1,M.2.1⟩ M.2.2)
     have ef:upd (D.fallTo l G mk i) x.1 x.2=D.fallTo l G mk (i+1):=by
      rw[z2Z R,if_neg V,if_pos o]
     simp only[ef] at H;refine qE<|S2<|S2<|Sg O<|Tr O<|Sf O<|S5 ?_;exact(ih (i+1) f ⟨ω,H,sT.kpm Y Q,Q.S4 C ω,cj.trans Q⟩ ω).qb
    ·have ef:D.fallTo l G mk i=D.fallTo l G mk (i+1):=by
      rw[z2Z R,if_neg V,if_neg o]
     rw[ef] at d;refine S6<|S2<|S2<|Sg O<|Tr O<|Sf O<|S5 ?_;exact(ih (i+1) n ⟨ω,d,sT,C,cj⟩ ω).qb
  ·have o:i=D.cache.length:=ω
   subst o;have HV:=d.S4;refine Sh O (SE O (SC O (Sn z2w O (Sm O (TO zbO O O O HV ξ) ?_))));rintro w5⟨aF,ai⟩;refine qM O (Sf O (qV (VI (cs:=[_,_,_,_]) zbR O znc O O) (SC O (Sn z0W O (Sm O (Ta zbR O O O O aF ξ) ?_)))));rintro w6⟨T,W⟩;replace T:Sk w6 p [I 0,.slice none 0 0,I 0,WD 0,I (D.B:Int),I (D.N:Int),.map (some m),.slice none 0 0,.bool D.down,I D.calls,I D.reads] 132:=T;refine S5 (Uw O (SC O (Sn z6K O (Sm O (TO Xh O O O T ξ) ?_))));rintro f⟨cm,U⟩;refine S5<|Tv func217 O ?_;have lX:=(ai.trans W).trans U;obtain⟨kv,Y,F⟩:=d.map;refine⟨_,O,O,⟨cm,⟨kv,lX.map Y λe=>d.pm e.symm,F⟩,Sl.nil f _ _,Sl.nil f _ _,?_⟩,?_⟩
   ·exact⟨d.ok.hB,d.ok.hN,by simp[Dev.zg3],d.ok.sf,λx R=>by simp[Dev.zg3] at R,by have:=ax;simp[Dev.zg3];omega,d.ok.reads⟩
   ·exact((Ext.kp X).trans (rL.Se λ_ h=> .inr h)).trans (lX.Se λ_ h=> .inl h)
def Dev.push (D:Dev)(n:Int)(s:Sa):Dev:={D with cache:=D.cache++[(n,s)]}
def zf2 {e:Env}{d:Option Nat}{pos:String}{g:Option (Nat×Bool)}{x:Operand}{a b:Int}(h:look e x=some (I a))(l:look e y=some (I b)):Y P e ⟨d,.binOp .add t x y t',ty,pos,aft,g⟩ (I (IntKind.i64.wrap (a+b))) w w:=fun ρ c=>by simp[execOp,go_sem,c _ _ h,c _ _ l]
def Dev.ziV (D:Dev):Dev:=D.zg3 D.W8 D.zhW D.mask
def Dev.write (D:Dev)(n:Int)(s:Sa):Dev×Int:=
 if D.down then(D,8)
 else if D.has n=false\/s.length≠512*D.N then(D,1)
 else if D.due=1 then(((D.push n s).count).ziV,8) else((D.push n s).count,0)
def Dev.read (D:Dev)(n:Int):Dev×Sa×Int:=
 if D.down then(D,[],8) else if D.has n=false then(D,[],1) else({D with reads:=IntKind.i64.wrap (D.reads+1)},D.now n,0)
def z5i (w:World)(p m:Nat)(kp ca:Value)(D':Dev)(w':World):Prop:=∃d c,Vs w' p m d c D'/\Upd (fpD p m kp ca) (fpD p m d c) w w'
def z5i.same {kp:Value}{D:Dev}(h:Vs w' p m kp ca D)(k:Ext w w'):z5i w p m kp ca D w':=⟨kp,ca,h,k.upd⟩
def zeu {kp:Value}(k:Kp (λi=>i=p\/i=m) w w'):Upd (fpD p m kp ca) (fpD p m (.slice none 0 0) (.slice none 0 0)) w w':=
 ⟨k.Se λi hi=>hi.elim .inl λh=> .inr (.inl h),λi hi=>by
  rcases hi with h|h|h| h
  ·exact .inl (.inl h)
  ·exact .inl (.inr (.inl h))
  ·cases h
  ·cases h⟩
section
variable {kp:Value}{D:Dev}
theorem zeU (n:Int)(h:Vs w p m kp ca D)(B:D.Bd):
  SG prog 158 [ptr p 0,I n] w λv w'=>v= .tuple #[S (D.read n).2.1,I (D.read n).2.2]/\z5i w p m kp ca (D.read n).1 w':=by
 refine py (e:=[(0,_),(1,_)]) func158 O ntmps158 O O<|qN O<|To O<|SX O<|Sr zid O (z6g h) ?_
 rintro _ w1⟨rfl,rfl⟩
 cases d:D.down with
 | true =>
   refine TR O<|TK O<|S5<|So O (λc=>?_)<|λc=>?_
   ·refine SE O<|To O<|S3 func158 O ?_;have e:D.read n=(D,[],8):=by simp[Dev.read,d]
    rw[e];exact⟨_,O,O,z5i.same h (Ext.refl _)⟩
   ·exact absurd ψ c
 | false =>
   refine TR O<|TK O<|S5<|So O (λc=>?_)<|λc=>?_
   ·exact absurd c ψ
   ·refine S6<|It<|TV O<|Sr ziP O (zcv n h) ?_;rintro _ w2⟨rfl,rfl⟩
    cases x:D.has n with
    | false =>
      refine qV (Vn O)<|S5<|Sb O<|qN O<|To O<|S3 func158 O ?_;have e:D.read n=(D,[],1):=by simp[Dev.read,d,x]
      rw[e]
      exact⟨_,O,O,z5i.same h (Ext.refl _)⟩
    | true =>
      refine qV (Vn O)<|S5<|S9 O ?_;have u:=h.S4;refine S6 (SE O (SC O (Sn zcI O (qV (Sc U3 O O u O) (qV (zf2 O O) (SC O (Sn zcI O (Sm O (TO T8 O O O u ξ) ?_))))))));rintro G⟨C,q⟩;have r:=h.turn (D':={D with reads:=IntKind.i64.wrap (D.reads+1)}) C q O O O O ⟨h.ok.hB,h.ok.hN,h.ok.due,h.ok.sf,h.ok.cache,h.ok.len,trivial⟩;refine qM O<|Sz O<|Sr zkS O (zgK n r B.2.1) ?_;rintro _ J⟨rfl,l⟩;refine To O<|S3 func158 O ?_;have e:D.read n=({D with reads:=IntKind.i64.wrap (D.reads+1)},D.now n,0):=by simp[Dev.read,d,x]
      rw[e];exact⟨_,O,O,kp,ca,r.ext l,(q.Se λ_ h=> .inl h).trans l.kp,λ_ h=> .inl h⟩
theorem zcS (n:Int)(s:Sa)(h:Vs w p m kp ca D)(r:D.Bd)(hk:D.W8.length<=17592186044416):
  SG prog 193 [ptr p 0,I n,S s] w λv w'=>v=I (D.write n s).2/\z5i w p m kp ca (D.write n s).1 w':=by
 have fI:maxLen=9223372036854775807:=rfl
 obtain⟨L,ff,pC⟩:=r
 have OM:=h.ok.len
 refine py (e:=[(0,_),(1,_),(2,_)]) func193 O ntmps193 O O<|TU O<|SX O<|Sr zid O (z6g h) ?_
 rintro _ w1⟨rfl,rfl⟩
 cases C:D.down with
 | true =>
   refine TR O<|TK O<|S5<|So O (λJ=>?_)<|λJ=>?_
   ·refine SE O<|Sq O<|S3 func193 O ?_;have e:D.write n s=(D,8):=by simp[Dev.write,C]
    rw[e];exact⟨_,O,O,z5i.same h (Ext.refl _)⟩
   ·exact absurd ψ J
 | false =>
   refine TR O<|TK O<|S5<|So O (λJ=>?_)<|λJ=>?_
   ·exact absurd J ψ
   ·refine S6<|It<|TV O<|Sr ziP O (zcv n h) ?_;rintro _ w2⟨rfl,rfl⟩
    cases G:D.has n with
    | false =>
      refine qV (Vn O)<|Sf O<|Ua<|Ua<|qS<|Uj O<|S5<|Sb O<|TU O<|S3 func193 O ?_;have e:D.write n s=(D,1):=by simp[Dev.write,C,G]
      rw[e]
      exact⟨_,O,O,z5i.same h (Ext.refl _)⟩
    | true =>
      have f:0<=n/\n<(D.B:Int):=by simpa[Dev.has] using G
      refine qV (Vn O)<|Sz O<|qV (Ys U9 O)<|Sf O<|Sr zkt O (z4q h) ?_;rintro _ w3⟨rfl,rfl⟩;refine TK O<|Td O<|S5<|So O (λE=>?_)<|λE=>?_
      ·refine TU O<|S3 func193 O ?_
       have e:D.write n s=(D,1):=by
        have:s.length≠512*D.N:=ω
        simp[Dev.write,C,G,this]
       rw[e];exact⟨_,O,O,z5i.same h (Ext.refl _)⟩
      ·have R:s.length=512*D.N:=ω
       obtain⟨a,cap,rfl,ha⟩:=h.cache.rd.shape;have X:=h.S4;refine S6 (TV O (SC O (Sn z2w O (qV (Sc z3I O O X O) (Sz O (qV (VI (cs:=[_,_]) z0h O zmv O O) (Sd O O (pbs (cs:=[_,_]) (zs:=[Value.int .i64 0,Value.string ⟨#[]⟩]) z3I z0h O y00 O O O ψ) ?_)))))));rintro _ w4⟨b4,rfl,⟨fO,u,aG⟩,H⟩;have pT:=h.cache.ext u;refine Sd O O (pap z3I z0h O ψ O O pT H.rd (by intro c r;simp at r;rcases r with rfl|rfl<;>rfl) ω ω) ?_;rintro Y w5⟨b,M,k,-⟩;have t:oneV Y=true:=by rcases b.shape with⟨rfl,-⟩|⟨g,cap,rfl,-⟩<;>rfl
       have l:=h.ext u
       have kK:∀g,(Value.slice a D.cache.length cap).ownBlock=some g->¬g=p:=λg hg sR=>by
        obtain⟨xs,P,q⟩:=Xb l.cache hg;obtain⟨fz,hb,-⟩:=l.S4;rw[sR,hb] at q;cases q
       have sU:=M.S4 l.S4 (λhg=>kK p hg O);refine SC O (Sn z2w O (Sm O (TO zbO O O t sU ξ) ?_));rintro w6⟨z,K⟩;have gS:=h.S4.lt
       have V:Vs w6 p m kp Y (D.push n s):=by
        refine⟨z,?_,?_,?_,?_⟩
        ·obtain⟨kv,lT,oZ⟩:=l.map;exact⟨kv,K.map (M.map lT λhg=>(l.zmW hg).2.1 O) λe=>l.pm e.symm,oZ⟩
        ·have e:wrs (D.push n s).cache=wrs D.cache++[I n,S s]:=by simp[Dev.push,wrs,wr]
         have F:(D.push n s).cache.length=D.cache.length+1:=by simp[Dev.push]
         rw[e,F];refine b.kp K λg hg=>?_;rcases k g hg with d|d
         ·exact(l.zmW d).1
         ·have:=u.size;omega
        ·refine(l.W8.kp M λg hg r=>(l.zkZ hg).2.2 r).kp K λg hg=>(l.zkZ hg).1
        ·refine⟨h.ok.hB,h.ok.hN,h.ok.due,h.ok.sf,λx q=>?_,h.ok.len,h.ok.reads⟩;simp only[Dev.push,y0y,y0F] at q;rcases q with q|rfl
         ·exact h.ok.cache x q
         ·exact⟨f.1,f.2,R⟩
       refine S5<|SI.qb (e:=[(0,_),(6,_)]) ?_;refine SX O<|Sr znd O (z9E V L) ?_;rintro _ w7⟨rfl,Q,A⟩
       have j:Upd (fpD p m kp (.slice a D.cache.length cap)) (fpD p m kp Y) w3 w7:=by
        refine⟨(u.kp.trans (M.Se λi hi=> .inr (.inr (.inl hi)))).trans ((K.Se λi hi=> .inl hi).trans (A.Se λi hi=> .inl hi)),λi hi=>?_⟩;rcases hi with d|d|d|d
        ·exact .inl (.inl d)
        ·exact .inl (.inr (.inl d))
        ·rcases k i d with Z|Z
         ·exact .inl (.inr (.inr (.inl Z)))
         ·have:=u.size;exact .inr ω
        ·exact .inl (.inr (.inr (.inr d)))
       refine S5<|So O (λU=>?_)<|λU=>?_
       ·have o:=Q.S4;refine TV O (SC O (Sn z0W O (Sn zgG O (qV (SO zg9 O zf5 O (Sk.cells (n:=3) o (news:=[_,_,_]) O) O) (Sr zkA O (zfc Q D.W8 D.zhW D.mask hk Q.W8.rd (by show(D.cache++[(n,s)]).length<2000000000000;simp;omega)) ?_)))));rintro _ w8⟨rfl,W,y⟩;refine qM O<|Sq O<|S3 func193 O ?_
        have e:D.write n s=(((D.push n s).count).ziV,8):=by
         have T:D.due=1:=U;simp[Dev.write,C,G,R,T]
        rw[e];exact⟨_,O,O,_,_,W,j.trans (zeu y)⟩
       ·refine S6<|TU O<|S3 func193 O ?_
        have e:D.write n s=((D.push n s).count,0):=by
         have T:¬D.due=1:=U;simp[Dev.write,C,G,R,T]
        rw[e];exact⟨_,O,O,_,_,Q,j⟩
end
section
variable {D:Dev}
def Dev.zc4 (D:Dev)(n:Nat):List Sa:=(List.range n).map λj:Nat=>D.now (j:Int)
@[simp] theorem imageTo_length (D:Dev) (n:Nat):(D.zc4 n).length=n:=by simp[Dev.zc4]
theorem zfA {v:Value}{e size n:Nat}(h:Sl w v e size n cs):oneV v=true:=by
 rcases h.shape with⟨rfl,-⟩|⟨g,cap,rfl,-⟩<;>rfl
end
def z3y (b n:Int):Prop:=16<=b/\b<=4096/\1<=n/\n<=8
instance (b n:Int):Decidable (z3y b n):=by unfold z3y;infer_instance
def Dev.fresh (B N:Nat):Dev:=⟨0,[],0,0,B,N,λ_=>none,[],false,0,0⟩
def zcW (b n:Int)(w:World):SG prog 61 [.agg #[I b,I n]] w λv w'=>v=I (if z3y b n then 0 else 1)/\Ext w w':=by
 refine py (e:=[(0,_)]) func61 O ntmps61 O O<|qN O<|Sd O O (UD O O) ?_
 rintro _ w1⟨b1,rfl,B,d,c⟩
 by_cases hg:z3y b n
 ·obtain⟨h,l,q,g4⟩:=hg;refine Sq O<|It<|qN O<|Sn z2U O<|qV (Sc U3 O O c O)<|TW O<|T0<|Sf O<|Sn z2U O<|qV (Sc U3 O O c O)<|Ub O<|T0<|Td O<|Sf O ?_;refine Sn z2G O<|qV (Sc U3 O O c O)<|TW O<|T0<|Td O<|Sf O<|Sn z2G O<|qV (Sc U3 O O c O)<|Ub O<|T0<|Td O<|Tt O<|TU O<|S3 func61 O ?_;exact⟨_,O,by rw[if_pos ⟨h,l,q,g4⟩];rfl,d⟩
 ·refine Sq O<|It<|qN O<|Sn z2U O<|qV (Sc U3 O O c O)<|TW O<|W4 (λr=>?_)<|λr=>?_
  ·refine Sf O<|Ua<|qS<|Uj O<|Sf O<|Ua<|qS<|Uj O<|Sf O<|Ua<|qS<|Uj O<|S5<|Sb O ?_;refine TU O<|S3 func61 O ?_;exact⟨_,O,by rw[if_neg hg];rfl,d⟩
  ·refine Sf O<|Sn z2U O<|qV (Sc U3 O O c O)<|Ub O<|Td O<|W4 (λu=>?_)<|λu=>?_
   ·refine Sf O<|Ua<|qS<|Uj O<|Sf O<|Ua<|qS<|Uj O<|S5<|Sb O<|TU O<|S3 func61 O ?_;exact⟨_,O,by rw[if_neg hg];rfl,d⟩
   ·refine Sf O<|Sn z2G O<|qV (Sc U3 O O c O)<|TW O<|Td O<|W4 (λx=>?_)<|λx=>?_
    ·refine Sf O<|Ua<|qS<|Uj O<|S5<|Sb O<|TU O<|S3 func61 O ?_;exact⟨_,O,by rw[if_neg hg];rfl,d⟩
    ·have:8<n:=by unfold z3y at hg;omega
     refine Sf O<|Sn z2G O<|qV (Sc U3 O O c O)<|Ub O<|Ue<|Td O<|S5<|Sb O<|TU O<|S3 func61 O ?_;exact⟨_,O,by rw[if_neg hg];rfl,d⟩
theorem zkn (B N:Nat)(w:World)(hg:z3y B N):SG prog 30 [.agg #[I (B:Int),I (N:Int)]] w λv w'=>∃p m,v= .tuple #[ptr p 0,I 0]/\Vs w' p m (.slice none 0 0) (.slice none 0 0) (Dev.fresh B N)/\Ext w w'/\w.heap.size<=p/\w.heap.size<=m:=by
 obtain⟨J,K,M,g4⟩:=hg
 refine py (e:=[(0,_)]) func30 O ntmps30 O O<|qN O<|Sd O O (UD O O) ?_
 rintro _ w1⟨b1,rfl,S,r,c⟩
 refine To O<|It<|qN O<|qV (SO U85 O zgB O (Sk.cells (n:=2) c (news:=[_,_]) O) O)<|Sr zoF O (zcW B N _) ?_
 rintro _ w2⟨rfl,d⟩
 rw[if_pos ⟨J,K,M,g4⟩]
 replace c:=d.S4 c
 refine TR O<|TK O<|S5<|So O (λC=>?_)<|λC=>?_
 ·exact absurd C ψ
 ·refine S6<|qN O<|qV (SO U85 O zgB O (Sk.cells (n:=2) c (news:=[_,_]) O) O)<|Sd O O pmm ?_;rintro _ b⟨m,rfl,Y,u,R⟩;refine qV (VI (cs:=[_,_,_,_,_,_,_,_,_,_,_]) zlU O zkD O O)<|Sd O O (UD O O) ?_;rintro _ l⟨p,rfl,Z,q,G⟩;refine To O<|S3 func30 O ?_;have U:=r.size;have T:=d.size;have a:=u.size;have D:z0g KI l m []:=⟨⟨#[],0,q.heap R id,O⟩,ξ⟩;refine⟨_,O,p,m,O,⟨G,⟨[],D,λn=>rfl⟩,Sl.nil l _ _,Sl.nil l _ _,?_⟩,((r.trans d).trans u).trans q,ω,ω⟩;exact⟨⟨by show 16<=B;omega,by show B<=4096;omega⟩,⟨by show 1<=N;omega,by show N<=8;omega⟩,(by simp[Dev.fresh]),(λn s h=>by cases h),(λx Q=>by cases Q),(by simp[Dev.fresh]),(by simp[Dev.fresh])⟩
def over (s:Sa)(c:Nat)(d:Sa):Sa:=s.take c++d++s.drop (c+d.length)
def Dev.ziQ (D:Dev)(n c:Int)(d:Sa):Prop:=D.has n=true/\0<=c/\c+(d.length:Int)<=((512*D.N:Nat):Int)
instance (D:Dev) (n at':Int) (d:Sa):Decidable (D.ziQ n at' d):=by unfold Dev.ziQ;infer_instance
def zou (n:Int)(a:Nat)(d:Sa)(x:Int×Sa):Int×Sa:=if x.1=n then(x.1,over x.2 a d) else x
def zja (n:Int)(a:Nat)(d:Sa)(l:List (Int×Sa))(i:Nat):List (Int×Sa):=(l.take i).map (zou n a d)++l.drop i
@[simp] theorem corTo_length (n:Int) (a:Nat) (d:Sa) (l:List (Int×Sa)) (i:Nat):(zja n a d l i).length=l.length:=by simp[zja];omega
theorem z9X (l:List (Int×Sa))(x:Int×Sa)(n:Int):z0n (l++[x]) n=if x.1=n then some x.2 else z0n l n:=by
 unfold z0n
 rw[List.reverse_append,List.reverse_singleton,y3e,List.find?_cons]
 by_cases h:x.1=n
 ·simp[h]
 ·have c:(x.1==n)=false:=by simpa using h
  simp[c,h]
/-! ### Bounds -/
def Dev.Small (D:Dev)(k:Nat):Prop:=D.calls<=k/\D.cache.length<=k/\True/\D.W8.length<=17592186044416
def Dev.Small.bd {D:Dev}(h:D.Small k)(c:k<1000000000000):D.Bd:=⟨by have:=h.1;omega,by have:=h.2.1;omega,trivial⟩
/-! ### By footprints -/
def zdl (w:World)(p:Nat)(F:Nat->Prop)(D':Dev)(w':World):Prop:=∃c,z07 w' p D' c/\Upd F c w w'
def z5i.toA {kp:Value}{D':Dev}(q:∀k,F k↔fpD p m kp ca k)(h:z5i w p m kp ca D' w'):zdl w p F D' w':=by
 have e:F=fpD p m kp ca:=funext λk=>propext (q k)
 subst e
 obtain⟨d,c,l,n⟩:=h
 exact⟨_,⟨m,d,c,l,λk=>y0U⟩,n⟩
section
variable {D:Dev}
theorem zdW (h:z07 w p D F):SG prog 154 [ptr p 0] w λv w'=>v= .bool D.down/\w'=w:=by
 obtain⟨m,kp,ca,c,d⟩:=h;exact zgw c
theorem zdy (h:z07 w p D F):SG prog 95 [ptr p 0] w λv w'=>v=I ((512*D.N:Nat):Int)/\w'=w:=by
 obtain⟨m,kp,ca,c,d⟩:=h;exact z4q c
theorem z0y (h:z07 w p D F):SG prog 138 [ptr p 0] w λv w'=>v=I (D.B:Int)/\w'=w:=by
 obtain⟨m,kp,ca,c,d⟩:=h;exact zb3 c
theorem zb7 (n:Int)(s:Sa)(h:z07 w p D F)(c:D.Small k)(r:k<1000000000000):
  SG prog 193 [ptr p 0,I n,S s] w λv w'=>v=I (D.write n s).2/\zdl w p F (D.write n s).1 w':=by
 obtain⟨m,kp,ca,d,q⟩:=h
 exact(zcS n s d (c.bd r) c.2.2.2).mono λv w' ⟨e,l⟩=>⟨e,l.toA q⟩
theorem zdn (n:Int)(h:z07 w p D F)(r:D.Small k)(q:k<1000000000000):
  SG prog 158 [ptr p 0,I n] w λv w'=>v= .tuple #[S (D.read n).2.1,I (D.read n).2.2]/\zdl w p F (D.read n).1 w':=by
 obtain⟨m,kp,ca,c,l⟩:=h
 exact(zeU n c (r.bd q)).mono λv w' ⟨e,d⟩=>⟨e,d.toA l⟩
theorem zhn (B N:Nat)(w:World)(hg:z3y B N):SG prog 30 [.agg #[I (B:Int),I (N:Int)]] w λv w'=>∃p F,v= .tuple #[ptr p 0,I 0]/\z07 w' p (Dev.fresh B N) F/\Ext w w'/\∀i,F i->w.heap.size<=i:=
 (zkn B N w hg).mono λv w' ⟨p,m,e,h,c,d,l⟩=>⟨p,_,e,⟨m,_,_,h,λk=>y0U⟩,c,λi hi=>by
  rcases hi with h|h|h| h
  ·omega
  ·omega
  ·cases h
  ·cases h⟩
end
def zlf {e:Env}{d:Option Nat}{pos:String}{g:Option (Nat×Bool)}{x:Operand}{p q:Bool}(h:look e x=some (.bool p))(l:look e y=some (.bool q))(ht:P.underlying t=some .bool):Y P e ⟨d,.binOp .neq t x y t',ty,pos,aft,g⟩ (.bool (!(p==q))) w w:=fun ρ c=>by
 simp[execOp,c _ _ h,c _ _ l,eqGuard_at_bool,run_neq_bool w t p q ht]
def zdl.kpF {D':Dev}(h:zdl w p F D' w'):Kp F w w':=by
 obtain⟨d,-,c⟩:=h
 exact c.1
def nrm (z b:Int):Int:=(z.tmod b+b).tmod b
def ZL (z b:Int)(c:0<b): -b<z.tmod b/\z.tmod b<b:=by
 have d:=y3i z c
 refine⟨?_,d⟩
 have e:=y3i (-z) c
 rw[Int.neg_tmod] at e
 omega
def z35 (z b:Int)(c:0<b):0<=nrm z b/\nrm z b<b:=by
 obtain⟨d,e⟩:=ZL z b c
 unfold nrm
 exact⟨Int.tmod_nonneg _ ω,y3i _ c⟩
theorem zf7 {D:Dev}{n:Int}(c:D.down=false)(h:D.due=0)(l:0<=n/\n<(D.B:Int))(e:s.length=512*D.N):D.write n s=((D.push n s).count,0):=by
 have d:D.has n=true:=by simp[Dev.has];omega
 unfold Dev.write
 rw[if_neg (by simp[c]),if_neg (by simp[d,e]),if_neg ω]
def grow:Nat->Sa->Nat->Sa
 |0,s,_=>s
 |f+1,s,n=>if s.length<n then grow f (s++s) n else s
def fill (s:Sa)(n:Nat):Sa:=(grow (n+1) (if s=[] then [0] else s) n).take n
section
variable {κ:Type}[DecidableEq κ]{K:κ->Value}{e:Env}{d:Option Nat}{pos:String}{g:Option (Nat×Bool)}{x:Operand}{z:Value}{size:Nat}{k:κ}
theorem zoS (ht:P.underlying t=some (.map kt el))(h:Ky P kt K)(C:TI P el z size bytes)(v:look e x=some (.map none))(B:look e y=some (K k)):
  Y P e ⟨d,.lookup t x y false,ty,pos,aft,g⟩ z w w:=fun ρ n=>by
 have q:=C.zero (w:=w)
 have D:=λb=>h.same.choose_spec.2.2 w b 9999 k
 have r:=h.same.choose_spec.1
 simp[execOp,n _ _ v,n _ _ B,Instr.lookup,run_underlying ht,D,q,Instr.findKey,run_underlying r,Instr.findNow]
end
structure QM (w:World)(ks mp:Value)(l:List Int):Prop where
 sl:Sl w ks 3 1 l.length (l.map I)
 mp:(mp= .map none/\l=[])\/∃b,mp= .map (some b)/\Wk KI w b (l.map λk=>(k,I 1))
 n:l.length<=8192
def Fq (ks mp:Value)(b:Nat):Prop:=ks.ownBlock=some b\/mp= .map (some b)
section
variable {l:List Int}{S:Nat->Prop}{c:Nat}{k:Int}
theorem QM.kp (h:QM w ks mp l)(q:Kp S w w')(r:∀b,Fq ks mp b->¬S b):QM w' ks mp l:=
 ⟨h.sl.kp q λg e=>r g (.inl e),by
  rcases h.mp with e|⟨b,e,v⟩
  ·exact .inl e
  ·exact .inr ⟨b,e,v.kp q (r b (.inr e))⟩,h.n⟩
def QM.lt (h:QM w ks mp l)(q:Fq ks mp b):b<w.heap.size:=by
 rcases q with e| e
 ·exact h.sl.lt e
 ·rcases h.mp with⟨n,-⟩|⟨v,n,r⟩
  ·rw[n] at e;cases e
  ·rw[n] at e;cases e;exact r.lt
def QM.ne (h:QM w ks mp l)(B:ks.ownBlock=some b):mp≠ .map (some b):=λe=>by
 obtain⟨r,v⟩:=h.sl.typed B
 rcases h.mp with⟨n,-⟩|⟨D,n,C⟩
 ·rw[n] at e;cases e
 ·rw[n] at e;cases e;obtain⟨⟨G,cl,q,-⟩,-⟩:=C;rw[v] at q;cases q
theorem QM.nd (h:QM w ks mp l):l.Nodup:=by
 rcases h.mp with⟨-,e⟩|⟨q,r,n⟩
 ·rw[e];exact y1G
 ·have:=n.nd;rw[y1l] at this;have e:((λp:Int×Value=>p.1) ∘ λk:Int=>(k,I 1))=id:=rfl;rw[e,y30] at this;exact this
theorem z8S (l:List Int)(k:Int):UM (l.map λk=>(k,I 1)) k=if k∈l then some (I 1) else none:=by
 induction l with
 |nil=>rfl
 | cons a l n =>
   show(if k=a then some (I 1) else UM (l.map λk=>(k,I 1)) k)=_;rw[n];by_cases h:k=a
   ·simp[h]
   ·simp[h]
theorem zfm (l:List Int)(k:Int):delL (l.map λk=>(k,I 1)) k=(l.erase k).map λk=>(k,I 1):=by
 induction l with
 |nil=>rfl
 | cons a l n =>
   show(if k=a then l.map (λk=>(k,I 1)) else(a,I 1)::delL (l.map λk=>(k,I 1)) k)=_;rw[n,List.erase_cons];by_cases h:k=a
   ·subst h;simp
   ·rw[if_neg h,if_neg (by simpa using λe=>h e.symm)];rfl
theorem yqk {e:Env}{d:Option Nat}{pos:String}{g:Option (Nat×Bool)}{x:Operand}(ht:P.underlying t=some (.map kt el))(n:P.underlying kt=some (.int .i64))(B:TI P el (I 0) 1 bytes)(r:look e x=some mp)(v:look e y=some (I k))(D:QM w ks mp l):
  Y P e ⟨d,.lookup t x y false,ty,pos,aft,g⟩ (I (if k∈l then 1 else 0)) w w:=by
 rcases D.mp with⟨rfl,rfl⟩|⟨b,rfl,C⟩
 ·rw[if_neg ξ];exact zoS (k:=k) (K:=KI) ht (VH n) B r v
 ·have h:=ylk (k:=k) (K:=KI) (d:=d) (ty:=ty) (pos:=pos) (aft:=aft) (g:=g) ht (VH n) B r v C.l;rw[z8S] at h;by_cases q:k∈l
  ·rw[if_pos q] at h⊢;exact h
  ·rw[if_neg q] at h⊢;exact h
def zgk (hB:Sk w c cs 190)(n:cs[o+1]? =some mp)(q:QM w ks mp l):SG prog 178 [ptr c o,I k] w λv w'=>v= .bool (decide (k∈l))/\w'=w:=by
 refine py (e:=[(0,_),(1,_)]) func178 O ntmps178 O O<|qN O<|TR O<|SC O<|Sn z2q O<|qV (Sc z08 O O hB n)<|Sf O<|qV (yqk (k:=k) z08 U3 T8 O O q)<|Ub O<|Sq O<|S3 func178 O (⟨_,O,?_,O⟩)
 by_cases h:k∈l
 ·simp[h,TC]
 ·simp[h,TC]
theorem zam {J:Value}(x:Int)(r:Rd w J 1 l.length (l.map I))(U:l.length<=4294967296):
  SG prog 206 [J,I x] w λv w'=>w'=w/\((x∉l/\v=I (-1))\/∃i:Nat,v=I (i:Int)/\l[i]? =some x/\x∉l.take i):=by
 obtain⟨a,cap,rfl,-⟩:=r.shape
 refine py (e:=[(0,_),(1,_)]) func206 O ntmps206 O O<|TU O<|SX O<|UR Tx O<|Sf O<|S5<|S7<|UW (α:=Nat) (0) (λi=>[(0,.slice a l.length cap),(1,I x),(7,I (l.length:Int)),(8,I (i:Int))]) (λi w'=>w'=w/\i<=l.length/\x∉l.take i) (λi=>l.length-i) ?hI ?hround
 case hI=>exact⟨O,y02 _,ξ⟩
 case hround=>
  rintro i f⟨rfl,hi,n⟩ R
  try dsimp only
  refine qN O<|TW O<|S5<|It<|So O (λN=>?_)<|λN=>?_
  ·have M:i<l.length:=ω
   obtain⟨s,C⟩:∃s,l[i]? =some s:=⟨_,y04 M⟩
   obtain⟨Y,lo,Z,Q⟩:∃b o q,Value.slice a l.length cap= .slice (some ⟨b,o,none⟩) l.length q:=by
    rcases r.2 with⟨c,D,T⟩|⟨b,off,q,D,-⟩
    ·omega
    ·exact⟨b,off,q,D⟩
   cases Q;refine S6 (TZ (SE O (Up O (Sz O (Sf O (qV (Tm Tx T8 O O ω) (qV (SQ U3 O O (TF r (show(l.map I)[i]? =some (I s) by rw[y0l,C];rfl))) ?_)))))));refine U7 O<|S5<|So O (λB=>?_)<|λB=>?_
   ·refine SE O<|Sq O<|S3 func206 O ?_;exact⟨_,O,O,.inr ⟨i,O,by rw[B];exact C,n⟩⟩
   ·refine S6 (S2 (Sg O (Tr O (Sf O (S5 ((R (i+1) _ ⟨O,M,λG=>?_⟩ ω).qb))))));rw[Tj C,y0y,y0F] at G;rcases G with h| h
    ·exact n h
    ·exact B h
  ·have:i=l.length:=ω
   subst this;rw[y0K] at n;refine Sh O<|TU O<|S3 func206 O ?_;exact⟨_,O,O,.inl ⟨n,O⟩⟩
theorem zfQ {x:Int}(h:l[i]? =some x)(n:x∉l.take i):l.take i++l.drop (i+1)=l.erase x:=by
 obtain⟨hi,e⟩:=y0p.1 h
 conv=>rhs;rw[<-y1c i l]
 rw[List.erase_append_right _ n,y2k hi,e,List.erase_cons_head]
theorem z9b {α:Type}{l:List α}{a:α}(h:l[i]? =some a):l.set i a=l:=by
 obtain⟨hi,e⟩:=y0p.1 h
 rw[<-e,List.set_getElem_self]
theorem ze4 (hB:Sk w c cs 190)(D:cs[o]? =some ks)(a:cs[o+1]? =some mp)(q:QM w ks mp l)(nc:¬Fq ks mp c):SG prog 179 [ptr c o,I k] w λv w'=>∃r,v= .tuple #[]/\Sk w' c (cs.set o r) 190/\QM w' r mp (l.erase k)/\(∀b,Fq r mp b->Fq ks mp b)/\Kp (λb=>b=c\/Fq ks mp b) w w':=by
 have hn:=q.n
 have g8:=q.nd
 refine py (e:=[(0,_),(1,_)]) func179 O ntmps179 O O<|SE O<|SC O<|Sn TH O<|qV (Sc Tx O O hB D)<|Sf O<|Sr zjg O (zam k q.sl.rd ω) ?_
 rintro _ w⟨rfl,L⟩
 rcases L with⟨F,rfl⟩|⟨i,rfl,hi,yW⟩
 ·refine TR O<|WZ O<|T0<|Tt O<|Tv func179 O (⟨_,O,ks,O,?_,?_,λb y=>y,Kp.refl _ _⟩)
  ·rw[z9b D];exact hB
  ·rw[y1F F];exact q
 ·have Q:k∈l:=y0i hi;have s:=(y0p.1 hi).1;refine TR O (WZ O (Ue (S5 (Sb O (TV O (SC O (Sn TH O (qV (Sc Tx O O hB D) (Sz O (Tr O (Sr zo6 O (zeM q.sl (λc A=>by obtain⟨z,-,rfl⟩:=y0k.1 A;rfl) s ω) ?_)))))))))));rintro B w2⟨C,G,R⟩
  have t:(l.map I).take i++(l.map I).drop (i+1)=(l.erase k).map I:=by
   rw[<-y1g,<-y1S,<-y0f,zfQ hi yW]
  rw[t] at C;have P:(l.erase k).length=l.length-1:=y3b Q;rw[<-P] at C;have V:¬ks.ownBlock=some c:=λe=>nc (.inl e);have m:=G.S4 hB V;refine SC O (Sn TH O (Sm O (TO ZA O O (zfA C) m (by have:=(y0p.1 D).1;omega)) ?_));rintro w3⟨Z,M⟩
  obtain⟨b,rfl,H⟩:∃b,mp= .map (some b)/\Wk KI w b (l.map λk=>(k,I 1)):=by
   rcases q.mp with⟨-,e⟩| h
   ·rw[e] at Q;cases Q
   ·exact h
  have Y:c≠b:=λe=>nc (.inr (by rw[e]));have T:ks.ownBlock≠some b:=λe=>q.ne e O;have BQ:o+1<cs.length:=(y0p.1 a).1;have W:=(H.kp G T).kp M (λe=>Y e.symm);have f:(cs.set (o+0) B)[o+1]? =some (Value.map (some b)):=by rw[y0M ω];exact a
  refine S5<|Uw O<|SC O<|Sn z2q O<|qV (Sc z08 O O Z f)<|Sf O<|zfP O (zjS (k:=k) (K:=KI) z08 (VH U3) O O W O) ?_;rintro _ X⟨U,J⟩;rw[zfm] at U;refine S5<|SI.qb (e:=[]) ?_;refine Tv func179 O ?_;have p:Kp (λj=>j=c\/Fq ks (.map (some b)) j) w X:=((G.Se λj e=> .inr (.inl e)).trans (M.Se λj e=> .inl e)).trans (J.Se λj e=> .inr (.inr (by rw[e])));exact⟨_,O,B,O,J.S4 Z Y,⟨(C.kp M λg e N=>nc (.inl (N▸R g e))).kp J λg e N=>T (N▸R g e),.inr ⟨b,rfl,U⟩,ω⟩,λj E=>E.imp (R j) id,p⟩
theorem zgp (hB:Sk w c cs 190)(h0:cs[o]? =some ks)(i:cs[o+1]? =some mp)(B:QM w ks mp l)(nc:¬Fq ks mp c)(hk:k∉l)(hl:l.length<=8191):SG prog 188 [ptr c o,I k] w λv w'=>∃C D,v= .tuple #[]/\Sk w' c ((cs.set (o+1) D).set o C) 190/\QM w' C D (l++[k])/\(∀b,Fq C D b->Fq ks mp b\/w.heap.size<=b)/\Kp (λb=>b=c\/Fq ks mp b) w w':=by
 have hn:=B.n
 have g8:=B.nd
 have lc:=hB.lt
 have t:o+1<cs.length:=(y0p.1 i).1
 obtain⟨G,rfl,W⟩:∃G,mp= .map G/\((G=none/\l=[])\/∃b,G=some b/\Wk KI w b (l.map λk=>(k,I 1))):=by
  rcases B.mp with⟨e,f⟩|⟨b,e,f⟩
  ·exact⟨_,e,.inl ⟨O,f⟩⟩
  ·exact⟨_,e,.inr ⟨b,O,f⟩⟩
 refine py (e:=[(0,_),(1,_)]) func188 O ntmps188 O O<|SX O<|SC O<|Sn z2q O<|qV (Sc z08 O O hB i)<|qV (zkM z08 O O)<|S5<|Tc (λq w'=>∃b,q=[(0,ptr c o),(1,I k)]/\Sk w' c (cs.set (o+1) (.map (some b))) 190/\Wk KI w' b (l.map λk=>(k,I 1))/\Sl w' ks 3 1 l.length (l.map I)/\(G=some b\/w.heap.size<=b)/\Kp (λj=>j=c) w w'/\b≠c/\ks.ownBlock≠some b) ?bL<|λbL=>?dE
 case bL=>
  rintro q w1⟨b,rfl,Q,U,mP,m,Y,y,E⟩;have mX:(cs.set (o+1) (Value.map (some b)))[o+1]? =some (.map (some b)):=y0X t;have gB:(cs.set (o+1) (Value.map (some b)))[o]? =some ks:=by rw[y0M ω];exact h0
  have z1:=Y.size;refine SE O<|SC O<|Sn z2q O<|qV (Sc z08 O O Q mX)<|Sf O<|Sm O (zkj (k:=k) (K:=KI) z08 (VH U3) O O O U) ?_;rintro w2⟨p,r⟩;rw[Yq _ _ _ (by rw[z8S,if_neg hk])] at p;have R:=r.S4 Q (λe=>y e.symm);have dv:=mP.kp r (λg e q=>E (q▸e));refine S5 (Sg O (Sz O (SC O (Sn TH O (qV (Sc Tx O O R gB) (Sf O (Sd O O (pbs (cs:=[_]) (zs:=[Value.int .i64 0]) Tx T8 O y00 O O O ψ) ?_)))))));rintro _ w3⟨a0,rfl,⟨OP,J,ft⟩,P⟩;have lb:=p.lt;have z2:=r.size;refine Sd O O (pap Tx T8 O ψ O O (dv.ext J) P.rd (by intro c F;simp at F;subst F;rfl) ω (by simp only[maxLen];omega)) ?_;rintro N w4⟨A,T,LE,-⟩;have z3:=J.size;have z4:=T.size;have H:ks.ownBlock≠some c:=λe=>nc (.inl e);have aG:=T.S4 (J.S4 R) H;have L:=(p.ext J).kp T E;refine SC O (Sn TH O (Sm O (TO ZA O O (zfA A) aG (by rw[y0w];omega)) ?_));rintro w5⟨X,a⟩;refine S5<|Tv func188 O ?_
  have s:∀g,N.ownBlock=some g->g≠c:=λg e q=>by
   rcases LE g e with h| h
   ·exact H (q▸h)
   ·omega
  have ax:(l++[k]).length=l.length+1:=ξ
  refine⟨_,O,N,.map (some b),O,X,⟨?_,.inr ⟨b,rfl,?_⟩,ω⟩,λj M=>?_,?_⟩
  ·rw[y0f,ax];exact A.kp a λg e q=>s g e q
  ·rw[y0f];exact L.kp a y
  ·rcases M with M|M
   ·rcases LE j M with h| h
    ·exact .inl (.inl h)
    ·exact .inr ω
   ·cases M;rcases m with h| h
    ·exact .inl (.inr (by rw[h]))
    ·exact .inr h
  ·have V:Kp (λj=>j=c\/Fq ks (.map G) j) w w2:=by
    rcases m with h| h
    ·exact(Y.Se λj e=> .inl e).trans (r.Se λj e=> .inr (.inr (by rw[h,e])))
    ·exact(Y.Se λj e=> .inl e).An r (λj e=>ω)
   exact((V.trans J.kp).trans (T.Se λj e=> .inr (.inl e))).trans (a.Se λj e=> .inl e)
 case dE=>
  rcases W with⟨rfl,rfl⟩|⟨b,rfl,hm⟩
  ·refine Sb O<|Uw O<|Sd O O pmm ?_;rintro _ w1⟨b,rfl,m,Z,cV⟩;have U:Wk KI w1 b []:=Wk.new cV;have Q:=Z.S4 hB;refine SC O<|Sn z2q O<|Sm O (TO zcz O O O Q t) ?_;rintro w2⟨R,r⟩;refine S5 ?_;have lb:=U.lt;exact(bL _ _ ⟨b,O,R,U.kp r ω,(B.sl.ext Z).kp r (λg e q=>nc (.inl (q▸e))),.inr ω,Z.kp.trans r,ω,λe=>by have:=B.sl.lt e;omega⟩).qb
  ·refine VP O ?_;exact(bL _ _ ⟨b,O,by rw[z9b i];exact hB,hm,B.sl,.inl O,Kp.refl _ _,λe=>nc (.inr (by rw[e])),λe=>B.ne e O⟩).qb
end
def Arc.li (A:Arc):Nat->List Int
 |0=>A.once
 |1=>A.often
 |2=>A.Sw
 |_=>A.Ss
def Arc.Tl (A:Arc):Nat->List Int->Arc
 |0,l=>{A with once:=l}
 |1,l=>{A with often:=l}
 |2,l=>{A with Sw:=l}
 |_,l=>{A with Ss:=l}
theorem Arc.zjp (A:Arc)(d:j<4)(l:List Int)(i:Nat)(hi:i<4):(A.Tl j l).li i=if i=j then l else A.li i:=by
 match j,d,i,hi with
 |0,_,0,_|0,_,1,_|0,_,2,_|0,_,3,_|1,_,0,_|1,_,1,_|1,_,2,_|1,_,3,_|2,_,0,_|2,_,1,_|2,_,2,_|2,_,3,_|3,_,0,_|3,_,1,_|3,_,2,_|3,_,3,_=>rfl
def z52 (V:Nat->Value×Value)(j:Nat)(q:Value×Value)(i:Nat):Value×Value:=if i=j then q else V i
def acC (S:Nat)(T:Int)(V:Nat->Value×Value)(p:Nat):List Value:=[I (S:Int),(V 0).1,(V 0).2,(V 1).1,(V 1).2,(V 2).1,(V 2).2,(V 3).1,(V 3).2,I T,.map (some p)]
abbrev FV (V:Nat->Value×Value)(j b:Nat):Prop:=Fq (V j).1 (V j).2 b
structure Wo (w:World)(c:Nat)(A:Arc)(V:Nat->Value×Value)(p:Nat):Prop where
 S4:Sk w c (acC A.size A.target V p) 190
 q:∀j,j<4->QM w (V j).1 (V j).2 (A.li j)
 pins:z0g KI w p []
 YA:∀i j,i<4->j<4->i≠j->∀b,FV V i b->¬FV V j b
 nc:∀j,j<4->¬FV V j c
 np:∀j,j<4->¬FV V j p
 cp:c≠p
def Wj (c:Nat)(V:Nat->Value×Value)(p b:Nat):Prop:=b=c\/b=p\/∃j,j<4/\FV V j b
section
variable {c:Nat}{S:Nat->Prop}{k:Int}
theorem Wo.kp (h:Wo w c A V p)(d:Kp S w w')(e:∀b,Wj c V p b->¬S b):Wo w' c A V p:=
 ⟨d.S4 h.S4 (e _ (.inl O)),λj l=>(h.q j l).kp d λb n=>e b (.inr (.inr ⟨j,l,n⟩)),d.map h.pins (e _ (.inr (.inl O))),h.YA,h.nc,h.np,h.cp⟩
theorem Wo.ext (h:Wo w c A V p)(d:Ext w w'):Wo w' c A V p:=h.kp (S:=λ_=>False) d λ_ _=>id
theorem Wo.lt (h:Wo w c A V p)(d:Wj c V p b):b<w.heap.size:=by
 rcases d with e|e|⟨j,l,d⟩
 ·rw[e];exact h.S4.lt
 ·rw[e];exact h.pins.lt
 ·exact(h.q j l).lt d
structure z09 (w:World)(c:Nat)(V:Nat->Value×Value)(p:Nat)(w':World)(A':Arc)(V':Nat->Value×Value):Prop where
 m:Wo w' c A' V' p
 fp:∀b,Wj c V' p b->Wj c V p b\/w.heap.size<=b
 k:Kp (Wj c V p) w w'
theorem z09.trans (h:z09 w c V p w' A' V')(d:z09 w' c V' p w2 A2 V2):z09 w c V p w2 A2 V2:=
 ⟨d.m,λb l=>by
  rcases d.fp b l with e| e
  ·exact h.fp b e
  ·exact .inr (by have:=h.k.size;omega),h.k.An d.k λb l=>(h.fp b l).symm⟩
theorem Wo.r (h:Wo w c A V p)(d:Ext w w'):z09 w c V p w' A V:=⟨h.ext d,λb e=> .inl e,d.kp⟩
theorem Wo.upd (u:j<4)(h:Wo w c A V p){l:List Int}(hB:Sk w' c (acC A.size A.target (z52 V j (ks,mp)) p) 190)(M:(A.Tl j l).size=A.size/\(A.Tl j l).target=A.target)(T:QM w' ks mp l)(D:∀b,Fq ks mp b->FV V j b\/w.heap.size<=b)(I:Kp (λb=>b=c\/FV V j b) w w'):z09 w c V p w' (A.Tl j l) (z52 V j (ks,mp)):=by
 have J:∀{b:Nat},Wj c V p b->b<w.heap.size:=h.lt
 have N:∀i,i<4->i≠j->∀b,FV V i b->¬(b=c\/FV V j b):=λi hi R b d e=>by
  rcases e with e| e
  ·exact h.nc i hi (e▸d)
  ·exact h.YA i j hi u R b d e
 have v:∀i,i≠j->z52 V j (ks,mp) i=V i:=λi e=>if_neg e
 have C:z52 V j (ks,mp) j=(ks,mp):=if_pos O
 refine⟨⟨by rw[M.1,M.2];exact hB,λi hi=>?_,I.map h.pins (λe=>?_),λi B hi G K b d r=>?_,λi hi d=>?_,λi hi d=>?_,h.cp⟩,λb d=>?_,I.Se λb d=>?_⟩
 ·rw[Arc.zjp A u l i hi];by_cases e:i=j
  ·rw[if_pos e,e,C];exact T
  ·rw[if_neg e,v i e];exact(h.q i hi).kp I λb d=>N i hi e b d
 ·rcases e with e| e
  ·exact h.cp e.symm
  ·exact h.np j u e
 ·by_cases e:i=j
  ·have x:B≠j:=λx=>K (e.trans x.symm);unfold FV at d r;rw[e,C] at d;rw[v B x] at r;rcases D b d with n|n
   ·exact h.YA j B u G (λQ=>x Q.symm) b n r
   ·have:=J (.inr (.inr ⟨B,G,r⟩));omega
  ·unfold FV at d r;rw[v i e] at d;by_cases x:B=j
   ·rw[x,C] at r;rcases D b r with n|n
    ·exact h.YA i j hi u e b d n
    ·have:=J (.inr (.inr ⟨i,hi,d⟩));omega
   ·rw[v B x] at r;exact h.YA i B hi G K b d r
 ·by_cases e:i=j
  ·unfold FV at d;rw[e,C] at d;rcases D c d with n|n
   ·exact h.nc j u n
   ·have:=h.S4.lt;omega
  ·unfold FV at d;rw[v i e] at d;exact h.nc i hi d
 ·by_cases e:i=j
  ·unfold FV at d;rw[e,C] at d;rcases D p d with n|n
   ·exact h.np j u n
   ·have:=h.pins.lt;omega
  ·unfold FV at d;rw[v i e] at d;exact h.np i hi d
 ·rcases d with e|e|⟨i,hi,d⟩
  ·exact .inl (.inl e)
  ·exact .inl (.inr (.inl e))
  ·by_cases e:i=j
   ·unfold FV at d;rw[e,C] at d;rcases D b d with n|n
    ·exact .inl (.inr (.inr ⟨j,u,n⟩))
    ·exact .inr n
   ·unfold FV at d;rw[v i e] at d;exact .inl (.inr (.inr ⟨i,hi,d⟩))
 ·rcases d with e| e
  ·exact .inl e
  ·exact .inr (.inr ⟨j,u,e⟩)
def z0P (S:Nat)(T:Int)(V:Nat->Value×Value)(p:Nat)(d:j<4):(acC S T V p)[1+2*j]? =some (V j).1/\(acC S T V p)[1+2*j+1]? =some (V j).2:=by
 match j,d with
 |0,_|1,_|2,_|3,_=>exact⟨O,O⟩
theorem zh8 (S:Nat)(T:Int)(V:Nat->Value×Value)(p:Nat)(d:j<4)(ks mp:Value):((acC S T V p).set (1+2*j+1) mp).set (1+2*j) ks=acC S T (z52 V j (ks,mp)) p:=by
 match j,d with
 |0,_|1,_|2,_|3,_=>rfl
theorem zew (S:Nat)(T:Int)(V:Nat->Value×Value)(p:Nat)(d:j<4)(ks:Value):(acC S T V p).set (1+2*j) ks=acC S T (z52 V j (ks,(V j).2)) p:=by
 match j,d with
 |0,_|1,_|2,_|3,_=>rfl
def z3V (A:Arc)(d:j<4)(l:List Int):(A.Tl j l).size=A.size/\(A.Tl j l).target=A.target:=by
 match j,d with
 |0,_|1,_|2,_|3,_=>exact⟨O,O⟩
def Zc (h:Wo w c A V p)(d:j<4):SG prog 178 [ptr c (1+2*j),I k] w λv w'=>v= .bool (decide (k∈A.li j))/\w'=w:=
 zgk h.S4 (z0P _ _ _ _ d).2 (h.q j d)
theorem TN (h:Wo w c A V p)(d:j<4):SG prog 179 [ptr c (1+2*j),I k] w λv w'=>v= .tuple #[]/\∃V',z09 w c V p w' (A.Tl j ((A.li j).erase k)) V':=by
 refine(ze4 h.S4 (z0P _ _ _ _ d).1 (z0P _ _ _ _ d).2 (h.q j d) (h.nc j d) (k:=k)).mono λv w' u=>?_
 obtain⟨x,rfl,hB,r,l,n⟩:=u
 rw[zew _ _ _ _ d] at hB
 exact⟨O,_,h.upd d hB (z3V A d _) r (λb e=> .inl (l b e)) n⟩
def Uq (h:Wo w c A V p)(d:j<4)(e:k∉A.li j)(n:(A.li j).length<=8191):SG prog 188 [ptr c (1+2*j),I k] w λv w'=>v= .tuple #[]/\∃V',z09 w c V p w' (A.Tl j (A.li j++[k])) V':=by
 refine(zgp h.S4 (z0P _ _ _ _ d).1 (z0P _ _ _ _ d).2 (h.q j d) (h.nc j d) e n).mono λv w' u=>?_
 obtain⟨x,B,rfl,hB,r,l,e⟩:=u
 rw[zh8 _ _ _ _ d] at hB
 exact⟨O,_,h.upd d hB (z3V A d _) r l e⟩
def zab (n:Nat):Arc:=⟨n,[],[],[],[],0⟩
def zgJ {n:Nat}(h:1<=n):(zab n).Ok:=⟨h,y1G,y02 _,y02 _,y02 _,⟨Int.le_refl _,by show(0:Int)<=(n:Int);omega⟩⟩
theorem zf0 (n:Nat)(G:1<=n)(J:n<=4096)(w:World):SG prog 62 [I (n:Int)] w λv w'=>∃c V p,v= .tuple #[ptr c 0,I 0]/\Wo w' c (zab n) V p/\(∀b,Wj c V p b->w.heap.size<=b)/\Ext w w':=by
 refine py (e:=[(0,_)]) func62 O ntmps62 O O<|qN O<|To O<|SX O<|TW O<|T0<|Sz O<|Ub O<|T0<|Td O<|Tt O<|SE O<|Sd O O pmm ?_
 rintro _ w1⟨p,rfl,M,r,C⟩
 refine qV (VI (cs:=[_,_,_,_,_,_,_,_,_,_,_]) zm1 O zl8 O O)<|Sd O O (UD O (cs:=acC n 0 (λ_=>(.slice none 0 0,.map none)) p) O) ?_
 rintro _ w2⟨c,rfl,K,u,B⟩
 refine To O<|S3 func62 O ?_
 have x:Wk KI w1 p []:=Wk.new C
 have N:=x.lt
 have q:∀b,¬Fq (.slice none 0 0) (.map none) b:=λb e=>by rcases e with e|e<;>cases e
 refine⟨_,O,c,_,p,O,⟨B,λj d=>⟨?_,?_,?_⟩,u.map x.l,λi j hi d D b h=>absurd h (q b),λj d=>q c,λj d=>q p,ω⟩,λb h=>?_,r.trans u⟩
 ·have e:(zab n).li j=[]:=by match j,d with|0,_|1,_|2,_|3,_=>rfl
  rw[e];exact Sl.nil _ _ _
 ·left
  refine⟨O,?_⟩
  match j,d with|0,_|1,_|2,_|3,_=>rfl
 ·have e:(zab n).li j=[]:=by match j,d with|0,_|1,_|2,_|3,_=>rfl
  rw[e];exact y02 _
 ·rcases h with e|e|⟨j,d,h⟩
  ·have:=r.size;omega
  ·omega
  ·exact absurd h (q b)
end
section
variable {c:Nat}{k:Int}
theorem Wo.cells (h:Wo w c A V p):Sk w c [I (A.size:Int),(V 0).1,(V 0).2,(V 1).1,(V 1).2,(V 2).1,(V 2).2,(V 3).1,(V 3).2,I A.target,.map (some p)] 190:=h.S4
theorem z6p (h:Wo w c A V p):SG prog 177 [ptr c 0,I k] w λv w'=>v= .bool (decide (k∈A.once\/k∈A.often))/\w'=w:=by
 have n:=Zc h (j:=0) (k:=k) ψ
 have q:=Zc h (j:=1) (k:=k) ψ
 rw[show A.li 0=A.once from rfl] at n
 rw[show A.li 1=A.often from rfl] at q
 refine py (e:=[(0,_),(1,_)]) func177 O ntmps177 O O<|qN O<|TR O<|qV (z8Y zee O O)<|Sz O<|SC O<|Sn Uf O<|Sf O<|Sr z1h O n ?_
 rintro _ w⟨rfl,rfl⟩
 by_cases d:k∈A.once
 ·rw[decide_eq_true d];refine Sf O<|Ua<|Ua<|qS<|Uj O<|Uj O<|Sq O<|S3 func177 O ?_;exact⟨_,O,by rw[decide_eq_true (Or.inl d)];rfl,rfl⟩
 ·rw[decide_eq_false d];refine Sz O<|SC O<|Sn UT O<|Sf O<|Sr z1h O q ?_;rintro _ w⟨rfl,rfl⟩;refine Td O<|Uj O<|Sq O<|S3 func177 O (⟨_,O,?_,O⟩);by_cases l:k∈A.often
  ·simp[d,l,TC]
  ·simp[d,l,TC]
def z1n:List Int->Value
 |[]=> .tuple #[I 0,.bool false]
 |a::_=> .tuple #[I a,.bool true]
theorem Zy (h:Wo w c A V p)(M:j<4):SG prog 189 [ptr c 0,ptr c (1+2*j)] w λv w'=>v=z1n (A.li j)/\w'=w:=by
 have hB:=h.cells
 have hg:=(z0P A.size A.target V p M).1
 have u:=h.q j M
 obtain⟨B,C,G,D⟩:∃a c,(V j).1= .slice a (A.li j).length c/\(a=none->(A.li j).length=0):=u.sl.rd.shape
 rw[G] at hg
 have d:=u.sl.rd
 have T:=u.n
 rw[G] at d
 refine py (e:=[(0,_),(1,_)]) func189 O ntmps189 O O<|qN O<|To O<|SX O<|SC O<|Sn TH O<|qV (Sc Tx O O h.S4 hg)<|UR Tx O<|Sf O<|S5<|S7 ?_
 cases N:A.li j with
 | nil =>
   rw[N] at d;refine UW (α:=Unit) () (λ_=>[(0,ptr c 0),(12,.slice B 0 C),(13,I 0),(14,I 0)]) (λ_ w'=>w'=w) (λ_=>0) ?hI ?hround
   case hI=>rfl
   case hround=>
    rintro i w2 rfl U
    try dsimp only
    refine qN O<|TW O<|T0<|S5<|It<|S9 O<|Sh O<|qN O<|TR O<|To O<|S3 func189 O ?_
    exact⟨_,O,O,O⟩
 | cons x r =>
   rw[N] at d D T
   obtain⟨Y,rfl⟩:∃b,B=some b:=by
    cases B with
    |none=>have:=D O;simp at this
    |some b=>exact⟨b,O⟩
   obtain⟨Z,lo,g,Q⟩:∃b o l,Value.slice (some Y) (x::r).length C= .slice (some ⟨b,o,none⟩) (x::r).length l:=by
    rcases d.2 with⟨c,J,R⟩|⟨b,off,l,J,-⟩
    ·simp at R
    ·exact⟨b,off,l,J⟩
   cases Q;have f:0<(x::r).length:=ξ
   refine UW (α:=Unit) () (λ_=>[(0,ptr c 0),(12,.slice (some ⟨Z,lo,none⟩) (x::r).length C),(13,I ((x::r).length:Int)),(14,I ((0:Nat):Int))]) (λ_ w'=>w'=w) (λ_=>0) ?hI ?hround
   case hI=>rfl
   case hround=>
    rintro i w2 rfl U
    try dsimp only
    refine qN O (TW O (Ue (S5 (It (Sb O (S6 (TZ (qN O (qV (Tm Tx T8 O O ω) (qV (SQ U3 O O (TF d (i:=0) (show((x::r).map I)[0]? =some (I x) from rfl))) (TR O (SC O (Sn z4a O ?_)))))))))))));refine qV (Sc z08 O O hB O)<|Sf O<|qV (ylk (k:=x) (K:=KI) z08 (VH U3) T8 O O h.pins)<|U7 O<|Ue<|S5<|Sb O<|SE O<|To O<|S3 func189 O ?_;exact⟨_,O,O,O⟩
theorem z6k (h:Wo w c A V p)(n:A.Ok)(x:A.size<=1000):SG prog 190 [ptr c 0] w λv w'=>v= .bool (decide (A.once.length+A.often.length=A.size))/\Ext w w':=by
 have hB:=h.cells
 have B:=n.held
 obtain⟨r,c0,d,-⟩:∃a c,(V 0).1= .slice a A.once.length c/\_:=(h.q 0 ψ).sl.rd.shape
 obtain⟨u,c1,l,-⟩:∃a c,(V 1).1= .slice a A.often.length c/\_:=(h.q 1 ψ).sl.rd.shape
 rw[d,l] at hB
 have hg:=Ext.Sv w
 refine py (e:=[(0,_)]) func190 O ntmps190 O O<|TU O<|It<|Ux (λw'=>Ext w w') O<|St 0 O O hg<|S8 1 O (Tu O) hg<|S8 2 O (SN Uf O) hg<|S8 3 O (SN TH O) hg<|qT 4 O (λ_ h=>Sc Tx O O (h.S4 hB) O) hg<|S8 5 O (VQ Tx O) hg<|St 6 O O hg<|S8 7 O (Tu O) hg<|S8 8 O (SN UT O) hg<|S8 9 O (SN TH O) hg ?_
 refine qT 10 O (λ_ h=>Sc Tx O O (h.S4 hB) O) hg<|S8 11 O (VQ Tx O) hg<|S8 12 O (YB O O ω) hg<|St 13 O O hg<|S8 14 O (Tu O) hg<|S8 15 O (SN Wf O) hg<|qT 16 O (λ_ h=>Sc U3 O O (h.S4 hB) O) hg<|S8 17 O (yeq O O) hg<|S8 18 O (UU O) hg<|qE<|S3 func190 O (⟨_,O,?_,hg⟩)
 show Value.bool _=Value.bool _
 congr 1
 exact decide_eq_decide.2 ω
end
end Go.Proofs.YtbihggbffaigjaaGreatDoor
