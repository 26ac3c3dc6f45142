/- Merged by program. -/
import Derived.Test.YtffbidffdbpcoaaGreatDoorZr7
import Derived.RecoverIn
set_option linter.all false
set_option maxRecDepth 1000000
set_option maxHeartbeats 16000000
namespace Go.Proofs.YtffbidffdbpcoaaGreatDoor
open Go Go.RowKit Go.Proofs.Tryz
def z3C (z:Int)(hz:JIq z)(w:World):Ps prog 7 [I z] w λv w'=>∃n:Nat,v=I (n:Int)/\1<=n/\n<=40/\w'=w:=by
 have r1:=VP z 40 ψ
 have r2:=Zi z 40 ψ
 refine py (e:=[(0,_)]) func7 O ntmps7 O O$ qN O$ R3 O$ qV (yrt O O ψ)$ Q4 O$ qV (yrt O O ψ) ?_
 rw[show(z.tmod 40+40).tmod 40=nrm z 40 from rfl]
 refine Q4 O$ P3 O$ OI func7 O ?_
 exact⟨_,rfl,(1+nrm z 40).toNat,by rw[Int.toNat_of_nonneg ω];rfl,ω,ω,rfl⟩
def z7U:Qq:=⟨7,3,3,3,64⟩
def z7n:Qq:=⟨0,0,2,1,64⟩
def z7k:Qq:=⟨2,1,4,2,3⟩
def z4V (z:Int)(hz:JIq z)(w:World):Ps prog 24 [I z] w λv w'=>∃p:Qq,v=bpV p/\p.Qx/\p.zeta<=3/\Ext w w':=by
 have r1:=VP z 3 ψ
 have r2:=Zi z 3 ψ
 refine py (e:=[(0,_)]) func24 O ntmps24 O O$ qN O$ OP O O (Rz (cs:=[_,_,_,_,_]) RE O) ?_
 rintro _ w1 ⟨b2,rfl,bN,ad,ai⟩
 refine qM O$ qV (Sh (cs:=[_,_,_,_,_]) RE O zcG O O)$ qV (Sh (cs:=[_,_,_,_,_]) RE O zcG O O)$ qV (Sh (cs:=[_,_,_,_,_]) RE O zcG O O)$ OP O O (Yx (cs:=[_,_,_,_,_,_,_,_,_,_,_,_,_,_,_]) (zs:=[Value.int .i64 0,Value.int .i64 0,Value.int .i64 0,Value.int .i64 0,Value.int .i64 0,Value.int .i64 0,Value.int .i64 0,Value.int .i64 0,Value.int .i64 0,Value.int .i64 0,Value.int .i64 0,Value.int .i64 0,Value.int .i64 0,Value.int .i64 0,Value.int .i64 0]) zcF RE O (by kernel_rfl) O O O ψ) ?_
 rintro _ w2 ⟨b3,rfl,⟨dI,ae,ak⟩,-⟩
 refine OT O$ qV (yrt O O ψ)$ Q4 O$ qV (yrt O O ψ) ?_
 rw[show(z.tmod 3+3).tmod 3=nrm z 3 from rfl]
 have iu:=ae.OH ai
 have Gd:nrm z 3=((0:Nat):Int)\/nrm z 3=((1:Nat):Int)\/nrm z 3=((2:Nat):Int):=by omega
 have lb:=ai.lt
 rcases Gd with e|e| e
 ·rw[e];refine qV (Qc zcF RE O O ω)$ qV (Pv (news:=Vj z7U) U75 O RE O (OU.cells (i:=0+0*5) (n:=5) ak O) O)$ OY O (PL (news:=Vj z7U) RE O O O O iu ξ) ?_;rintro w3 ⟨au,av⟩;refine OJ$ Po func24 (.cell U75 O RE O (OU.cells (n:=5) au (news:=[_,_,_,_,_]) O) O .nil) ?_;exact⟨_,rfl,z7U,rfl,by unfold Qq.Qx S6.Qx z7U Qq.list;decide,ψ,(ad.trans ae).It av (λj e=>by omega)⟩
 ·rw[e];refine qV (Qc zcF RE O O ω)$ qV (Pv (news:=Vj z7n) U75 O RE O (OU.cells (i:=0+1*5) (n:=5) ak O) O)$ OY O (PL (news:=Vj z7n) RE O O O O iu ξ) ?_;rintro w3 ⟨au,av⟩;refine OJ$ Po func24 (.cell U75 O RE O (OU.cells (n:=5) au (news:=[_,_,_,_,_]) O) O .nil) ?_;exact⟨_,rfl,z7n,rfl,by unfold Qq.Qx S6.Qx z7n Qq.list;decide,ψ,(ad.trans ae).It av (λj e=>by omega)⟩
 ·rw[e];refine qV (Qc zcF RE O O ω)$ qV (Pv (news:=Vj z7k) U75 O RE O (OU.cells (i:=0+2*5) (n:=5) ak O) O)$ OY O (PL (news:=Vj z7k) RE O O O O iu ξ) ?_;rintro w3 ⟨au,av⟩;refine OJ$ Po func24 (.cell U75 O RE O (OU.cells (n:=5) au (news:=[_,_,_,_,_]) O) O .nil) ?_;exact⟨_,rfl,z7k,rfl,by unfold Qq.Qx S6.Qx z7k Qq.list;decide,ψ,(ad.trans ae).It av (λj e=>by omega)⟩
def z4Q {Q:Rg}{txt:Int->OO}{K:Nat}{X:Nat->Prop}{w:World}(h:Sp Q txt K X w):Ps prog 28 [ptr Q.s 0] w λv w'=>∃a b c d e:Value,v= .agg #[a,b,c,d,e,I 0,I 0]/\Ext w w':=by
 obtain⟨P,hm,hI,hs,hf⟩:=h
 rw[<-hs.s]
 have hB:=hm.cells
 refine py (e:=[(0,_)]) func28 O ntmps28 O O$ qN O$ OP O O (Rz (cs:=[_,_,_,_,_,_,_]) z27 O) ?_
 rintro _ w1 ⟨b2,rfl,bN,ad,ai⟩
 have wV:=ad.OH hB
 refine OJ$ PR O$ qV (Qb XB O O)$ Qm O$ Pt O$ Pw O$ P4 VJ O$ qV (Pv (news:=[I (P.fr:Int),I P.h,I P.mi,I P.wr,I 0,I 0,I 0]) U79 O z27 O (OU.cells (i:=4) (n:=7) wV O) O)$ OP O O (Rz (cs:=[_,_,_,_,_,_,_]) z27 O) ?_
 rintro _ w2 ⟨b3,rfl,dI,ae,ak⟩
 refine OY O (PL (news:=[I (P.fr:Int),I P.h,I P.mi,I P.wr,I 0,I 0,I 0]) z27 O O O O ak ξ) ?_
 rintro w3 ⟨au,av⟩
 replace au:OU w3 b3 [I (P.fr:Int),I P.h,I P.mi,I P.wr,I 0,I 0,I 0] 79:=au
 have aZ:Ext w1 w3:=ae.It av (λj e=>by omega)
 have cj:=ad.trans aZ
 have kM:=cj.OH hB
 have wK:=hm.mp.ext cj
 have bX:=aZ.OH ai
 have z1:=ad.size
 have z2:=ae.size
 have l1:=ai.lt
 refine qM O$ OT O$ Pw O$ P4 Vb O$ qV (OS Xm O O kM O)$ qV (zgA Xm O wK.l)$ P4 zeY O$ OY O (QP Qe O O O au ξ) ?_
 rintro w4 ⟨aM,ar⟩
 have cV:=ar.OH bX ω
 replace aM:OU w4 b3 [I (P.fr:Int),I P.h,I P.mi,I P.wr,I ((TZ P.l).length:Int),I 0,I 0] 79:=aM
 refine qM O$ qV (Pv (news:=[I (P.fr:Int),I P.h,I P.mi,I P.wr,I ((TZ P.l).length:Int),I 0,I 0]) U79 O z27 O (OU.cells (i:=0) (n:=7) aM O) O)$ OY O (PL (news:=[I (P.fr:Int),I P.h,I P.mi,I P.wr,I ((TZ P.l).length:Int),I 0,I 0]) z27 O O O O cV ξ) ?_
 rintro w5 ⟨aK,aj⟩
 refine OJ$ Po func28 (.cell U79 O z27 O (OU.cells (n:=7) aK (news:=[_,_,_,_,_,_,_]) O) O .nil) ?_
 exact⟨_,rfl,_,_,_,_,_,rfl,(cj.It ar (λj e=>by omega)).It aj (λj e=>by omega)⟩
theorem RG {L:List Bool}{s n:Nat}{b:Bool}(h:s+n<=L.length)(i:Nat):(Qj L s n b)[i]? =if s<=i/\i<s+n then some b else L[i]? :=by
 unfold Qj
 have hl:(L.take s).length=s:=by rw[List.length_take];omega
 by_cases h1:i<s
 ·rw[if_neg ω,List.getElem?_append_left ω,List.getElem?_take_of_lt h1]
 ·rw[List.getElem?_append_right ω,hl];by_cases h2:i<s+n
  ·rw[if_pos ω,List.getElem?_append_left (by rw[List.length_replicate];omega),List.getElem?_replicate,if_pos ω]
  ·rw[if_neg ω,List.getElem?_append_right (by rw[List.length_replicate];omega),List.length_replicate,List.getElem?_drop]
   congr 1
   omega
def YN {L:List Bool}{a n:Nat}(h:Pre L a)(hn:a+n<=L.length):Pre (Qj L a n true) (a+n):=by
 have h2:=h.a2
 refine⟨ω,by rw[Qa hn];exact hn,λi h1 h3=>?_,λi h1 h3=>?_⟩
 ·rw[RG hn];split
  ·rfl
  ·exact h.tk i h1 ω
 ·rw[Qa hn] at h3;rw[RG hn,if_neg ω];exact h.fr i ω h3
theorem z8J {L:List Bool}{a n:Nat}(h:Pre L a)(hn:a+n<=L.length):Qj (Qj L a n true) a n false=L:=by
 have h1:=Qa (b:=true) hn
 have h4:=Qa (b:=false) (L:=Qj L a n true) (s:=a) (n:=n) ω
 apply List.ext_getElem?
 intro i
 rw[RG ω,RG hn]
 by_cases hi:a<=i/\i<a+n
 ·rw[if_pos hi];exact(h.fr i hi.1 ω).symm
 ·rw[if_neg hi,if_neg hi]
def z3H {Q:Rg}{txt:Int->OO}{K:Nat}{X:Nat->Prop}{w:World}(hP:Sp Q txt K X w)(hX:∀b,X b->b<w.heap.size)(hK:K<=90000000000)(x1:X 1)(x2:X 2)(hG:OU w 1 (Sq .gamma) 294)(hU:OU w 2 (Sq .unary) 294){g:List (List Nat)}(ay:S7 g)(bh:1<=g.length)(i7:g.length<=40){ga:Option Addr}{gc:Nat}(jR:GrM w (.slice ga g.length gc) g){p:Qq}(hp:p.Qx)(hz:p.zeta<=3){a:Nat}(ha:Pre Q.L a)(eZ:a+72<=Q.L.length):
  Ps prog 23 [ptr Q.s 0,.slice ga g.length gc,bpV p] w λv w'=>∃(G:GwP) (txt':Int->OO),v= .tuple #[ptr G.k 0,.bool true]/\G.g=g/\G.st=a/\G.len<=72/\1<=G.len/\(w.heap.size<=G.k/\w.heap.size<=G.x/\w.heap.size<=G.rb)/\SQ G (Q.Qp (Qj Q.L a G.len true)) txt' (K+200) (λj=>X j\/j=G.x\/j=G.k) w'/\(∀y:Int,y<(a:Int)\/(a:Int)+(G.len:Int)<=y->txt' y=txt y)/\Kp (λb=>¬X b) w w':=by
 have dX:=hP.n
 refine py (e:=[(0,_),(1,_),(2,_)]) func23 O ntmps23 O O$ qN O$ OP O O (R6 O (cs:=Vj p) O) ?_
 rintro _ w1 ⟨bp,rfl,Oi,ad,rW⟩
 refine SH O$ R3 O$ qV (Pv (news:=Vj p) U75 O RE O (OU.cells (i:=0) (n:=5) rW O) O)$ Pb zjS O (z6x hp ay bh (jR.ext ad) (ad.OH hG) (ad.OH hU)) ?_
 rintro _ w2 ⟨E,MN,rfl,ae⟩
 have Bt:T2 p g E:=⟨hp,ay,bh,MN⟩
 have Ge:=zbe Bt i7 hz
 obtain⟨T,hT⟩:∃T,Xt p g E=T:=⟨_,rfl⟩
 rw[hT] at Ge⊢
 have aF:=ad.trans ae
 have f7:=hP.ext' aF
 refine OT O$ SM O$ Qr O$ PR O$ QF O$ Qm O$ Pt O$ Pb z3J O (f7.size) ?_
 rintro _ w2 ⟨rfl,rfl⟩
 refine OT O$ qV (Wh U9 O)$ Pb zjT O (z3q T.length ω _) ?_
 rintro _ w2 ⟨rfl,rfl⟩
 obtain⟨N,hN⟩:∃N,(T.length+523) / 512=N:=⟨_,rfl⟩
 rw[hN]
 have kO:1<=N/\N<=72/\T.length<=N*512-12:=by omega
 refine OT O$ SM O$ Qr O$ Pu.qb (e:=[(0,_),(6,_),(7,_),(8,_),(9,_),(10,_)]) ?_
 refine PR O$ QF O ?_
 have eO:∀b,X b->b<w2.heap.size:=λb hb=>by have:=hX b hb;have:=aF.size;omega
 refine Qm O$ QI O$ Pb zg0 O (f7.take eO ha kO.1 ω) ?_
 rintro _ w3 ⟨rfl,fU,av⟩
 have eK:(Qj Q.L a N true).length=Q.L.length:=Qa ω
 obtain⟨Q3,rk⟩:∃Q3,Q.Qp (Qj Q.L a N true)=Q3:=⟨_,rfl⟩
 rw[rk] at fU
 have D4:Q3.s=Q.s:=by rw[<-rk];rfl
 have Oj:Q3.L.length=Q.L.length:=by rw[<-rk];exact eK
 rw[<-D4]
 have z3:=av.size
 have pF:∀b,X b->b<w3.heap.size:=λb hb=>by have:=eO b hb;omega
 refine OT O$ SM O$ OP O O (Rz (cs:=[_,_]) R4 O) ?_
 rintro _ w4 ⟨be,rfl,EH,aG,ey⟩
 refine OY O (PL (news:=[I (a:Int),I (N:Int)]) R4 O O O O ey ξ) ?_
 rintro w5 ⟨kY,aj⟩
 replace kY:OU w5 be [I (a:Int),I (N:Int)] 118:=kY
 have cw:Ext w3 w5:=aG.It aj (λj e=>by omega)
 refine P3 O$ PR O$ QF O ?_
 have gU:Sp Q3 txt K (λb=>X b\/b=be) w5:=fU.ext cw (λb e=>e.imp id λe=>by omega)
 refine Qm O$ Pt O$ qV (Pv (news:=[I (a:Int),I (N:Int)]) Xj O R4 O (OU.cells (i:=0) (n:=2) kY O) O)$ Pb zjx O (z2Z gU kO.1 ω) ?_
 rintro _ w6 ⟨wb,bs,bx,bw,sum,rfl,gR,Ao,⟨z1',z2',z3',z4'⟩,aR⟩
 have z5:=cw.size
 have z6:=aR.size
 have lbe:=kY.lt
 obtain⟨X6,mI⟩:∃X6:Nat->Prop,(λb=>X b\/b=be\/b=wb\/b=bs\/b=bx\/b=bw)=X6:=⟨_,rfl⟩
 have eD:∀b,X b->X6 b:=λb hb=>by rw[<-mI];exact .inl hb
 have aq:X6 wb/\X6 bs/\X6 bx/\X6 bw:=by rw[<-mI];exact⟨.inr (.inr (.inl O)),.inr (.inr (.inr (.inl O))),.inr (.inr (.inr (.inr (.inl O)))),.inr (.inr (.inr (.inr (.inr O))))⟩
 have Gf:X6 be:=by rw[<-mI];exact .inr (.inl O)
 have nt:Sp Q3 txt K X6 w6:=gU.ext aR (λb e=>by
  rw[<-mI] at e;rcases e with e|e| e
  ·exact .inl (.inl e)
  ·exact .inl (.inr e)
  ·exact .inr ω)
 have l1:=Ao.wr.lt
 have l2:=Ao.sb.lt
 have l3:=Ao.xb.lt
 have l4:=Ao.pb.lt
 have rl:∀b,X6 b->b<w6.heap.size:=λb e=>by
  rw[<-mI] at e;rcases e with e| e
  ·have:=pF b e;omega
  ·omega
 have Gg:be≠wb:=by omega
 refine OT O$ SM O$ Qr O$ PR O$ QF O$ Pl O$ OT O$ Pb zkf O (z4z nt rl ω Ao gR aq ω kO.1 kO.2.2) ?_
 rintro _ w7 ⟨rfl,sum7,sK,txt7,rest,sH,iv,gQ,Gh,Gi,aB,tA⟩
 have z7:=aB.size
 refine QF O$ PT O$ Pl O$ Pb zjY O (z4R sH (λb e=>by have:=rl b e;omega) ω iv sK aq ω hN.symm (by rw[show T.length%512=T.length-512*(T.length / 512) by omega];exact gQ) (λb hb e=>by have:=rl b e;have:=tA b hb;omega) Gh) ?_
 rintro _ w8 ⟨rfl,txt8,pH,Gj,Gk,MO,aL⟩
 have z8:=aL.size
 have pZ:Kp (λb=>¬X6 b\/b=wb) w6 w8:=aB.trans aL
 have Gl:=pZ.OH (aR.OH kY) (λe=>e.elim (λe=>e Gf) Gg)
 refine QF O$ PT O$ OJ$ Pu.qb (e:=[(0,_),(6,_),(7,_),(9,_),(11,_),(59,_)]) ?_
 refine SO O$ Pt O$ qV (Pv (news:=[I (a:Int),I (N:Int)]) Xj O R4 O (OU.cells (i:=0) (n:=2) Gl O) O)$ Pb zkH O (z6c pH (λb e=>by have:=rl b e;omega) ω kO.1 ω kO.2.2 sK Gk) ?_
 rintro _ w9 ⟨rb,rfl,Ap,If,pQ,aw⟩
 have z9:=aw.size
 have lrb:=Ap.lt
 have hL:Laid txt8 a T:=Laid.of λk hk=>⟨pQ.z0M ω ω,Gj k hk⟩
 subst hT
 have hO:StO Q3 txt8 (K+(Xt p g E).length / 512+2) a N (Xt p g E):=⟨ω,ω,hL,ω⟩
 have tF:Kp (λb=>¬X b) w w6:=(aF.kp.trans av).trans (cw.trans aR).kp
 have m9:Kp (λb=>¬X b) w w8:=tF.It pZ λb e=>by
  rcases e with e| e
  ·exact .inr λe2=>e (eD b e2)
  ·exact .inl (by have:=aF.size;omega)
 have oO:Kp (λb=>¬X b) w w9:=m9.trans (aw.ON λb e e2=>e (eD b e2))
 have z2:=aF.size
 have uT:¬X rb:=λe=>by have:=hX rb e;omega
 have hI:(z6l hO rb sum7).inv X w9:=⟨pQ.less (λb e=>e.imp (eD b) id),Ap,uT⟩
 refine OT O$ SM O$ Qr O$ PR O$ QF O$ Qm O$ Pt O$ Pb zjk O (z6F Bt hO hI (λb e=>by have:=hX b e;omega) x1 x2 (oO.OH hG (λe=>e x1)) (oO.OH hU (λe=>e x2))) ?_
 rintro _ w10 ⟨k,x,rfl,jV,oI,MP,aA⟩
 refine OT O$ SM O$ SH O$ QW O$ Pl O$ Rk O$ RP$ Pl O$ qV (z5c Z8 O O)$ Ra O$ Qr O$ Pu.qb (e:=[(6,_),(7,_)]) ?_
 refine OI func23 O (⟨_,rfl,⟨p,g,E,a,N,rb,sum7,k,x⟩,txt8,rfl,rfl,rfl,kO.2.1,kO.1,⟨by show w.heap.size<=k;omega,by show w.heap.size<=x;omega,by show w.heap.size<=rb;omega⟩,?_,λy hy=>?_,oO.trans aA⟩)
 ·rw[rk];exact SQ.more (G:=⟨p,g,E,a,N,rb,sum7,k,x⟩) ⟨hO,MP⟩ ω ω
 ·show txt8 y=txt y;have hy:y<(a:Int)\/(a:Int)+(N:Int)<=y:=hy;rw[MO y hy,Gi y ω]
structure Wd where
 d:Nat
 Q:Rg
 txt:Int->OO
 K:Nat
 G:GwP
 T:GwP
 a:Nat
def Wd.v (W:Wd):List Value:=[ptr W.d 0,ptr W.Q.s 0,ptr W.G.k 0,ptr W.T.k 0,I ((200-W.a:Nat):Int)]
structure WdM (W:Wd)(g:List (List Nat))(XX:Nat->Prop)(w:World):Prop where
 hg:SQ W.G W.Q W.txt W.K (λb=>XX b/\b≠W.G.rb) w
 ht:SQ W.T W.Q W.txt W.K (λb=>XX b/\b≠W.T.rb) w
 gg:W.G.g=g
 tg:W.T.g=Qu g
 pre:Pre W.Q.L W.a
 a:W.a<=146
 L:W.Q.L.length=200
 K:W.K<=400
 gs:W.G.st+W.G.len<=W.T.st
 ts:W.T.st+W.T.len<=W.a
 rb:XX W.G.rb/\XX W.T.rb/\W.G.rb≠W.T.rb/\W.T.rb≠W.G.k/\W.T.rb≠W.G.x/\W.G.rb≠W.T.k/\W.G.rb≠W.T.x
def z1N {w:World}{g:List (List Nat)}(ay:S7 g)(bh:1<=g.length)(i7:g.length<=40){ga:Option Addr}{gc:Nat}(jR:GrM w (.slice ga g.length gc) g)(hG:OU w 1 (Sq .gamma) 294)(hU:OU w 2 (Sq .unary) 294)(fr fo:Int)(jO:JIq fr)(uX:JIq fo):
  Ps prog 8 [.slice ga g.length gc,I fr,I fo] w λv w'=>∃(W:Wd) (XX:Nat->Prop),v= .tuple #[.agg W.v.toArray,.bool true]/\WdM W g XX w'/\Ext w w'/\(∀b,b<w.heap.size->XX b/\b≠W.G.rb/\b≠W.T.rb)/\w.heap.size<=W.G.k/\w.heap.size<=W.G.x/\w.heap.size<=W.T.k/\w.heap.size<=W.T.x:=by
 have r1:=VP fr 12 ψ
 have r2:=Zi fr 12 ψ
 have l1:=hG.lt
 have l2:=hU.lt
 refine py (e:=[(0,_),(1,_),(2,_)]) func8 O ntmps8 O O$ qN O$ OP O O (Rz (cs:=[_,_,_,_,_]) Zn O) ?_
 rintro _ w1 ⟨bW,rfl,Ol,ad,Ja⟩
 have z1:=ad.size
 have lW:=Ja.lt
 refine QW O$ qV (Sh (cs:=[_,_]) zbM O zko O O)$ Pb zkj O (zdn 200 1 _ (by unfold z09;decide)) ?_
 rintro _ w2 ⟨d,Fd,rfl,hD,ae,MQ⟩
 refine OT O$ SM O$ SH O$ QW O$ Pb zk5 O (z9q 200 ψ _) ?_
 rintro _ w3 ⟨m,gi,rfl,hE,hm,uo,ah⟩
 have z2:=ae.size
 have z3:=ah.size
 have MR:=hD.ext ah
 refine OT O$ SM O$ SH O$ QW O$ Pl O$ qV (yrt O O ψ)$ Q4 O$ qV (yrt O O ψ) ?_
 rw[show(fr.tmod 12+12).tmod 12=nrm fr 12 from rfl]
 obtain⟨nf,MS,Gm,MT⟩:∃nf:Nat,1+nrm fr 12=(nf:Int)/\1<=nf/\nf<=12:=⟨(1+nrm fr 12).toNat,ω,ω,ω⟩
 refine Q4 O ?_
 rw[MS]
 have ia:(List.replicate 200 false).length=200:=List.length_replicate
 have MU:¬Fd m/\¬Fd gi:=⟨λe=>by have:=hD.lt _ e;omega,λe=>by have:=hD.lt _ e;omega⟩
 refine OT O$ Pb zkm O (z8T (L:=List.replicate 200 false) (by rw[ia];exact MR) hE MU nf Gm ω) ?_
 rintro _ w4 ⟨P,rfl,hM,hI,MV,MW,Jb,MX,aG⟩
 have z4:=aG.size
 have cF:Ext w w4:=((ad.trans ae).trans ah).trans aG
 have Gn:=((ae.trans ah).trans aG).OH Ja
 obtain⟨X,hX⟩:∃X:Nat->Prop,(λb=>b<w.heap.size\/b=bW)=X:=⟨_,rfl⟩
 have Gp:∀b,X b->b<w1.heap.size:=λb e=>by rw[<-hX] at e;omega
 have oP:∀b,b<w.heap.size->X b:=λb e=>by rw[<-hX];exact .inl e
 have BU:X bW:=by rw[<-hX];exact .inr O
 have jQ:Sp P (λ_=>zeros 512) 0 X w4:=⟨P,hM,hI,⟨rfl,rfl,rfl,rfl,rfl,rfl,rfl,rfl,rfl⟩,λb hb e=>by
  have:=Gp b e;rcases MX b hb with e|e|e| e
  ·have:=MQ b e;omega
  ·omega
  ·omega
  ·omega⟩
 have dC:Pre P.L 2:=by
  rw[Jb];exact⟨Nat.le_refl _,by rw[ia];omega,λi h1 h2=>by omega,λi h1 h2=>by rw[ia] at h2;rw[List.getElem?_replicate,if_pos h2]⟩
 have Om:P.L.length=200:=by rw[Jb,ia]
 refine OT O$ SM O$ Qr O$ Pu.qb (e:=[(0,_),(2,_),(6,_),(7,_),(8,_),(9,_),(10,_),(11,_),(12,_),(13,_)]) ?_
 refine PR O$ QF O$ PO$ Pl O$ QF O$ PO$ PT O$ Pl O$ QF O$ PO$ PT O$ Pl O$ qV (Qb XB O O)$ PT O ?_
 refine Qm O$ QI O$ OT O$ Pb zfT O (z4V fo uX _) ?_
 rintro _ w5 ⟨p1,rfl,CQ,nz,aV⟩
 have z5:=aV.size
 have bS:=cF.trans aV
 have Aq:∀b,X b->b<w5.heap.size:=λb e=>by have:=Gp b e;omega
 refine Pb zfJ O (z3H (jQ.ext' aV) Aq ω (oP 1 l1) (oP 2 l2) (bS.OH hG) (bS.OH hU) ay bh i7 (jR.ext bS) CQ nz dC ω) ?_
 rintro _ w6 ⟨G,txt6,rfl,MY,On,Oo,MZ,⟨n1,n2,n3⟩,dL,Jc,aN⟩
 have iG:Ext w w6:=bS.It aN (λb e=>by
  rcases Nat.lt_or_ge b w.heap.size with h| h
  ·exact absurd (oP b h) e
  ·exact h)
 have z6:=aN.size
 have Gq:=aN.OH (aV.OH Gn) (λe=>e BU)
 have G8:(Qj P.L 2 G.len true).length=P.L.length:=Qa ω
 have oQ:Pre (Qj P.L 2 G.len true) (2+G.len):=YN dC ω
 obtain⟨Q6,Gs⟩:∃Q6,P.Qp (Qj P.L 2 G.len true)=Q6:=⟨_,rfl⟩
 have Gt:Q6.L=Qj P.L 2 G.len true:=by rw[<-Gs];rfl
 have uY:Q6.s=P.s/\Q6.d=P.d/\Q6.m=P.m:=by rw[<-Gs];exact⟨rfl,rfl,rfl⟩
 rw[Gs] at dL
 rw[<-Gt] at G8 oQ
 obtain⟨gb,go,gc',kh,Gu⟩:=jR.r bh
 cases kh
 refine OT O$ SM O$ Qr O$ Pu.qb (e:=[(0,_),(2,_),(6,_),(7,_),(8,_),(10,_),(12,_),(14,_),(15,_)]) ?_
 refine QI O$ Pb zg9 O (z0V ay (Gu.ext iG)) ?_
 rintro _ w7 ⟨bt,rfl,Gv,cm⟩
 have kk:=iG.trans cm
 have z7:=cm.size
 have Gw:=dL.ext cm
 have j5:=RZ g
 refine OT O$ qV (z6d O O) ?_
 obtain⟨fo2,oR⟩:∃z,IntKind.i64.wrap (fo+1)=z:=⟨_,rfl⟩
 have oS:JIq fo2:=by
  rw[<-oR,IntKind.wrap_i64];omega
 rw[oR]
 refine Pb zfT O (z4V fo2 oS _) ?_
 rintro _ w8 ⟨p2,rfl,tL,mY,cR⟩
 have z8:=cR.size
 have aP:=Gw.ext cR
 have uZ:=kk.trans cR
 obtain⟨X2,eO⟩:∃X2:Nat->Prop,(λb=>(X b\/b=G.x\/b=G.k)\/b=G.rb)=X2:=⟨_,rfl⟩
 have iC:∀b,X b->X2 b:=λb e=>by rw[<-eO];exact .inl (.inl e)
 have pH:Sp Q6 txt6 (0+200) X2 w8:=by rw[<-eO];exact aP.sp
 have Gx:∀b,X2 b->b<w8.heap.size:=λb e=>aP.lt1 b (by rw[<-eO] at e;exact e)
 have Gy:GrM w8 (.slice (some ⟨bt,0,none⟩) (Qu g).length (Qu g).length) (Qu g):=(Gv.ext cR).gr
 have px:=z3H pH Gx ω (iC _ (oP 1 l1)) (iC _ (oP 2 l2)) (uZ.OH hG) (uZ.OH hU) (Yv ay) ω ω Gy tL mY oQ ω
 rw[uY.1,j5] at px
 refine Pb zfJ O (px) ?_
 rintro _ w9 ⟨T,txt9,rfl,N0,Oq,Ot,N1,⟨t1,t2,t3⟩,iM,BV,aw⟩
 have z9:=aw.size
 have gq:Ext w w9:=uZ.It aw (λb e=>by
  rcases Nat.lt_or_ge b w.heap.size with h| h
  ·exact absurd (iC b (oP b h)) e
  ·exact h)
 have Gz:=aw.OH ((cm.trans cR).OH Gq) (λe=>e (iC _ BU))
 have Jd:(Qj Q6.L (2+G.len) T.len true).length=Q6.L.length:=Qa ω
 have oT:Pre (Qj Q6.L (2+G.len) T.len true) (2+G.len+T.len):=YN oQ ω
 obtain⟨Q9,GA⟩:∃Q9,Q6.Qp (Qj Q6.L (2+G.len) T.len true)=Q9:=⟨_,rfl⟩
 have GB:Q9.L=Qj Q6.L (2+G.len) T.len true:=by rw[<-GA];rfl
 have vd:Q9.s=Q6.s/\Q9.d=Q6.d/\Q9.m=Q6.m:=by rw[<-GA];exact⟨rfl,rfl,rfl⟩
 rw[GA] at iM
 rw[<-GB] at Jd oT
 have Ar:=iM.sp
 have ve:=iM.lt1
 have N2:SQ G Q9 txt9 (0+200+200) (λb=>(X b\/b=G.x\/b=G.k)\/b=T.x\/b=T.k\/b=T.rb) w9:=aP.zkE aw (λb e=>by rw[<-eO] at e;exact e) (λj e=> .inl e) (λj e=>e.imp id λe=>by
   have h1:=ve T.x (.inl (.inr (.inl O)));have h2:=ve T.k (.inl (.inr (.inr O)));have h3:=ve T.rb (.inr O)
   omega) (Ar.less λb e=>by
   rw[<-eO];rcases e with(e|e|e|e)| e
   ·exact .inl (.inl (.inl e))
   ·exact .inl (.inr (.inl e))
   ·exact .inl (.inr (.inr e))
   ·exact .inr e
   ·exact .inl (.inl (.inr e))) vd.1 Jd ω (λy h1 h2=>BV y (.inl ω))
 have eZ:=Ar.room oT ω
 rw[vd.2.2,uY.2.2,MV] at eZ
 refine OT O$ SM O$ SH O$ QW O$ Pl O$ Pl O$ OT O$ Pb zhR O (eZ) ?_
 rintro _ w10 ⟨rfl,bP⟩
 have As:=bP.OH Gz
 rw[show Q9.L.length-(2+G.len+T.len)=200-(2+G.len+T.len) by omega]
 refine qV (Sh (cs:=[_,_,_,_,_]) Zn O zke O O)$ Pl O$ OT O$ Ra O$ OY O (PL (news:=[_,_,_,_,_]) Zn O O O O As ξ) ?_
 rintro w11 ⟨At,bu⟩
 refine P3 O$ Pu.qb (e:=[(6,_),(7,_)]) ?_
 refine Po func8 (.cell U30 O Zn O (OU.cells (n:=5) At (news:=[_,_,_,_,_]) O) O (.tmp O .nil)) ?_
 obtain⟨XX,eD⟩:∃XX:Nat->Prop,(λb=>X b\/b=G.x\/b=G.k\/b=G.rb\/b=T.x\/b=T.k\/b=T.rb)=XX:=⟨_,rfl⟩
 have BW:=aP.rbX
 have pR:=iM.rbX
 have BX:=aP.xk
 have Je:=iM.xk
 have zG:=aP.lt1 _ (.inr O)
 have zGk:=aP.lt1 _ (.inl BX.1)
 have zGx:=aP.lt1 _ (.inl BX.2.1)
 have cP:∀b,X b->b<w1.heap.size:=Gp
 have GC:SQ G Q9 txt9 400 (λb=>XX b/\b≠G.rb) w11:=by
  refine SQ.less (Y:=λb=>(X b\/b=G.x\/b=G.k)\/b=T.x\/b=T.k\/b=T.rb) ((N2.ext bP).own bu λj e=>?_) (λb e=>?_) ?_
  ·subst e;exact⟨.inl (.inl BU),ω,ω,ω,ω⟩
  ·rw[<-eD] at e;rcases e with⟨e|e|e|e|e,h⟩
   ·exact .inl (.inl e)
   ·exact .inl (.inr (.inl e))
   ·exact .inl (.inr (.inr e))
   ·exact absurd e h
   ·exact .inr e
  ·rw[<-eD];exact⟨⟨.inr (.inr (.inl O)),λe=>BW (e▸BX.1)⟩,⟨.inr (.inl O),λe=>BW (e▸BX.2.1)⟩,⟨.inl (oP 1 l1),ω⟩,⟨.inl (oP 2 l2),ω⟩⟩
 have GD:SQ T Q9 txt9 400 (λb=>XX b/\b≠T.rb) w11:=by
  refine SQ.less (Y:=λj=>X2 j\/j=T.x\/j=T.k) ((iM.ext bP).own bu λj e=>?_) (λb e=>?_) ?_
  ·subst e;exact⟨.inl (iC _ BU),ω,ω,ω,ω⟩
  ·rw[<-eD] at e;rw[<-eO];rcases e with⟨e|e|e|e|e|e|e,h⟩
   ·exact .inl (.inl (.inl e))
   ·exact .inl (.inl (.inr (.inl e)))
   ·exact .inl (.inl (.inr (.inr e)))
   ·exact .inl (.inr e)
   ·exact .inr (.inl e)
   ·exact .inr (.inr e)
   ·exact absurd e h
  ·rw[<-eD];exact⟨⟨.inr (.inr (.inr (.inr (.inr (.inl O))))),λe=>pR (e▸Je.1)⟩,⟨.inr (.inr (.inr (.inr (.inl O)))),λe=>pR (e▸Je.2.1)⟩,⟨.inl (oP 1 l1),ω⟩,⟨.inl (oP 2 l2),ω⟩⟩
 refine⟨_,rfl,⟨d,Q9,txt9,400,G,T,2+G.len+T.len⟩,XX,?_,⟨GC,GD,MY,N0,oT,?_,?_,?_,?_,?_,by rw[<-eD];exact⟨.inr (.inr (.inr (.inl O))),.inr (.inr (.inr (.inr (.inr (.inr O))))),λe=>pR (.inl (by rw[<-eO];exact .inr e.symm)),λe=>pR (.inl (by rw[<-eO];exact .inl (.inr (.inr e)))),λe=>pR (.inl (by rw[<-eO];exact .inl (.inr (.inl e)))),(by show G.rb≠T.k;omega),(by show G.rb≠T.x;omega)⟩⟩,?_,λb hb=>⟨by rw[<-eD];exact .inl (oP b hb),λe=>?_,λe=>?_⟩,?_,?_,?_,?_⟩
 ·unfold Wd.v;rw[vd.1,uY.1]
  rfl
 ·show 2+G.len+T.len<=146;omega
 ·show Q9.L.length=200;omega
 ·exact Nat.le_refl _
 ·show G.st+G.len<=T.st;omega
 ·show T.st+T.len<=2+G.len+T.len;omega
 ·exact(gq.trans bP).It bu λb e=>by omega
 ·have e:b=G.rb:=e;omega
 ·have e:b=T.rb:=e;omega
 ·show w.heap.size<=G.k;omega
 ·show w.heap.size<=G.x;omega
 ·show w.heap.size<=T.k;omega
 ·show w.heap.size<=T.x;omega
def zbh {w:World}{g:List (List Nat)}(ay:S7 g)(bh:1<=g.length)(i7:g.length<=40){ga:Option Addr}{gc:Nat}(jR:GrM w (.slice ga g.length gc) g)(hG:OU w 1 (Sq .gamma) 294)(hU:OU w 2 (Sq .unary) 294)(fr fo:Int)(jO:JIq fr)(uX:JIq fo):
  Ps prog 8 [.slice ga g.length gc,I fr,I fo] w λv w'=>∃(W:Wd) (XX:Nat->Prop),v= .tuple #[.agg W.v.toArray,.bool true]/\WdM W g XX w'/\Ext w w'/\(∀b,b<w.heap.size->XX b/\b≠W.G.rb/\b≠W.T.rb)/\w.heap.size<=W.G.k/\w.heap.size<=W.G.x:=by
 refine(z1N ay bh i7 jR hG hU fr fo jO uX).mono ?_
 rintro v w' ⟨W,XX,h1,h2,h3,h4,h5,h6,-⟩
 exact⟨W,XX,h1,h2,h3,h4,h5,h6⟩
def zcm {w:World}{g:List (List Nat)}(ay:S7 g)(bh:1<=g.length)(i7:g.length<=40){ga:Option Addr}{gc:Nat}(jR:GrM w (.slice ga g.length gc) g)(hG:OU w 1 (Sq .gamma) 294)(hU:OU w 2 (Sq .unary) 294)(fr fo:Int)(jO:JIq fr)(uX:JIq fo):
  Ps prog 8 [.slice ga g.length gc,I fr,I fo] w λv w'=>∃(W:Wd) (XX:Nat->Prop),v= .tuple #[.agg W.v.toArray,.bool true]/\WdM W g XX w'/\Ext w w'/\∀b,b<w.heap.size->XX b/\b≠W.G.rb/\b≠W.T.rb:=by
 refine(zbh ay bh i7 jR hG hU fr fo jO uX).mono ?_
 rintro v w' ⟨W,XX,h1,h2,h3,h4,-⟩
 exact⟨W,XX,h1,h2,h3,h4⟩
structure RuK (σ:Type) where
 M:Rg->(Int->OO)->Nat->Nat->(Nat->Prop)->Nat->Nat->σ->World->Prop
 tm:σ->Nat
 c0:Nat
 c1:Nat
 kp:∀{Q:Rg} {txt:Int->OO} {k rr:Nat} {O_:Nat->Prop} {a L:Nat} {s:σ} {w w':World} {S:Nat->Prop},M Q txt k rr O_ a L s w->Kp S w w'->(∀b,O_ b->¬S b)->M Q txt k rr O_ a L s w'
 TY:∀{Q:Rg} {txt txt':Int->OO} {k rr:Nat} {O_:Nat->Prop} {a L:Nat} {s:σ} {w:World},M Q txt k rr O_ a L s w->(∀y:Int,(a:Int)<=y->y<(a:Int)+(L:Int)->txt' y=txt y)->M Q txt' k rr O_ a L s w
 q:∀{Q Q':Rg} {txt:Int->OO} {k rr:Nat} {O_:Nat->Prop} {a L:Nat} {s:σ} {w:World},M Q txt k rr O_ a L s w->Q'.s=Q.s->Q'.L.length=Q.L.length->M Q' txt k rr O_ a L s w
structure RuM {σ:Type}(R:RuK σ)(G:GwP)(Q:Rg)(txt:Int->OO)(K:Nat)(X:Nat->Prop)(rr:Nat)(O_:Nat->Prop)(a L:Nat)(s:σ)(w:World):Prop where
 g:SQ G Q txt K X w
 m:R.M Q txt G.k rr O_ a L s w
 xr:∀b,O_ b->X b
 ro:O_ rr
 ne:∀b,O_ b->b≠G.k/\b≠G.x/\b≠1/\b≠2
 Vk:G.st+G.len<=a
 n:G.g.length<=40
section
variable {σ:Type}{R:RuK σ}{w w':World}{g:List (List Nat)}{G:GwP}{Q:Rg}{txt txt':Int->OO}{K K':Nat}{X Y S' O_:Nat->Prop}{rr a L:Nat}{s s':σ}
theorem RuM.step (h:RuM R G Q txt K X rr O_ a L s w)(hk:Kp S' w w')(hS:∀j,S' j->X j/\j≠G.k/\j≠G.x/\j≠1/\j≠2/\¬O_ j)(hXY:∀j,X j->Y j)(hY:∀j,Y j->X j\/(w.heap.size<=j/\j<w'.heap.size)):RuM R G Q txt K Y rr O_ a L s w':=
 ⟨h.g.step hk (λj e=>⟨(hS j e).1,(hS j e).2.1,(hS j e).2.2.1,(hS j e).2.2.2.1,(hS j e).2.2.2.2.1⟩) hY hXY,R.kp h.m hk (λb hb e=>(hS b e).2.2.2.2.2 hb),λb hb=>hXY b (h.xr b hb),h.ro,h.ne,h.Vk,h.n⟩
theorem RuM.less (h:RuM R G Q txt K Y rr O_ a L s w)(hXY:∀j,X j->Y j)(hx:X G.k/\X G.x/\X 1/\X 2)(hr:∀b,O_ b->X b):RuM R G Q txt K X rr O_ a L s w:=⟨h.g.less hXY hx,h.m,hr,h.ro,h.ne,h.Vk,h.n⟩
theorem RuM.read (h:RuM R G Q txt K X rr O_ a L s w)(hk:Kp (λb=>¬(X b\/b=G.rb)) w w')(hP:Sp Q txt K (λb=>X b\/b=G.rb) w'):RuM R G Q txt K X rr O_ a L s w':=
 ⟨h.g.Zb hk (λb e=> .inl e) hP O O h.g.VB (λ_ _ _=>rfl),R.kp h.m hk (λb hb e=>e (.inl (h.xr b hb))),h.xr,h.ro,h.ne,h.Vk,h.n⟩
theorem RuM.Zb (h:RuM R G Q txt K X rr O_ a L s w)(hK:K'<1000000000000)(hk:Kp S' w w')(hS:∀b,S' b->¬(X b\/b=G.rb)\/O_ b)(hP:Sp Q txt' K' (λb=>X b\/b=G.rb) w')(hy:∀y:Int,y<(a:Int)\/(a:Int)+(L:Int)<=y->txt' y=txt y)(hm:R.M Q txt' G.k rr O_ a L s' w'):RuM R G Q txt' K' X rr O_ a L s' w':=by
 have hd:=h.Vk
 exact⟨h.g.Zb hk (λb e=>(hS b e).imp id λhb=>⟨h.xr b hb,h.ne b hb⟩) hP O O hK (λy h1 h2=>hy y (.inl ω)),hm,h.xr,h.ro,h.ne,h.Vk,h.n⟩
theorem RuM.set (h:RuM R G Q txt K X rr O_ a L s w)(hk:Kp S' w w')(hS:∀b,S' b->O_ b)(hm:R.M Q txt G.k rr O_ a L s' w'):RuM R G Q txt K X rr O_ a L s' w':=
 ⟨h.g.own hk (λj e=>⟨h.xr j (hS j e),h.ne j (hS j e)⟩),hm,h.xr,h.ro,h.ne,h.Vk,h.n⟩
theorem RuM.list (h:RuM R G Q txt K X rr O_ a L s w)(hg:SQ G Q txt K Y w')(hk:Kp (λj=>¬X j) w w')(hXY:∀j,X j->Y j):RuM R G Q txt K Y rr O_ a L s w':=
 ⟨hg,R.kp h.m hk (λb hb e=>e (h.xr b hb)),λb hb=>hXY b (h.xr b hb),h.ro,h.ne,h.Vk,h.n⟩
end
def Sp.iff {Q:Rg}{txt:Int->OO}{K:Nat}{X Y:Nat->Prop}{w:World}(h:Sp Q txt K X w)(e:∀b,X b↔Y b):Sp Q txt K Y w:=by
 have e2:X=Y:=funext λb=>propext (e b)
 exact e2▸h
section
variable {G:GwP}{w w':World}{Q Q':Rg}{txt txt':Int->OO}{K K':Nat}{X Y S':Nat->Prop}
def SQ.at_ (h:SQ G Q txt K X w)(hk:Kp S' w w')(hS:¬S' G.k/\¬S' G.x/\¬S' 1/\¬S' 2/\¬S' G.rb)(hY:Y G.k/\Y G.x/\Y 1/\Y 2)(hlt:∀j,Y j->j<w'.heap.size)(hr:¬Y G.rb)(hP:Sp Q' txt' K' (λb=>Y b\/b=G.rb) w')(hs:Q'.s=Q.s)(hl:Q'.L.length=Q.L.length)(hK:K'<1000000000000)(ht:∀y:Int,(G.st:Int)<=y->y<(G.st:Int)+(G.len:Int)->txt' y=txt y):SQ G Q' txt' K' Y w':=by
 have hrB:=h.rbB
 obtain⟨o,h⟩:=h
 have hlen:=o.len
 have hI:(z6l (⟨hK,by rw[hl];exact o.fit,o.laid.TY λk hk=>ht _ ω ω,o.len⟩:StO Q' txt' K' G.st G.len (Xt G.p G.g G.E)) G.rb G.sum).inv Y w':=⟨hP,by rw[hs];exact hk.OH hrB hS.2.2.2.2,hr⟩
 exact⟨_,⟨h.ok,hk.OH h.OH hS.1,hk.OH h.ix hS.2.1,hY.1,hY.2.1,hI,hlt,hY.2.2.1,hY.2.2.2,hk.OH h.gam hS.2.2.1,hk.OH h.una hS.2.2.2.1⟩⟩
end
structure Qt {σ:Type}(R:RuK σ)(G T:GwP)(Q:Rg)(txt:Int->OO)(K:Nat)(X:Nat->Prop)(rr:Nat)(O_:Nat->Prop)(a L:Nat)(s:σ)(w:World):Prop where
 m:RuM R G Q txt K (λb=>X b\/b=T.rb) rr O_ a L s w
 t:SQ T Q txt K (λb=>X b\/b=G.rb) w
 xr:∀b,O_ b->X b
 xk:X G.k/\X G.x/\X T.k/\X T.x/\X 1/\X 2
 nk:∀b,O_ b->b≠T.k/\b≠T.x
 Vk:T.st+T.len<=a
section
variable {σ:Type}{R:RuK σ}{G T:GwP}{w w':World}{Q:Rg}{txt txt':Int->OO}{K K':Nat}{X Y S' O_:Nat->Prop}{rr a L:Nat}{s s':σ}
def Qt.ng (h:Qt R G T Q txt K X rr O_ a L s w):¬X G.rb/\G.rb≠T.rb/\¬X T.rb:=by
 have h1:=h.m.g.rbX
 have h2:=h.t.rbX
 exact⟨λe=>h1 (.inl e),λe=>h1 (.inr e),λe=>h2 (.inl e)⟩
def Qt.sp (h:Qt R G T Q txt K X rr O_ a L s w):Sp Q txt K (λb=>(X b\/b=T.rb)\/b=G.rb) w:=h.m.g.sp
def Qt.lt (h:Qt R G T Q txt K X rr O_ a L s w):∀b,((X b\/b=T.rb)\/b=G.rb)->b<w.heap.size:=h.m.g.lt1
def Qt.byG (h:Qt R G T Q txt K X rr O_ a L s w)(hm:RuM R G Q txt' K' (λb=>Y b\/b=T.rb) rr O_ a L s' w')(hk:Kp S' w w')(hS:∀b,S' b->(¬X b/\b≠T.rb)\/O_ b)(hXY:∀j,X j->Y j)(hY:∀j,Y j->X j\/w.heap.size<=j)(hy:∀y:Int,y<(a:Int)\/(a:Int)+(L:Int)<=y->txt' y=txt y):Qt R G T Q txt' K' Y rr O_ a L s' w':=by
 obtain⟨n1,n2,n3⟩:=h.ng
 have hd:=h.Vk
 have hlt:=h.lt
 have hml:=hm.g.lt1
 have hx:=h.xk
 have hne:=h.m.ne
 have hrt:=hlt T.rb (.inl (.inr O))
 have hrg:=hlt G.rb (.inr O)
 have hnS:∀b,X b->¬O_ b->¬S' b:=λb hb ho e=>(hS b e).elim (λe=>e.1 hb) ho
 refine⟨hm,h.t.at_ hk ⟨hnS _ hx.2.2.1 λe=>(h.nk _ e).1 O,hnS _ hx.2.2.2.1 λe=>(h.nk _ e).2 O,hnS _ hx.2.2.2.2.1 λe=>(hne _ e).2.2.1 O,hnS _ hx.2.2.2.2.2 λe=>(hne _ e).2.2.2 O,λe=>(hS _ e).elim (λe=>e.2 O) (λe=>n3 (h.xr _ e))⟩ ⟨.inl (hXY _ hx.2.2.1),.inl (hXY _ hx.2.2.2.1),.inl (hXY _ hx.2.2.2.2.1),.inl (hXY _ hx.2.2.2.2.2)⟩ (λj e=>hml j (e.imp .inl id)) ?_ (hm.g.sp.iff λb=>?_) O O hm.g.VB (λy e1 e2=>hy y (.inl ω)),λb hb=>hXY b (h.xr b hb),⟨hXY _ hx.1,hXY _ hx.2.1,hXY _ hx.2.2.1,hXY _ hx.2.2.2.1,hXY _ hx.2.2.2.2.1,hXY _ hx.2.2.2.2.2⟩,h.nk,hd⟩
 ·rintro(e|e)
  ·rcases hY _ e with e| e
   ·exact n3 e
   ·omega
  ·exact n2 e.symm
 ·constructor
  ·rintro((e|e)|e)
   ·exact .inl (.inl e)
   ·exact .inr e
   ·exact .inl (.inr e)
  ·rintro((e|e)|e)
   ·exact .inl (.inl e)
   ·exact .inr e
   ·exact .inl (.inr e)
theorem Qt.step (h:Qt R G T Q txt K X rr O_ a L s w)(hk:Kp S' w w')(hS:∀j,S' j->X j/\j≠G.k/\j≠G.x/\j≠T.k/\j≠T.x/\j≠1/\j≠2/\¬O_ j)(hXY:∀j,X j->Y j)(hY:∀j,Y j->X j\/(w.heap.size<=j/\j<w'.heap.size)):Qt R G T Q txt K Y rr O_ a L s w':=by
 have hx:=h.xk
 exact⟨h.m.step hk (λj e=>by obtain⟨e1,e2,e3,e4,e5,e6,e7,e8⟩:=hS j e;exact⟨.inl e1,e2,e3,e6,e7,e8⟩) (λj e=>e.imp (hXY j) id) (λj e=>e.elim (λe=>(hY j e).imp .inl id) (λe=> .inl (.inr e))),
  h.t.step hk (λj e=>by obtain⟨e1,e2,e3,e4,e5,e6,e7,e8⟩:=hS j e;exact⟨.inl e1,e4,e5,e6,e7⟩) (λj e=>e.elim (λe=>(hY j e).imp .inl id) (λe=> .inl (.inr e))) (λj e=>e.imp (hXY j) id),
  λb hb=>hXY b (h.xr b hb),⟨hXY _ hx.1,hXY _ hx.2.1,hXY _ hx.2.2.1,hXY _ hx.2.2.2.1,hXY _ hx.2.2.2.2.1,hXY _ hx.2.2.2.2.2⟩,h.nk,h.Vk⟩
def Qt.ext (h:Qt R G T Q txt K X rr O_ a L s w)(hx:Ext w w'):Qt R G T Q txt K X rr O_ a L s w':=
 h.step hx (λ_ e=>e.elim) (λ_ e=>e) (λ_ e=> .inl e)
def Qt.grow (h:Qt R G T Q txt K X rr O_ a L s w)(hx:Ext w w')(hY:∀j,Y j->X j\/(w.heap.size<=j/\j<w'.heap.size))(hXY:∀j,X j->Y j):Qt R G T Q txt K Y rr O_ a L s w':=
 h.step hx (λ_ e=>e.elim) hXY hY
def Qt.own (h:Qt R G T Q txt K X rr O_ a L s w)(hk:Kp S' w w')(hS:∀j,S' j->X j/\j≠G.k/\j≠G.x/\j≠T.k/\j≠T.x/\j≠1/\j≠2/\¬O_ j):Qt R G T Q txt K X rr O_ a L s w':=
 h.step hk hS (λ_ e=>e) (λ_ e=> .inl e)
theorem Qt.read (h:Qt R G T Q txt K X rr O_ a L s w)(hk:Kp (λb=>¬((X b\/b=T.rb)\/b=G.rb)) w w')(hP:Sp Q txt K (λb=>(X b\/b=T.rb)\/b=G.rb) w'):Qt R G T Q txt K X rr O_ a L s w':=
 h.byG (h.m.read hk hP) hk (λb e=> .inl ⟨λe2=>e (.inl (.inl e2)),λe2=>e (.inl (.inr e2))⟩) (λ_ e=>e) (λ_ e=> .inl e) (λ_ _=>rfl)
theorem Qt.Zb (h:Qt R G T Q txt K X rr O_ a L s w)(hK:K'<1000000000000)(hk:Kp S' w w')(hS:∀b,S' b->¬((X b\/b=T.rb)\/b=G.rb)\/O_ b)(hP:Sp Q txt' K' (λb=>(X b\/b=T.rb)\/b=G.rb) w')(hy:∀y:Int,y<(a:Int)\/(a:Int)+(L:Int)<=y->txt' y=txt y)(hm:R.M Q txt' G.k rr O_ a L s' w'):Qt R G T Q txt' K' X rr O_ a L s' w':=
 h.byG (h.m.Zb hK hk hS hP hy hm) hk (λb e=>(hS b e).imp (λe=>⟨λe2=>e (.inl (.inl e2)),λe2=>e (.inl (.inr e2))⟩) id) (λ_ e=>e) (λ_ e=> .inl e) hy
theorem Qt.set (h:Qt R G T Q txt K X rr O_ a L s w)(hk:Kp S' w w')(hS:∀b,S' b->O_ b)(hm:R.M Q txt G.k rr O_ a L s' w'):Qt R G T Q txt K X rr O_ a L s' w':=
 h.byG (h.m.set hk hS hm) hk (λb e=> .inr (hS b e)) (λ_ e=>e) (λ_ e=> .inl e) (λ_ _=>rfl)
def Qt.less (h:Qt R G T Q txt K Y rr O_ a L s w)(hXY:∀j,X j->Y j)(hx:X G.k/\X G.x/\X T.k/\X T.x/\X 1/\X 2)(hr:∀b,O_ b->X b):Qt R G T Q txt K X rr O_ a L s w:=
 ⟨h.m.less (λj e=>e.imp (hXY j) id) ⟨.inl hx.1,.inl hx.2.1,.inl hx.2.2.2.2.1,.inl hx.2.2.2.2.2⟩ (λb hb=> .inl (hr b hb)),h.t.less (λj e=>e.imp (hXY j) id) ⟨.inl hx.2.2.1,.inl hx.2.2.2.1,.inl hx.2.2.2.2.1,.inl hx.2.2.2.2.2⟩,hr,hx,h.nk,h.Vk⟩
end
inductive Wa (g:List (List Nat)) (a:Nat):Nat->Prop
 |refl:Wa g a a
 |step {x b:Nat}:Wa g a x->b∈P5 g x->Wa g a b
section
variable {g:List (List Nat)}{a b c v w:Nat}
theorem Wa.trans (h1:Wa g a b)(h2:Wa g b c):Wa g a c:=by
 induction h2 with
 |refl=>exact h1
 |step _ hx ih=>exact .step ih hx
def Wa.one (h:b∈P5 g a):Wa g a b:= .step .refl h
def Wa.head (h:Wa g a b)(hab:b≠a):∃u,u∈P5 g a/\u≠a/\Wa g u b:=by
 induction h with
 |refl=>exact absurd O hab
 | step hx hb ih =>
   rename_i x y
   by_cases e:x=a
   ·subst e;exact⟨y,hb,hab,.refl⟩
   ·obtain⟨u,h1,h2,h3⟩:=ih e;exact⟨u,h1,h2,.step h3 hb⟩
theorem Wa.last (h:Wa g a b)(hab:b≠a):∃u,b∈P5 g u/\u≠b/\Wa g a u:=by
 induction h with
 |refl=>exact absurd O hab
 | step hx hb ih =>
   rename_i x y
   by_cases e:x=y
   ·subst e;exact ih hab
   ·exact⟨x,hb,e,hx⟩
def Mut (g:List (List Nat))(a b:Nat):Prop:=Wa g a b/\Wa g b a
def Mut.refl:Mut g a a:=⟨.refl,.refl⟩
theorem Mut.symm (h:Mut g a b):Mut g b a:=⟨h.2,h.1⟩
def Cl (g:List (List Nat))(U:Nat->Prop):Prop:=∀u v,U u->Mut g u v->U v
def Wk (g:List (List Nat))(v l:Nat):Prop:=Mut g v l/\∀w,Mut g v w->l<=w
def zaP {U:Nat->Prop}(hU:Cl g U)(hv:U v)(h:∀u,u∈P5 g v->U u->u=v)(hm:Mut g v w):w=v:=by
 by_cases e:w=v
 ·exact e
 ·obtain⟨u,h1,h2,h3⟩:=hm.1.head e;exact absurd (h u h1 (hU v u hv ⟨.one h1,h3.trans hm.2⟩)) h2
def zdp {U:Nat->Prop}(hU:Cl g U)(hv:U v)(h:∀u,v∈P5 g u->U u->u=v)(hm:Mut g v w):w=v:=by
 by_cases e:w=v
 ·exact e
 ·obtain⟨u,h1,h2,h3⟩:=hm.2.last (λe2=>e e2.symm);exact absurd (h u h1 (hU v u hv ⟨hm.1.trans h3,.one h1⟩)) h2
def Wk.alone (h:∀w,Mut g v w->w=v):Wk g v v:=⟨.refl,λw hw=>by rw[h w hw];exact Nat.le_refl _⟩
theorem Cl.drop {U:Nat->Prop}(hU:Cl g U){M:Nat->Prop}(hM:∀u v,M u->Mut g u v->M v):Cl g λu=>U u/\¬M u:=
 λu v hu hm=>⟨hU u v hu.1 hm,λe=>hu.2 (hM v u e hm.symm)⟩
/-! ### Colours -/
structure z0e (g:List (List Nat))(U:Nat->Prop)(c:Nat->Nat):Prop where
 from_:∀u,U u->Wa g (c u) u
 le:∀u,U u->c u<=u
 rest:∀v u,U v->U u->u∈P5 g v->c u<=c v
def z0e.mono {U:Nat->Prop}{c:Nat->Nat}(h:z0e g U c)(hU:Cl g U)(ha:U a)(hm:Mut g a b):c b<=c a:=by
 obtain⟨h1,h2⟩:=hm
 have key:∀{x},Wa g a x->Wa g x a->c x<=c a:=fun {x} hx=>by
  induction hx with
  |refl=>exact λ_=>Nat.le_refl _
  | step hy hz ih =>
    rename_i y z
    intro hza;have hya:Wa g y a:=(Wa.one hz).trans hza;have:=ih hya;have:=h.rest y z (hU a y ha ⟨hy,hya⟩) (hU a z ha ⟨.step hy hz,hza⟩) hz;omega
 exact key h1 h2
theorem z0e.same {U:Nat->Prop}{c:Nat->Nat}(h:z0e g U c)(hU:Cl g U)(ha:U a)(hm:Mut g a b):c b=c a:=
 Nat.le_antisymm (h.mono hU ha hm) (h.mono hU (hU a b ha hm) hm.symm)
theorem z0e.least {U:Nat->Prop}{c:Nat->Nat}(h:z0e g U c)(hU:Cl g U)(hv:U v)(hr:Wa g v (c v)):Wk g v (c v):=by
 refine⟨⟨hr,h.from_ v hv⟩,λw hw=>?_⟩
 rw[<-h.same hU hv hw]
 exact h.le w (hU v w hv hw)
structure zcK (g:List (List Nat))(U:Nat->Prop)(c:Nat->Nat)(M:Nat->Prop):Prop where
 to_:∀v,U v->M v->Wa g v (c v)
 rest:∀v u,U v->U u->u∈P5 g v->M u->c u=c v->M v
theorem zcK.whole {U M:Nat->Prop}{c:Nat->Nat}(h:zcK g U c M)(hc:z0e g U c)(hU:Cl g U)(hv:U v)(hM:M v)(hm:Mut g v w):M w:=by
 have key:∀{x},Wa g w x->Wa g x w->M x->M w:=fun {x} hx=>by
  induction hx with
  |refl=>exact λ_ h=>h
  | step hy hz ih =>
    rename_i y z
    intro hzw hMz;have hyw:Wa g y w:=(Wa.one hz).trans hzw;have hUw:=hU v w hv hm;have hUy:=hU w y hUw ⟨hy,hyw⟩;have hUz:=hU w z hUw ⟨.step hy hz,hzw⟩;have e1:=hc.same hU hUw (b:=y) ⟨hy,hyw⟩;have e2:=hc.same hU hUw (b:=z) ⟨.step hy hz,hzw⟩;exact ih hyw (h.rest y z hUy hUz hz hMz ω)
 exact key hm.2 hm.1 hM
def Wa.lt (h:S7 g)(hr:Wa g a b)(ha:a<g.length):b<g.length:=by
 cases hr with
 |refl=>exact ha
 |step _ hx=>exact Yk h _ _ hx
theorem z4g {g':List (List Nat)}(ht:∀u v,u∈P5 g' v↔v∈P5 g u):Wa g' a b↔Wa g b a:=by
 constructor
 ·intro h
  induction h with
  |refl=>exact .refl
  |step _ hx ih=>exact(Wa.one ((ht _ _).1 hx)).trans ih
 ·intro h
  induction h with
  |refl=>exact .refl
  |step _ hx ih=>exact(Wa.one ((ht _ _).2 hx)).trans ih
theorem z6J {g':List (List Nat)}(ht:∀u v,u∈P5 g' v↔v∈P5 g u){l:Nat}:Wk g' v l↔Wk g v l:=by
 have hm:∀x y,Mut g' x y↔Mut g x y:=λx y=>by
  unfold Mut;rw[z4g ht,z4g ht];exact And.comm
 unfold Wk
 rw[hm]
 constructor
 ·exact λh=>⟨h.1,λw hw=>h.2 w ((hm _ _).2 hw)⟩
 ·exact λh=>⟨h.1,λw hw=>h.2 w ((hm _ _).1 hw)⟩
end
abbrev R5 (l:List Nat)(v:Nat):Prop:=l[v]? =some 4294967295
def Wg (g:List (List Nat))(l:List Nat)(v:Nat):Bool:=(P5 g v).all λu=>decide (u=v) ||!decide (R5 l u)
def trV (g t:List (List Nat))(a:List Nat×Bool)(v:Nat):List Nat×Bool:=if R5 a.1 v/\(Wg g a.1 v=true\/Wg t a.1 v=true) then(a.1.set v v,true) else a
def ZS (g t:List (List Nat))(l:List Nat)(k:Nat):List Nat×Bool:=(List.range k).foldl (trV g t) (l,false)
def Xw (l:List Nat)(v:Nat)(a:List Nat×Bool)(u:Nat):List Nat×Bool:=if R5 l u/\a.1.getD v 0<a.1.getD u 0 then(a.1.set u (a.1.getD v 0),true) else a
def coV (g:List (List Nat))(l:List Nat)(a:List Nat×Bool)(v:Nat):List Nat×Bool:=if R5 l v then(P5 g v).foldl (Xw l v) a else a
def XT (g:List (List Nat))(l c:List Nat)(k:Nat):List Nat×Bool:=(List.range k).foldl (coV g l) (c,false)
def bkC (l c m:List Nat)(v u:Nat):Prop:=R5 l u/\m.getD u 0=1/\c.getD u 0=c.getD v 0
instance (l c m:List Nat) (v u:Nat):Decidable (bkC l c m v u):=by unfold bkC;infer_instance
def bkV (g:List (List Nat))(l c:List Nat)(a:List Nat×Bool)(v:Nat):List Nat×Bool:=if R5 l v/\a.1.getD v 0=0/\(P5 g v).any (λu=>decide (bkC l c a.1 v u))=true then(a.1.set v 1,true) else a
def bkS (g:List (List Nat))(l c m:List Nat)(k:Nat):List Nat×Bool:=(List.range k).foldl (bkV g l c) (m,false)
def rsC (l c:List Nat)(k:Nat):List Nat:=(List.range k).foldl (λc v=>if R5 l v then c.set v v else c) c
def rsM (l c m:List Nat)(k:Nat):List Nat:=(List.range k).foldl (λm v=>if R5 l v/\c.getD v 0=v then m.set v 1 else m) m
def rsL (l c m:List Nat)(k:Nat):List Nat:=(List.range k).foldl (λl v=>if R5 l v/\m.getD v 0=1 then l.set v (c.getD v 0) else l) l
structure Sk where
 steps:Nat
 phase:Nat
 done:Bool
 label:List Nat
 OW:List Nat
 mark:List Nat
def Sk.new (n:Nat):Sk:=⟨0,0,false,List.replicate n 4294967295,List.replicate n 0,List.replicate n 0⟩
def Sk.go (g t:List (List Nat))(s:Sk):Sk:=
 let n:=g.length
 if s.phase=0 then
  if(ZS g t s.label n).2 then {s with label:=(ZS g t s.label n).1} else {s with phase:=1,OW:=rsC s.label s.OW n}
 else if s.phase=1 then
  if(XT g s.label s.OW n).2 then {s with OW:=(XT g s.label s.OW n).1} else {s with phase:=2,mark:=rsM s.label s.OW (List.replicate n 0) n}
 else
  if(bkS g s.label s.OW s.mark n).2 then {s with mark:=(bkS g s.label s.OW s.mark n).1} else {s with phase:=0,label:=rsL s.label s.OW s.mark n}
def z1x (l:List Nat)(n:Nat):Bool:=(List.range n).all λv=>!decide (R5 l v)
def Sk.step (g t:List (List Nat))(s:Sk):Sk:={s.go g t with steps:=s.steps+1,done:=z1x (s.go g t).label g.length}
/-! ### Counting -/
def VR {p q:Nat->Bool}:∀{l:List Nat},(∀x∈l,p x=true->q x=true)->l.countP p<=l.countP q
 |[],_=>Nat.le_refl _
 | x :: l, h => by
   have ih:=VR (p:=p) (q:=q) (l:=l) λy hy=>h y (List.mem_cons_of_mem _ hy);have h1:=h x List.mem_cons_self;rw[List.countP_cons,List.countP_cons]
   cases hp:p x with
   |false=>simp;omega
   |true=>rw[h1 hp];simp;omega
def Yj {p q:Nat->Bool}:∀{l:List Nat},(∀x∈l,p x=true->q x=true)->∀{y:Nat},y∈l->p y=false->q y=true->l.countP p<l.countP q
 | x :: l, h, y, hy, h1, h2 => by
   have h3:=h x List.mem_cons_self;rw[List.countP_cons,List.countP_cons];rcases List.mem_cons.1 hy with e| e
   ·subst e;have ih:=VR (p:=p) (q:=q) (l:=l) λz hz=>h z (List.mem_cons_of_mem _ hz);rw[h1,h2];simp;omega
   ·have ih:=Yj (p:=p) (q:=q) (l:=l) (λz hz=>h z (List.mem_cons_of_mem _ hz)) e h1 h2
    cases hp:p x with
    |false=>simp;omega
    |true=>rw[h3 hp];simp;omega
open Classical in
noncomputable def z1b (n:Nat)(P:Nat->Prop):Nat:=(List.range n).countP λv=>decide (P v)
open Classical in
def z7o {n:Nat}{P Q:Nat->Prop}(h:∀v,v<n->P v->Q v):z1b n P<=z1b n Q:=
 VR λx hx hp=>decide_eq_true (h x (List.mem_range.1 hx) (of_decide_eq_true hp))
open Classical in
def YZ {n:Nat}{P Q:Nat->Prop}(h:∀v,v<n->P v->Q v){v:Nat}(hv:v<n)(h1:¬P v)(h2:Q v):z1b n P<z1b n Q:=
 Yj (λx hx hp=>decide_eq_true (h x (List.mem_range.1 hx) (of_decide_eq_true hp))) (List.mem_range.2 hv) (decide_eq_false h1) (decide_eq_true h2)
def zeJ {n:Nat}{P:Nat->Prop}:z1b n P<=n:=by
 have:=List.countP_le_length (p:=λv=>@decide (P v) (Classical.propDecidable _)) (l:=List.range n)
 rw[List.length_range] at this
 exact this
def z11 {n:Nat}{P:Nat->Prop}{v:Nat}(hv:v<n)(h:P v):0<z1b n P:=by
 have:=YZ (n:=n) (P:=λ_=>False) (Q:=P) (λ_ _ e=>e.elim) hv (λe=>e) h
 omega
theorem RK {l:List Nat}{v:Nat}(h:R5 l v):v<l.length:=by
 obtain⟨h1,-⟩:=List.getElem?_eq_some_iff.1 h
 exact h1
theorem Tt {l:List Nat}{v x:Nat}(h:l[v]? =some x):l.getD v 0=x:=by rw[List.getD_eq_getElem?_getD,h];rfl
def z9F {l:List Nat}{v:Nat}(h:v<l.length):l[v]? =some (l.getD v 0):=by rw[List.getD_eq_getElem?_getD,List.getElem?_eq_getElem h];rfl
theorem SR {l:List Nat}{v u x:Nat}(h:v<l.length):(l.set v x).getD u 0=if u=v then x else l.getD u 0:=by
 rw[List.getD_eq_getElem?_getD,List.getD_eq_getElem?_getD]
 split
 ·rename_i e
  subst e;rw[List.getElem?_set_self h];rfl
 ·rename_i e
  rw[List.getElem?_set_ne (Ne.symm e)]
/-! ### Trim -/
structure z1z (g:List (List Nat))(l:List Nat):Prop where
 n:l.length=g.length
 Zg:∀(v x:Nat),l[v]? =some x->x≠4294967295->Wk g v x
 cl:Cl g (R5 l)
def z0D {l:List Nat}{v x u:Nat}(hx:x≠4294967295)(hv:v<l.length):R5 (l.set v x) u↔R5 l u/\u≠v:=by
 show(l.set v x)[u]? =some 4294967295↔l[u]? =some 4294967295/\u≠v
 by_cases e:v=u
 ·subst e;rw[List.getElem?_set_self hv];exact⟨λh=>absurd (Option.some.inj h) hx,λh=>absurd O h.2⟩
 ·rw[List.getElem?_set_ne e];exact⟨λh=>⟨h,Ne.symm e⟩,λh=>h.1⟩
def YF {g:List (List Nat)}{l:List Nat}{v:Nat}:Wg g l v=true↔∀u,u∈P5 g v->R5 l u->u=v:=by
 unfold Wg
 rw[List.all_eq_true]
 constructor
 ·intro h u hu hl;have:=h u hu;rw[Bool.or_eq_true] at this;rcases this with e| e
  ·exact of_decide_eq_true e
  ·rw[decide_eq_true hl] at e;cases e
 ·intro h u hu;by_cases hl:R5 l u
  ·rw[decide_eq_true (h u hu hl)];rfl
  ·rw[decide_eq_false hl];simp
section
variable {g t:List (List Nat)}{l l0 c c0 m m0:List Nat}{a:List Nat×Bool}{v k:Nat}
structure TrI (g:List (List Nat))(l0:List Nat)(a:List Nat×Bool):Prop where
 i:z1z g a.1
 sub:∀u,R5 a.1 u->R5 l0 u
 eq:a.2=false->a.1=l0
 lt:a.2=true->∃u,R5 l0 u/\¬R5 a.1 u
def TrI.zfg (h:TrI g l0 a)(ht:∀u v,u∈P5 t v↔v∈P5 g u)(hn:g.length<4294967295):TrI g l0 (trV g t a v):=by
 unfold trV
 split
 ·rename_i hc
  obtain⟨hl,ha⟩:=hc;have hv:=RK hl;have hvn:v≠4294967295:=by have:=h.i.n;omega
  have hal:∀w,Mut g v w->w=v:=λw hw=>by
   rcases ha with ha|ha
   ·exact zaP h.i.cl hl (λu hu hu2=>YF.1 ha u hu hu2) hw
   ·exact zdp h.i.cl hl (λu hu hu2=>YF.1 ha u ((ht u v).2 hu) hu2) hw
  refine⟨⟨by rw[List.length_set];exact h.i.n,λu x hx hne=>?_,?_⟩,λu hu=>h.sub u ((z0D hvn hv).1 hu).1,λe=>(by cases e),λ_=>⟨v,h.sub v hl,λe=>((z0D hvn hv).1 e).2 rfl⟩⟩
  ·by_cases e:v=u
   ·subst e;have hx:(a.1.set v v)[v]? =some x:=hx;rw[List.getElem?_set_self hv] at hx;obtain rfl:=Option.some.inj hx;exact .alone hal
   ·have hx:(a.1.set v v)[u]? =some x:=hx;rw[List.getElem?_set_ne e] at hx;exact h.i.Zg u x hx hne
  ·have:=Cl.drop h.i.cl (M:=λu=>u=v) (λu w e hm=>by subst e;exact hal w hm);intro u w hu hm;exact(z0D hvn hv).2 (this u w ((z0D hvn hv).1 hu) hm)
 ·exact h
theorem TrI.all (h:z1z g l)(ht:∀u v,u∈P5 t v↔v∈P5 g u)(hn:g.length<4294967295):∀k,TrI g l (ZS g t l k)
 |0=>⟨h,λ_ e=>e,λ_=>rfl,λe=>(by cases e)⟩
 | k + 1 => by
   have:=(TrI.all h ht hn k).zfg (v:=k) ht hn;unfold ZS at this⊢;rw[List.range_succ,List.foldl_append];exact this
/-! ### Colours -/
inductive RU (g:List (List Nat)) (l:List Nat) (a:Nat):Nat->Prop
 |refl:R5 l a->RU g l a a
 |step {x b:Nat}:RU g l a x->b∈P5 g x->R5 l b->RU g l a b
def RU.rch {a b:Nat}(h:RU g l a b):Wa g a b:=by
 induction h with
 |refl=>exact .refl
 |step _ hx _ ih=>exact .step ih hx
def RU.left {a b:Nat}(h:RU g l a b):R5 l a:=by
 induction h with
 |refl h=>exact h
 |step _ _ _ ih=>exact ih
theorem RU.trans {a b x:Nat}(h1:RU g l a b)(h2:RU g l b x):RU g l a x:=by
 induction h2 with
 |refl _=>exact h1
 |step _ hx hl ih=>exact .step ih hx hl
structure XY (g:List (List Nat))(l c:List Nat):Prop where
 n:c.length=g.length
 from_:∀u,R5 l u->RU g l (c.getD u 0) u
 le:∀u,R5 l u->c.getD u 0<=u
structure CoI (g:List (List Nat))(l c0:List Nat)(D:Nat->Nat->Prop)(a:List Nat×Bool):Prop where
 i:XY g l a.1
 mono:∀u,a.1.getD u 0<=c0.getD u 0
 eq:a.2=false->a.1=c0
 lt:a.2=true->∃u,R5 l u/\a.1.getD u 0<c0.getD u 0
 did:∀v u,D v u->a.1.getD u 0<=c0.getD v 0
def CoI.zjm {D:Nat->Nat->Prop}(h:CoI g l c0 D a)(hl:l.length=g.length){u:Nat}(hv:R5 l v)(hu:u∈P5 g v):CoI g l c0 (λv' u'=>D v' u'\/(v'=v/\u'=u/\R5 l u)) (Xw l v a u):=by
 unfold Xw
 split
 ·rename_i hc
  obtain⟨hul,hlt⟩:=hc;have hun:u<a.1.length:=by have:=RK hul;have:=h.i.n;omega
  have hm:=h.mono u;have hmv:=h.mono v;refine⟨⟨by rw[List.length_set];exact h.i.n,λx hx=>?_,λx hx=>?_⟩,λx=>?_,λe=>(by cases e),λ_=>⟨u,hul,?_⟩,λv' u' hD=>?_⟩
  ·show RU g l ((a.1.set u (a.1.getD v 0)).getD x 0) x;rw[SR hun];split
   ·rename_i e
    subst e;exact .step (h.i.from_ v hv) hu hul
   ·exact h.i.from_ x hx
  ·show(a.1.set u (a.1.getD v 0)).getD x 0<=x;rw[SR hun];split
   ·rename_i e
    subst e;have:=h.i.le x hul;omega
   ·exact h.i.le x hx
  ·show(a.1.set u (a.1.getD v 0)).getD x 0<=_;rw[SR hun];split
   ·rename_i e
    subst e;omega
   ·exact h.mono x
  ·show(a.1.set u (a.1.getD v 0)).getD u 0<_;rw[SR hun,if_pos O];omega
  ·show(a.1.set u (a.1.getD v 0)).getD u' 0<=_;rw[SR hun];split
   ·rename_i e
    rcases hD with hD|⟨rfl,-⟩
    ·have:=h.did v' u' hD;subst e;omega
    ·exact hmv
   ·rename_i e
    rcases hD with hD|⟨-,e2,-⟩
    ·exact h.did v' u' hD
    ·exact absurd e2 e
 ·rename_i hc
  refine⟨h.i,h.mono,h.eq,h.lt,λv' u' hD=>?_⟩;rcases hD with hD|⟨rfl,rfl,hul⟩
  ·exact h.did v' u' hD
  ·have h1:¬a.1.getD v' 0<a.1.getD u' 0:=λe=>hc ⟨hul,e⟩;have h2:=h.mono v';omega
def CoI.zdX {D:Nat->Nat->Prop}(hl:l.length=g.length)(hv:R5 l v):∀{us:List Nat} {a:List Nat×Bool},CoI g l c0 D a->(∀u∈us,u∈P5 g v)->CoI g l c0 (λv' u'=>D v' u'\/(v'=v/\u'∈us/\R5 l u')) (us.foldl (Xw l v) a)
 |[],a,h,_=>⟨h.i,h.mono,h.eq,h.lt,λv' u' hD=>hD.elim (h.did v' u') λe=>(by cases e.2.1)⟩
 | u :: us, a, h, hu => by
   have h1:=h.zjm hl hv (hu u List.mem_cons_self);have h2:=CoI.zdX hl hv h1 λx hx=>hu x (List.mem_cons_of_mem _ hx);refine⟨h2.i,h2.mono,h2.eq,h2.lt,λv' u' hD=>h2.did v' u' ?_⟩;rcases hD with hD|⟨e1,e2,e3⟩
   ·exact .inl (.inl hD)
   ·rcases List.mem_cons.1 e2 with e| e
    ·subst e;exact .inl (.inr ⟨e1,rfl,e3⟩)
    ·exact .inr ⟨e1,e,e3⟩
theorem CoI.all (h:XY g l c)(hl:l.length=g.length):∀k,CoI g l c (λv u=>v<k/\R5 l v/\u∈P5 g v/\R5 l u) (XT g l c k)
 |0=>⟨h,λ_=>Nat.le_refl _,λ_=>rfl,λe=>(by cases e),λv u hD=>absurd hD.1 (Nat.not_lt_zero _)⟩
 | k + 1 => by
   have h1:=CoI.all h hl k;have e:XT g l c (k+1)=coV g l (XT g l c k) k:=by unfold XT;rw[List.range_succ,List.foldl_append];rfl
   rw[e];unfold coV;split
   ·rename_i hv
    have h2:=h1.zdX hl hv (us:=P5 g k) λu hu=>hu;refine⟨h2.i,h2.mono,h2.eq,h2.lt,λv u ⟨d1,d2,d3,d4⟩=>h2.did v u ?_⟩;by_cases e:v=k
    ·subst e;exact .inr ⟨rfl,d3,d4⟩
    ·exact .inl ⟨ω,d2,d3,d4⟩
   ·rename_i hv
    refine⟨h1.i,h1.mono,h1.eq,h1.lt,λv u ⟨d1,d2,d3,d4⟩=>h1.did v u ⟨?_,d2,d3,d4⟩⟩;by_cases e:v=k
    ·subst e;exact absurd d2 hv
    ·omega
def z5T (g:List (List Nat))(l c:List Nat)(u:Nat):Prop:=R5 l u/\∀x,RU g l x u->c.getD u 0<=x
def RU.zgj {P:Nat->Prop}{a b:Nat}(h:RU g l a b)(ha:P a)(hb:¬P b):∃y z,RU g l a y/\P y/\z∈P5 g y/\R5 l z/\¬P z/\RU g l z b:=by
 induction h with
 |refl _=>exact absurd ha hb
 | step hx hz hl ih =>
   rename_i x z
   by_cases e:P x
   ·exact⟨x,z,hx,e,hz,hl,hb,.refl hl⟩
   ·obtain⟨y,z',h1,h2,h3,h4,h5,h6⟩:=ih e;exact⟨y,z',h1,h2,h3,h4,h5,.step h6 hz hl⟩
def z3W {b:Nat}:∀(x:Nat),RU g l x b->∃y,y<=x/\RU g l y b/\∀z,RU g l z b->y<=z:=by
 intro x
 induction x using Nat.strongRecOn with
 | ind x ih =>
   intro h;by_cases e:∃z,RU g l z b/\z<x
   ·obtain⟨z,hz,hlt⟩:=e;obtain⟨y,h1,h2,h3⟩:=ih z hlt hz;exact⟨y,ω,h2,h3⟩
   ·exact⟨x,Nat.le_refl _,h,λz hz=>by
     rcases Nat.lt_or_ge z x with h1|h1
     ·exact absurd ⟨z,hz,h1⟩ e
     ·exact h1⟩
def z3w (hc:XY g l c)(hl:l.length=g.length){b:List Nat×Bool}(h:CoI g l c (λv u=>v<g.length/\R5 l v/\u∈P5 g v/\R5 l u) b)(hb:b.2=true):z1b g.length (z5T g l c)<z1b g.length (z5T g l b.1):=by
 obtain⟨u,hu,hlt⟩:=h.lt hb
 obtain⟨x,h1,h2,h3⟩:=z3W _ (h.i.from_ u hu)
 have hxl:=h2.left
 have hxF:z5T g l c x:=⟨hxl,λz hz=>Nat.le_trans (hc.le x hxl) (h3 z (hz.trans h2))⟩
 have huF:¬z5T g l c u:=λe=>by
  have:=e.2 x h2;omega
 obtain⟨y,z,p1,p2,p3,p4,p5,p6⟩:=h2.zgj (P:=z5T g l c) hxF huF
 have hyl:=p2.1
 have hyn:y<g.length:=by have:=RK hyl;omega
 have hzn:z<g.length:=by have:=RK p4;omega
 refine YZ (λw _ hw=>⟨hw.1,λq hq=>Nat.le_trans (h.mono w) (hw.2 q hq)⟩) hzn p5 ⟨p4,λq hq=>?_⟩
 have d1:=h.did y z ⟨hyn,hyl,p3,p4⟩
 have d2:=p2.2 x p1
 have d3:=h3 q (hq.trans p6)
 omega
theorem XY.rest (hc:XY g l c)(h:CoI g l c (λv u=>v<g.length/\R5 l v/\u∈P5 g v/\R5 l u) (c,false))(hl:l.length=g.length):z0e g (R5 l) (λu=>c.getD u 0):=
 ⟨λu hu=>(hc.from_ u hu).rch,hc.le,λv u hv hu hs=>h.did v u ⟨by have:=RK hv;omega,hv,hs,hu⟩⟩
def WV {P:List Nat->Nat->Prop}[∀l v,Decidable (P l v)]{f:Nat->Nat}{l0:List Nat}(hP:∀l v,l.length=l0.length->l[v]? =l0[v]?->(P l v↔P l0 v)):∀k,k<=l0.length->∀u,((List.range k).foldl (λl v=>if P l v then l.set v (f v) else l) l0).length=l0.length/\((List.range k).foldl (λl v=>if P l v then l.set v (f v) else l) l0)[u]? =if u<k/\P l0 u then some (f u) else l0[u]?
 |0,_,u=>⟨rfl,by rw[if_neg (λe=>absurd e.1 (Nat.not_lt_zero _))];rfl⟩
 | k + 1, hk, u => by
   have ih:=WV (f:=f) hP k ω;rw[List.range_succ,List.foldl_append]
   generalize (List.range k).foldl (λl v=>if P l v then l.set v (f v) else l) l0=q at ih
   have hq:=(ih u).1;have hqk:=(ih k).2;rw[if_neg (λe=>absurd e.1 (Nat.lt_irrefl _))] at hqk;have hPk:=hP q k hq hqk;show(if P q k then q.set k (f k) else q).length=_/\(if P q k then q.set k (f k) else q)[u]? =_;by_cases e:P l0 k
   ·rw[if_pos (hPk.2 e)];refine⟨by rw[List.length_set];exact hq,?_⟩;by_cases e2:k=u
    ·subst e2;rw[List.getElem?_set_self ω,if_pos ⟨Nat.lt_succ_self _,e⟩]
    ·rw[List.getElem?_set_ne e2,(ih u).2];by_cases e3:u<k/\P l0 u
     ·rw[if_pos e3,if_pos ⟨ω,e3.2⟩]
     ·rw[if_neg e3,if_neg (λe4=>e3 ⟨ω,e4.2⟩)]
   ·rw[if_neg (λe2=>e (hPk.1 e2))];refine⟨hq,?_⟩;rw[(ih u).2];by_cases e3:u<k/\P l0 u
    ·rw[if_pos e3,if_pos ⟨ω,e3.2⟩]
    ·rw[if_neg e3,if_neg (λe4=>?_)];by_cases e5:u=k
     ·subst e5;exact e e4.2
     ·exact e3 ⟨ω,e4.2⟩
theorem z7T (hl:l.length=g.length)(hc:c.length=g.length)(u:Nat):(rsC l c g.length).length=g.length/\(rsC l c g.length)[u]? =if R5 l u then some u else c[u]? :=by
 have h:=WV (P:=λ_ v=>R5 l v) (f:=λv=>v) (l0:=c) (λ_ _ _ _=>Iff.rfl) g.length ω u
 refine⟨by unfold rsC;rw[h.1];exact hc,?_⟩
 unfold rsC
 rw[h.2]
 by_cases e:R5 l u
 ·rw[if_pos ⟨by have:=RK e;omega,e⟩,if_pos e]
 ·rw[if_neg (λe2=>e e2.2),if_neg e]
def zd5 (hl:l.length=g.length)(hc:c.length=g.length):XY g l (rsC l c g.length):=by
 have hg:∀u,R5 l u->(rsC l c g.length).getD u 0=u:=λu hu=>Tt (by rw[(z7T hl hc u).2,if_pos hu])
 exact⟨(z7T hl hc 0).1,λu hu=>by rw[hg u hu];exact .refl hu,λu hu=>by rw[hg u hu];exact Nat.le_refl _⟩
/-! ### Marks -/
structure z7c (g:List (List Nat))(l c m:List Nat):Prop where
 n:m.length=g.length
 bit:∀(v x:Nat),m[v]? =some x->x=0\/x=1
 to_:∀v,R5 l v->m.getD v 0=1->Wa g v (c.getD v 0)
 some_:∃v,R5 l v/\m.getD v 0=1
abbrev mrk (l m:List Nat)(v:Nat):Prop:=R5 l v/\m.getD v 0=1
structure BkI (g:List (List Nat))(l c m0:List Nat)(k:Nat)(a:List Nat×Bool):Prop where
 i:z7c g l c a.1
 mono:∀v,m0.getD v 0=1->a.1.getD v 0=1
 eq:a.2=false->a.1=m0
 lt:a.2=true->∃v,R5 l v/\a.1.getD v 0=1/\m0.getD v 0≠1
 did:a.2=false->∀v,v<k->R5 l v->m0.getD v 0=0->∀u,u∈P5 g v->¬bkC l c m0 v u
theorem BkI.zfg (h:BkI g l c m0 k a)(hl:l.length=g.length):BkI g l c m0 (k+1) (bkV g l c a k):=by
 unfold bkV
 split
 ·rename_i hc
  obtain⟨hkl,hk0,hany⟩:=hc;obtain⟨u,hu,hb⟩:=List.any_eq_true.1 hany;obtain⟨b1,b2,b3⟩:=of_decide_eq_true hb;have hkn:k<a.1.length:=by have:=RK hkl;have:=h.i.n;omega
  refine⟨⟨by rw[List.length_set];exact h.i.n,λv x hx=>?_,λv hv hm=>?_,?_⟩,λv hv=>?_,λe=>(by cases e),λ_=>⟨k,hkl,?_,λe=>?_⟩,λe=>(by cases e)⟩
  ·rcases List.mem_or_eq_of_mem_set (List.mem_of_getElem? hx) with e| e
   ·obtain⟨j,hj⟩:=List.getElem?_of_mem e;exact h.i.bit j x hj
   ·exact .inr e
  ·have hm:(a.1.set k 1).getD v 0=1:=hm;rw[SR hkn] at hm;split at hm
   ·rename_i e
    subst e;have:=h.i.to_ u b1 b2;rw[b3] at this;exact(Wa.one hu).trans this
   ·exact h.i.to_ v hv hm
  ·exact⟨k,hkl,by show(a.1.set k 1).getD k 0=1;rw[SR hkn,if_pos O]⟩
  ·show(a.1.set k 1).getD v 0=1;rw[SR hkn];split
   ·rfl
   ·exact h.mono v hv
  ·show(a.1.set k 1).getD k 0=1;rw[SR hkn,if_pos O]
  ·have:=h.mono k e;omega
 ·rename_i hc
  refine⟨h.i,h.mono,h.eq,h.lt,λe v hv hvl hv0 u hu hb=>?_⟩;by_cases e2:v=k
  ·subst e2;rw[h.eq e] at hc;exact hc ⟨hvl,hv0,List.any_eq_true.2 ⟨u,hu,decide_eq_true hb⟩⟩
  ·exact h.did e v ω hvl hv0 u hu hb
theorem BkI.all (h:z7c g l c m)(hl:l.length=g.length):∀k,BkI g l c m k (bkS g l c m k)
 |0=>⟨h,λ_ e=>e,λ_=>rfl,λe=>(by cases e),λ_ v hv=>absurd hv (Nat.not_lt_zero _)⟩
 | k + 1 => by
   have h1:=(BkI.all h hl k).zfg hl;unfold bkS at h1⊢;rw[List.range_succ,List.foldl_append];exact h1
theorem z7C (hl:l.length=g.length)(u:Nat):(rsM l c (List.replicate g.length 0) g.length).length=g.length/\(rsM l c (List.replicate g.length 0) g.length)[u]? =if R5 l u/\c.getD u 0=u then some 1 else(List.replicate g.length 0)[u]? :=by
 have h:=WV (P:=λ_ v=>R5 l v/\c.getD v 0=v) (f:=λ_=>1) (l0:=List.replicate g.length 0) (λ_ _ _ _=>Iff.rfl) g.length (by rw[List.length_replicate];exact Nat.le_refl _) u
 refine⟨by unfold rsM;rw[h.1];exact List.length_replicate,?_⟩
 unfold rsM
 rw[h.2]
 by_cases e:R5 l u/\c.getD u 0=u
 ·rw[if_pos ⟨by have:=RK e.1;omega,e⟩,if_pos e]
 ·rw[if_neg (λe2=>e e2.2),if_neg e]
def zco (hl:l.length=g.length)(hc:XY g l c)(hu:∃v,R5 l v):z7c g l c (rsM l c (List.replicate g.length 0) g.length):=by
 have hg:=λu=>(z7C (g:=g) (c:=c) hl u).2
 refine⟨(z7C hl 0).1,λv x hx=>?_,λv hv hm=>?_,?_⟩
 ·rw[hg] at hx;split at hx
  ·exact .inr (Option.some.inj hx).symm
  ·exact .inl (List.mem_replicate.1 (List.mem_of_getElem? hx)).2
 ·by_cases e:c.getD v 0=v
  ·rw[e];exact .refl
  ·rw[List.getD_eq_getElem?_getD,hg,if_neg (λe2=>e e2.2),List.getElem?_replicate] at hm;split at hm<;>cases hm
 ·obtain⟨v,hv⟩:=hu
  -- the OW of v's last OW
  have key:∀x,R5 l x->∃y,R5 l y/\c.getD y 0=y:=by
   intro x
   induction x using Nat.strongRecOn with
   | ind x ih =>
     intro hx;by_cases e:c.getD x 0=x
     ·exact⟨x,hx,e⟩
     ·have h1:=hc.le x hx;exact ih (c.getD x 0) ω (hc.from_ x hx).left
  obtain⟨y,h1,h2⟩:=key v hv;exact⟨y,h1,Tt (by rw[hg,if_pos ⟨h1,h2⟩])⟩
theorem z7g (hl:l.length=g.length)(u:Nat):(rsL l c m g.length).length=g.length/\(rsL l c m g.length)[u]? =if R5 l u/\m.getD u 0=1 then some (c.getD u 0) else l[u]? :=by
 have h:=WV (P:=λl v=>R5 l v/\m.getD v 0=1) (f:=λv=>c.getD v 0) (l0:=l) (λl' v _ e=>by unfold R5;rw[e]) g.length ω u
 refine⟨by unfold rsL;rw[h.1];exact hl,?_⟩
 unfold rsL
 rw[h.2]
 by_cases e:R5 l u/\m.getD u 0=1
 ·rw[if_pos ⟨by have:=RK e.1;omega,e⟩,if_pos e]
 ·rw[if_neg (λe2=>e e2.2),if_neg e]
theorem zcl (h:z1z g l)(hc:XY g l c)(hr:z0e g (R5 l) (λu=>c.getD u 0))(hM:z7c g l c m)(hm:zcK g (R5 l) (λu=>c.getD u 0) (λu=>m.getD u 0=1))(hn:g.length<4294967295):z1z g (rsL l c m g.length)/\(∀u,R5 (rsL l c m g.length) u↔R5 l u/\¬m.getD u 0=1):=by
 have hg:=λu=>(z7g (g:=g) (c:=c) (m:=m) h.n u).2
 have hlf:∀u,R5 (rsL l c m g.length) u↔R5 l u/\¬m.getD u 0=1:=λu=>by
  show(rsL l c m g.length)[u]? =_↔_;rw[hg];by_cases e:R5 l u/\m.getD u 0=1
  ·rw[if_pos e];have h1:=hc.le u e.1;have h2:=RK e.1;have h3:=h.n;exact⟨λe2=>by have:=Option.some.inj e2;omega,λe2=>absurd e.2 e2.2⟩
  ·rw[if_neg e];exact⟨λe2=>⟨e2,λe3=>e ⟨e2,e3⟩⟩,λe2=>e2.1⟩
 refine⟨⟨(z7g h.n 0).1,λv x hx hne=>?_,λu w hu hmu=>?_⟩,hlf⟩
 ·rw[hg] at hx;split at hx
  ·rename_i e
   obtain rfl:=Option.some.inj hx;exact hr.least h.cl e.1 (hM.to_ v e.1 e.2)
  ·exact h.Zg v x hx hne
 ·rw[hlf] at hu⊢;refine⟨h.cl u w hu.1 hmu,λe=>hu.2 ?_⟩;exact hm.whole hr h.cl (h.cl u w hu.1 hmu) e hmu.symm
end
structure UP (g:List (List Nat))(s:Sk):Prop where
 ph:s.phase<=2
 ln:s.label.length=g.length
 cn:s.OW.length=g.length
 mn:s.mark.length=g.length
 lb:∀x∈s.label,x<4294967296
 cb:∀x∈s.OW,x<4294967296
 mb:∀x∈s.mark,x<256
section
variable {g t:List (List Nat)}{s:Sk}{l c m:List Nat}{b k:Nat}
def Ts {P:Nat->Prop}{l:List Nat}{v y:Nat}(h:∀x∈l,P x)(hy:P y):∀x∈l.set v y,P x:=λx hx=>by
 rcases List.mem_or_eq_of_mem_set hx with e| e
 ·exact h x e
 ·rw[e];exact hy
def z1e {P:Nat->Prop}{l:List Nat}{v:Nat}(h:∀x∈l,P x)(h0:P 0):P (l.getD v 0):=by
 rw[List.getD_eq_getElem?_getD]
 cases e:l[v]? with
 |none=>exact h0
 |some y=>exact h y (List.mem_of_getElem? e)
def z7w (hl:∀x∈l,x<4294967296):∀k,k<=100000->(∀x∈(ZS g t l k).1,x<4294967296)/\(ZS g t l k).1.length=l.length
 |0,_=>⟨hl,rfl⟩
 | k + 1, hk => by
   have ih:=z7w hl k ω;unfold ZS at ih⊢;rw[List.range_succ,List.foldl_append];show(∀x∈(trV g t _ k).1,_)/\(trV g t _ k).1.length=_;unfold trV;split
   ·exact⟨Ts ih.1 ω,by rw[List.length_set];exact ih.2⟩
   ·exact ih
def z0t {v:Nat}:∀{us:List Nat} {a:List Nat×Bool},(∀x∈a.1,x<4294967296)->(∀x∈(us.foldl (Xw l v) a).1,x<4294967296)/\(us.foldl (Xw l v) a).1.length=a.1.length
 |[],a,h=>⟨h,rfl⟩
 | u :: us, a, h => by
   have h1:(∀x∈(Xw l v a u).1,x<4294967296)/\(Xw l v a u).1.length=a.1.length:=by
    unfold Xw;split
    ·exact⟨Ts h (z1e (P:=λx=>x<4294967296) h ψ),List.length_set⟩
    ·exact⟨h,rfl⟩
   have h2:=z0t (v:=v) (us:=us) h1.1;exact⟨h2.1,h2.2.trans h1.2⟩
def z7W (hc:∀x∈c,x<4294967296):∀k,(∀x∈(XT g l c k).1,x<4294967296)/\(XT g l c k).1.length=c.length
 |0=>⟨hc,rfl⟩
 | k + 1 => by
   have ih:=z7W hc k;unfold XT at ih⊢;rw[List.range_succ,List.foldl_append];show(∀x∈(coV g l _ k).1,_)/\(coV g l _ k).1.length=_;unfold coV;split
   ·have h2:=z0t (l:=l) (v:=k) (us:=P5 g k) ih.1;exact⟨h2.1,h2.2.trans ih.2⟩
   ·exact ih
def z7R (hm:∀x∈m,x<256):∀k,(∀x∈(bkS g l c m k).1,x<256)/\(bkS g l c m k).1.length=m.length
 |0=>⟨hm,rfl⟩
 | k + 1 => by
   have ih:=z7R hm k;unfold bkS at ih⊢;rw[List.range_succ,List.foldl_append];show(∀x∈(bkV g l c _ k).1,_)/\(bkV g l c _ k).1.length=_;unfold bkV;split
   ·exact⟨Ts ih.1 ψ,by rw[List.length_set];exact ih.2⟩
   ·exact ih
def z7L (hc:∀x∈c,x<4294967296):∀k,k<=100000->(∀x∈rsC l c k,x<4294967296)/\(rsC l c k).length=c.length
 |0,_=>⟨hc,rfl⟩
 | k + 1, hk => by
   have ih:=z7L hc k ω;unfold rsC at ih⊢;rw[List.range_succ,List.foldl_append];show(∀x∈(if R5 l k then _ else _),_)/\(if R5 l k then _ else _:List Nat).length=_;split
   ·exact⟨Ts ih.1 ω,by rw[List.length_set];exact ih.2⟩
   ·exact ih
def z7Z (hm:∀x∈m,x<256):∀k,(∀x∈rsM l c m k,x<256)/\(rsM l c m k).length=m.length
 |0=>⟨hm,rfl⟩
 | k + 1 => by
   have ih:=z7Z hm k;unfold rsM at ih⊢;rw[List.range_succ,List.foldl_append];show(∀x∈(if R5 l k/\c.getD k 0=k then _ else _),_)/\(if R5 l k/\c.getD k 0=k then _ else _:List Nat).length=_;split
   ·exact⟨Ts ih.1 ψ,by rw[List.length_set];exact ih.2⟩
   ·exact ih
def z7t (hl:∀x∈l,x<4294967296)(hc:∀x∈c,x<4294967296):∀k,(∀x∈rsL l c m k,x<4294967296)/\(rsL l c m k).length=l.length
 |0=>⟨hl,rfl⟩
 | k + 1 => by
   have ih:=z7t hl hc k;unfold rsL at ih⊢;rw[List.range_succ,List.foldl_append];show(∀x∈(if _/\_ then _ else _),_)/\(if _/\_ then _ else _:List Nat).length=_;split
   ·exact⟨Ts ih.1 (z1e (P:=λx=>x<4294967296) hc ψ),by rw[List.length_set];exact ih.2⟩
   ·exact ih
def UP.new (hn:g.length<=60):UP g (Sk.new g.length):=
 ⟨Nat.zero_le _,List.length_replicate,List.length_replicate,List.length_replicate,λx hx=>by rw[(List.mem_replicate.1 hx).2];decide,λx hx=>by rw[(List.mem_replicate.1 hx).2];decide,λx hx=>by rw[(List.mem_replicate.1 hx).2];decide⟩
theorem UP.go (h:UP g s)(hn:g.length<=60):UP g (s.go g t):=by
 have h1:=z7w (g:=g) (t:=t) h.lb g.length ω
 have h2:=z7W (g:=g) (l:=s.label) h.cb g.length
 have h3:=z7R (g:=g) (l:=s.label) (c:=s.OW) h.mb g.length
 have h4:=z7L (l:=s.label) h.cb g.length ω
 have h5:=z7Z (l:=s.label) (c:=s.OW) (m:=List.replicate g.length 0) (λx hx=>by rw[(List.mem_replicate.1 hx).2];decide) g.length
 have h6:=z7t (m:=s.mark) h.lb h.cb g.length
 have l5:(List.replicate g.length 0).length=g.length:=List.length_replicate
 unfold Sk.go
 dsimp only
 split
 ·split
  ·exact⟨h.ph,h1.2.trans h.ln,h.cn,h.mn,h1.1,h.cb,h.mb⟩
  ·exact⟨by show 1<=2;decide,h.ln,h4.2.trans h.cn,h.mn,h.lb,h4.1,h.mb⟩
 ·split
  ·split
   ·exact⟨h.ph,h.ln,h2.2.trans h.cn,h.mn,h.lb,h2.1,h.mb⟩
   ·exact⟨by show 2<=2;decide,h.ln,h.cn,h5.2.trans l5,h.lb,h.cb,h5.1⟩
  ·split
   ·exact⟨h.ph,h.ln,h.cn,h3.2.trans h.mn,h.lb,h.cb,h3.1⟩
   ·exact⟨by show 0<=2;decide,h6.2.trans h.ln,h.cn,h.mn,h6.1,h.cb,h.mb⟩
theorem UP.step (h:UP g s)(hn:g.length<=60):UP g (s.step g t):=
 let h':=UP.go (t:=t) h hn
 ⟨h'.ph,h'.ln,h'.cn,h'.mn,h'.lb,h'.cb,h'.mb⟩
/-! ### The bound -/
noncomputable def kS (g:List (List Nat))(l:List Nat):Nat:=z1b g.length (R5 l)
noncomputable def fS (g:List (List Nat))(l c:List Nat):Nat:=z1b g.length (z5T g l c)
noncomputable def mS (g:List (List Nat))(l m:List Nat):Nat:=z1b g.length (mrk l m)
def rS (k:Nat):Nat:=k*k+3*k
def z30 {a b:Nat}(h:a<=b):rS a<=rS b:=by
 have:=Nat.mul_le_mul h h
 unfold rS;omega
def zcu (k:Nat):rS (k+1)=rS k+2*k+4:=by
 unfold rS
 rw[Nat.mul_add,Nat.add_mul];omega
structure ScJ (g:List (List Nat))(s:Sk)(b:Nat):Prop where
 i:UP g s
 Zg:z1z g s.label
 dn:s.done=false↔∃v,R5 s.label v
 p0:s.phase=0->rS (kS g s.label)<=b
 p1:s.phase=1->XY g s.label s.OW/\kS g s.label-fS g s.label s.OW+1+kS g s.label+rS (kS g s.label-1)<=b
 p2:s.phase=2->XY g s.label s.OW/\z0e g (R5 s.label) (λu=>s.OW.getD u 0)/\z7c g s.label s.OW s.mark/\kS g s.label-mS g s.label s.mark+1+rS (kS g s.label-1)<=b
theorem z1d (hl:l.length=g.length):z1x l g.length=false↔∃v,R5 l v:=by
 constructor
 ·intro h;unfold z1x at h;rw[List.all_eq_false] at h;obtain⟨v,-,hv⟩:=h;refine⟨v,?_⟩;by_cases e:R5 l v
  ·exact e
  ·rw[decide_eq_false e] at hv;exact absurd O hv
 ·rintro⟨v,hv⟩;unfold z1x;rw[List.all_eq_false];exact⟨v,List.mem_range.2 (by have:=RK hv;omega),by rw[decide_eq_true hv];decide⟩
theorem ScJ.new (hg:S7 g)(h1:1<=g.length):ScJ g (Sk.new g.length) (g.length*g.length+3*g.length):=by
 have hl:∀v,R5 (Sk.new g.length).label v↔v<g.length:=λv=>by
  show(List.replicate g.length 4294967295)[v]? =some 4294967295↔_;rw[List.getElem?_replicate];split
  ·rename_i e;exact⟨λ_=>e,λ_=>rfl⟩
  ·rename_i e;exact⟨λh=>(by cases h),λh=>absurd h e⟩
 refine⟨UP.new hg.n,⟨List.length_replicate,λv x hx hne=>?_,λu v hu hm=>?_⟩,⟨λ_=>⟨0,(hl 0).2 h1⟩,λ_=>rfl⟩,λ_=>?_,λe=>(by cases e),λe=>(by cases e)⟩
 ·exact absurd (List.mem_replicate.1 (List.mem_of_getElem? hx)).2 hne
 ·exact(hl v).2 (hm.1.lt hg ((hl u).1 hu))
 ·exact z30 (b:=g.length) zeJ
def ScJ.end_ (h:ScJ g s b)(hd:s.done=true){v:Nat}(hv:v<g.length):∃x,s.label[v]? =some x/\Wk g v x:=by
 have hv':v<s.label.length:=by rw[h.Zg.n];exact hv
 refine⟨_,List.getElem?_eq_getElem hv',h.Zg.Zg v _ (List.getElem?_eq_getElem hv') λe=>?_⟩
 have:=h.dn.2 ⟨v,by show s.label[v]? =_;rw[List.getElem?_eq_getElem hv',e]⟩
 rw[hd] at this;cases this
def zcJ (hl:l.length=g.length)(hc:XY g l c)(hu:∃v,R5 l v):0<fS g l c:=by
 obtain⟨u,hu⟩:=hu
 obtain⟨x,h1,h2,h3⟩:=z3W (g:=g) (l:=l) u (.refl hu)
 have hxl:=h2.left
 exact z11 (by have:=RK hxl;omega) (⟨hxl,λz hz=>Nat.le_trans (hc.le x hxl) (h3 z (hz.trans h2))⟩:z5T g l c x)
theorem ScJ.step (h:ScJ g s b)(hg:S7 g)(ht:∀u v,u∈P5 t v↔v∈P5 g u)(hd:s.done=false):∃b',b'+1<=b/\ScJ g (s.step g t) b':=by
 have hn:=hg.n
 have hI:=h.i.step (t:=t) hn
 have hex:=h.dn.1 hd
 have hln:=h.Zg.n
 have hk1:1<=kS g s.label:=by
  obtain⟨v,hv⟩:=hex;exact z11 (by have:=RK hv;omega) hv
 have hdn:∀s':Sk,s.go g t=s'->s'.label.length=g.length->((s.step g t).done=false↔∃v,R5 (s.step g t).label v):=λs' e hl=>by
  show z1x (s.go g t).label g.length=false↔∃v,R5 (s.go g t).label v;rw[e];exact z1d hl
 have hph:=h.i.ph
 obtain⟨k,hk⟩:∃k,kS g s.label=k+1:=⟨kS g s.label-1,ω⟩
 have hrk:=zcu k
 rcases (by omega:s.phase=0\/s.phase=1\/s.phase=2) with hp|hp|hp
 ·have hb:=h.p0 hp;rw[hk] at hb;have hT:=TrI.all h.Zg ht ω g.length
  cases e:(ZS g t s.label g.length).2 with
  | true =>
    have ego:s.go g t={s with label:=(ZS g t s.label g.length).1}:=by unfold Sk.go;simp only[hp,e,if_true]
    obtain⟨v,v1,v2⟩:=hT.lt e;have hlt:kS g (ZS g t s.label g.length).1<kS g s.label:=YZ (λu _=>hT.sub u) (by have:=RK v1;omega) v2 v1;refine⟨b-1,ω,hI,?_,hdn _ ego hT.i.n,?_,?_,?_⟩
    ·show z1z g (s.go g t).label;rw[ego];exact hT.i
    ·intro _;show rS (kS g (s.go g t).label)<=b-1;rw[ego];have:=z30 (a:=kS g (ZS g t s.label g.length).1) (b:=k) ω;show rS (kS g (ZS g t s.label g.length).1)<=b-1;omega
    ·intro e2;have e2:(s.go g t).phase=1:=e2;rw[ego] at e2;exact absurd (hp.symm.trans e2) ψ
    ·intro e2;have e2:(s.go g t).phase=2:=e2;rw[ego] at e2
     exact absurd (hp.symm.trans e2) ψ
  | false =>
    have ego:s.go g t={s with phase:=1,OW:=rsC s.label s.OW g.length}:=by unfold Sk.go;simp[hp,e]
    have hC:=zd5 (g:=g) hln h.i.cn;have hF:=zcJ hln hC hex;refine⟨b-1,ω,hI,?_,hdn _ ego hln,?_,?_,?_⟩
    ·show z1z g (s.go g t).label;rw[ego];exact h.Zg
    ·intro e2;have e2:(s.go g t).phase=0:=e2;rw[ego] at e2;cases e2
    ·intro _;show XY g (s.go g t).label (s.go g t).OW/\kS g (s.go g t).label-fS g (s.go g t).label (s.go g t).OW+1+kS g (s.go g t).label+rS (kS g (s.go g t).label-1)<=b-1;rw[ego];refine⟨hC,?_⟩;show kS g s.label-fS g s.label (rsC s.label s.OW g.length)+1+kS g s.label+rS (kS g s.label-1)<=b-1;rw[hk,Nat.add_sub_cancel];omega
    ·intro e2;have e2:(s.go g t).phase=2:=e2;rw[ego] at e2;cases e2
 ·obtain⟨hC,hb⟩:=h.p1 hp;rw[hk,Nat.add_sub_cancel] at hb;have hA:=CoI.all hC hln g.length;have hfk:∀c',fS g s.label c'<=kS g s.label:=λc'=>z7o λv _ e=>e.1
  cases e:(XT g s.label s.OW g.length).2 with
  | true =>
    have ego:s.go g t={s with OW:=(XT g s.label s.OW g.length).1}:=by unfold Sk.go;simp[hp,e]
    have hlt:fS g s.label s.OW<fS g s.label (XT g s.label s.OW g.length).1:=z3w hC hln hA e;have hle:=hfk (XT g s.label s.OW g.length).1;refine⟨b-1,ω,hI,?_,hdn _ ego hln,?_,?_,?_⟩
    ·show z1z g (s.go g t).label;rw[ego];exact h.Zg
    ·intro e2;have e2:(s.go g t).phase=0:=e2;rw[ego] at e2;exact absurd (hp.symm.trans e2) ψ
    ·intro _;show XY g (s.go g t).label (s.go g t).OW/\kS g (s.go g t).label-fS g (s.go g t).label (s.go g t).OW+1+kS g (s.go g t).label+rS (kS g (s.go g t).label-1)<=b-1;rw[ego];refine⟨hA.i,?_⟩;show kS g s.label-fS g s.label (XT g s.label s.OW g.length).1+1+kS g s.label+rS (kS g s.label-1)<=b-1;rw[hk] at hle⊢;rw[Nat.add_sub_cancel];omega
    ·intro e2;have e2:(s.go g t).phase=2:=e2;rw[ego] at e2
     exact absurd (hp.symm.trans e2) ψ
  | false =>
    have ego:s.go g t={s with phase:=2,mark:=rsM s.label s.OW (List.replicate g.length 0) g.length}:=by unfold Sk.go;simp[hp,e]
    have hM:=zco (g:=g) hln hC hex
    have hA':CoI g s.label s.OW (λv u=>v<g.length/\R5 s.label v/\u∈P5 g v/\R5 s.label u) (s.OW,false):=by
     have h1:=hA.eq e;have h2:XT g s.label s.OW g.length=(s.OW,false):=Prod.ext h1 e;rw[h2] at hA;exact hA
    have hR:=hC.rest hA' hln
    have hmp:0<mS g s.label (rsM s.label s.OW (List.replicate g.length 0) g.length):=by
     obtain⟨v,v1,v2⟩:=hM.some_;exact z11 (by have:=RK v1;omega) (⟨v1,v2⟩:mrk s.label _ v)
    refine⟨b-1,ω,hI,?_,hdn _ ego hln,?_,?_,?_⟩
    ·show z1z g (s.go g t).label;rw[ego];exact h.Zg
    ·intro e2;have e2:(s.go g t).phase=0:=e2;rw[ego] at e2;cases e2
    ·intro e2;have e2:(s.go g t).phase=1:=e2;rw[ego] at e2;cases e2
    ·intro _;show XY g (s.go g t).label (s.go g t).OW/\z0e g (R5 (s.go g t).label) (λu=>(s.go g t).OW.getD u 0)/\z7c g (s.go g t).label (s.go g t).OW (s.go g t).mark/\kS g (s.go g t).label-mS g (s.go g t).label (s.go g t).mark+1+rS (kS g (s.go g t).label-1)<=b-1;rw[ego];refine⟨hC,hR,hM,?_⟩;show kS g s.label-mS g s.label (rsM s.label s.OW (List.replicate g.length 0) g.length)+1+rS (kS g s.label-1)<=b-1;rw[hk,Nat.add_sub_cancel];omega
 ·obtain⟨hC,hR,hM,hb⟩:=h.p2 hp;rw[hk,Nat.add_sub_cancel] at hb;have hA:=BkI.all hM hln g.length;have hmk:∀m',mS g s.label m'<=kS g s.label:=λm'=>z7o λv _ e=>e.1
  cases e:(bkS g s.label s.OW s.mark g.length).2 with
  | true =>
    have ego:s.go g t={s with mark:=(bkS g s.label s.OW s.mark g.length).1}:=by unfold Sk.go;simp[hp,e]
    obtain⟨v,v1,v2,v3⟩:=hA.lt e;have hlt:mS g s.label s.mark<mS g s.label (bkS g s.label s.OW s.mark g.length).1:=YZ (λu _ hu=>⟨hu.1,hA.mono u hu.2⟩) (by have:=RK v1;omega) (λe=>v3 e.2) (⟨v1,v2⟩:mrk s.label _ v);have hle:=hmk (bkS g s.label s.OW s.mark g.length).1;refine⟨b-1,ω,hI,?_,hdn _ ego hln,?_,?_,?_⟩
    ·show z1z g (s.go g t).label;rw[ego];exact h.Zg
    ·intro e2;have e2:(s.go g t).phase=0:=e2;rw[ego] at e2;exact absurd (hp.symm.trans e2) ψ
    ·intro e2;have e2:(s.go g t).phase=1:=e2;rw[ego] at e2;exact absurd (hp.symm.trans e2) ψ
    ·intro _;show XY g (s.go g t).label (s.go g t).OW/\z0e g (R5 (s.go g t).label) (λu=>(s.go g t).OW.getD u 0)/\z7c g (s.go g t).label (s.go g t).OW (s.go g t).mark/\kS g (s.go g t).label-mS g (s.go g t).label (s.go g t).mark+1+rS (kS g (s.go g t).label-1)<=b-1;rw[ego];refine⟨hC,hR,hA.i,?_⟩;show kS g s.label-mS g s.label (bkS g s.label s.OW s.mark g.length).1+1+rS (kS g s.label-1)<=b-1;rw[hk] at hle⊢;rw[Nat.add_sub_cancel]
     omega
  | false =>
    have ego:s.go g t={s with phase:=0,label:=rsL s.label s.OW s.mark g.length}:=by unfold Sk.go;simp[hp,e]
    have hMR:zcK g (R5 s.label) (λu=>s.OW.getD u 0) (λu=>s.mark.getD u 0=1):=⟨λv hv hm=>hM.to_ v hv hm,λv u hv hu hs hmu hcc=>by
     have hvn:v<s.mark.length:=by rw[h.i.mn,<-hln];exact RK hv
     rcases hM.bit v _ (z9F hvn) with e0|e1
     ·exact absurd ⟨hu,hmu,hcc⟩ (hA.did e v (by have:=h.i.mn;omega) hv e0 u hs)
     ·exact e1⟩
    obtain⟨hL,hlf⟩:=zcl h.Zg hC hR hM hMR ω;obtain⟨v,v1,v2⟩:=hM.some_;have hlt:kS g (rsL s.label s.OW s.mark g.length)<kS g s.label:=YZ (λu _ hu=>((hlf u).1 hu).1) (by have:=RK v1;omega) (λe=>((hlf v).1 e).2 v2) v1;refine⟨b-1,ω,hI,?_,hdn _ ego hL.n,?_,?_,?_⟩
    ·show z1z g (s.go g t).label;rw[ego];exact hL
    ·intro _;show rS (kS g (s.go g t).label)<=b-1;rw[ego];have:=z30 (a:=kS g (rsL s.label s.OW s.mark g.length)) (b:=k) ω;show rS (kS g (rsL s.label s.OW s.mark g.length))<=b-1;omega
    ·intro e2;have e2:(s.go g t).phase=1:=e2;rw[ego] at e2;cases e2
    ·intro e2;have e2:(s.go g t).phase=2:=e2;rw[ego] at e2;cases e2
end
def scC (s:Sk)(g t vl vc vm:Nat):List Value:=[ptr g 0,ptr t 0,ptr vl 0,ptr vc 0,ptr vm 0,I (s.steps:Int),I (s.phase:Int),.bool s.done,.bool false]
structure Vu (sw:Bool)(Q:Rg)(txt:Int->OO)(k ok rr:Nat)(O_:Nat->Prop)(a L:Nat)(s:Sk)(vl vc vm:Nat)(w:World):Prop where
 o:O_ rr/\O_ vl/\O_ vc/\O_ vm
 ne:rr≠vl/\rr≠vc/\rr≠vm/\vl≠vc/\vl≠vm/\vc≠vm
 run:OU w rr (scC s (if sw then ok else k) (if sw then k else ok) vl vc vm) 86
 Zg:Un Q txt vl 4 a s.label w
 col:Un Q txt vc 4 (a+1) s.OW w
 mar:Un Q txt vm 1 (a+2) s.mark w
 n:s.label.length<=100/\s.OW.length<=100/\s.mark.length<=100
 L:L=3
theorem RR {n:Nat}(h:n<=100):VD n (512 / 4)=1:=by
 unfold VD
 omega
theorem Xe {n:Nat}(h:n<=100):VD n (512 / 1)=1:=by
 unfold VD
 omega
section
variable {w w':World}{sw:Bool}{Q Q':Rg}{txt txt':Int->OO}{k ok rr a L vl vc vm:Nat}{s:Sk}{O_ S:Nat->Prop}
def Vu.kp (h:Vu sw Q txt k ok rr O_ a L s vl vc vm w)(hk:Kp S w w')(hS:∀b,O_ b->¬S b):Vu sw Q txt k ok rr O_ a L s vl vc vm w':=
 ⟨h.o,h.ne,hk.OH h.run (hS _ h.o.1),h.Zg.kp hk (hS _ h.o.2.1),h.col.kp hk (hS _ h.o.2.2.1),h.mar.kp hk (hS _ h.o.2.2.2),h.n,h.L⟩
def Vu.TY (h:Vu sw Q txt k ok rr O_ a L s vl vc vm w)(e:∀y:Int,(a:Int)<=y->y<(a:Int)+(L:Int)->txt' y=txt y):Vu sw Q txt' k ok rr O_ a L s vl vc vm w:=by
 have h1:=h.L
 obtain⟨n1,n2,n3⟩:=h.n
 refine⟨h.o,h.ne,h.run,h.Zg.TY λy e1 e2=>?_,h.col.TY λy e1 e2=>?_,h.mar.TY λy e1 e2=>?_,h.n,h.L⟩
 ·rw[RR n1] at e2;exact e y ω ω
 ·rw[RR n2] at e2;exact e y ω ω
 ·rw[Xe n3] at e2;exact e y ω ω
theorem Vu.q (h:Vu sw Q txt k ok rr O_ a L s vl vc vm w)(hs:Q'.s=Q.s)(hl:Q'.L.length=Q.L.length):Vu sw Q' txt k ok rr O_ a L s vl vc vm w:=
 ⟨h.o,h.ne,h.run,h.Zg.q hs hl,h.col.q hs hl,h.mar.q hs hl,h.n,h.L⟩
def Vu.zkx {ys:List Nat}(h:Vu sw Q txt k ok rr O_ a L s vl vc vm w)(hk:Kp S w w')(hS:∀b,O_ b->¬S b)(hv:Un Q txt' vl 4 a ys w')(hl:ys.length=s.label.length)(ht:∀y:Int,y<(a:Int)\/(a:Int)+(VD ys.length (512 / 4):Int)<=y->txt' y=txt y):Vu sw Q txt' k ok rr O_ a L {s with label:=ys} vl vc vm w':=by
 obtain⟨n1,n2,n3⟩:=h.n
 have h5:=h.kp hk hS
 rw[hl,RR n1] at ht
 refine⟨h.o,h.ne,h5.run,hv,h5.col.TY λy e1 e2=>ht y (.inr ω),h5.mar.TY λy e1 e2=>ht y (.inr ω),⟨by show ys.length<=100;omega,n2,n3⟩,h.L⟩
def Vu.zjL {ys:List Nat}(h:Vu sw Q txt k ok rr O_ a L s vl vc vm w)(hk:Kp S w w')(hS:∀b,O_ b->¬S b)(hv:Un Q txt' vc 4 (a+1) ys w')(hl:ys.length=s.OW.length)(ht:∀y:Int,y<((a+1:Nat):Int)\/((a+1:Nat):Int)+(VD ys.length (512 / 4):Int)<=y->txt' y=txt y):Vu sw Q txt' k ok rr O_ a L {s with OW:=ys} vl vc vm w':=by
 obtain⟨n1,n2,n3⟩:=h.n
 have h5:=h.kp hk hS
 rw[hl,RR n2] at ht
 refine⟨h.o,h.ne,h5.run,h5.Zg.TY λy e1 e2=>?_,hv,h5.mar.TY λy e1 e2=>ht y (.inr ω),⟨n1,by show ys.length<=100;omega,n3⟩,h.L⟩
 rw[RR n1] at e2
 exact ht y (.inl ω)
def Vu.zk9 {ys:List Nat}(h:Vu sw Q txt k ok rr O_ a L s vl vc vm w)(hk:Kp S w w')(hS:∀b,O_ b->¬S b)(hv:Un Q txt' vm 1 (a+2) ys w')(hl:ys.length=s.mark.length)(ht:∀y:Int,y<((a+2:Nat):Int)\/((a+2:Nat):Int)+(VD ys.length (512 / 1):Int)<=y->txt' y=txt y):Vu sw Q txt' k ok rr O_ a L {s with mark:=ys} vl vc vm w':=by
 obtain⟨n1,n2,n3⟩:=h.n
 have h5:=h.kp hk hS
 rw[hl,Xe n3] at ht
 refine⟨h.o,h.ne,h5.run,h5.Zg.TY λy e1 e2=>?_,h5.col.TY λy e1 e2=>?_,hv,⟨n1,n2,by show ys.length<=100;omega⟩,h.L⟩
 ·rw[RR n1] at e2;exact ht y (.inl ω)
 ·rw[RR n2] at e2;exact ht y (.inl ω)
end
def Sx (sw:Bool)(ok:Nat):RuK Sk where
 M Q txt k rr O_ a L s w:=∃vl vc vm,Vu sw Q txt k ok rr O_ a L s vl vc vm w
 tm s:=s.steps
 c0:=0
 c1:=0
 kp:=λ⟨vl,vc,vm,h⟩ hk hS=>⟨vl,vc,vm,h.kp hk hS⟩
 TY:=λ⟨vl,vc,vm,h⟩ e=>⟨vl,vc,vm,h.TY e⟩
 q:=λ⟨vl,vc,vm,h⟩ hs hl=>⟨vl,vc,vm,h.q hs hl⟩
section
variable {G T:GwP}{w w':World}{sw:Bool}{Q:Rg}{txt:Int->OO}{K ok:Nat}{X O_:Nat->Prop}{rr a L vl vc vm:Nat}{s:Sk}
def Qt.sc (h:Qt (Sx sw ok) G T Q txt K X rr O_ a L s w):∃vl vc vm,Vu sw Q txt G.k ok rr O_ a L s vl vc vm w:=h.m.m
theorem Qt.swap (h:Qt (Sx sw T.k) G T Q txt K X rr O_ a L s w)(hn:T.g.length<=40):Qt (Sx (!sw) G.k) T G Q txt K X rr O_ a L s w:=by
 obtain⟨vl,vc,vm,hv⟩:=h.sc
 have hx:=h.xk
 have bD:=h.m.ne
 refine⟨⟨h.t,⟨vl,vc,vm,⟨hv.o,hv.ne,?_,hv.Zg,hv.col,hv.mar,hv.n,hv.L⟩⟩,λb hb=> .inl (h.xr b hb),h.m.ro,λb hb=>⟨(h.nk b hb).1,(h.nk b hb).2,(bD b hb).2.2.1,(bD b hb).2.2.2⟩,h.Vk,hn⟩,h.m.g,h.xr,⟨hx.2.2.1,hx.2.2.2.1,hx.1,hx.2.1,hx.2.2.2.2.1,hx.2.2.2.2.2⟩,λb hb=>⟨(bD b hb).1,(bD b hb).2.1⟩,h.m.Vk⟩
 have:=hv.run
 cases sw with
 |true=>exact this
 |false=>exact this
def Sy (w:World):Ps prog 67 [I 0] w λ_ w'=>w'=w:=by
 refine py (e:=[(0,_)]) func67 O ntmps67 O O$ Pt O$ QF O$ Qm O$ Qh func67 O ?_
 exact⟨_,rfl,rfl⟩
def Sb {width:Nat}{xs:List Nat}{vb sv:Nat}(hP:Sp Q txt K X w)(hX:∀b,X b->b<w.heap.size)(hK:K<1000000000000)(hv:Un Q txt vb width sv xs w)(eV:X vb){i x:Nat}(hi:xs[i]? =some x):Ps prog 103 [ptr vb 0,I (i:Int)] w λv w'=>v=P7 x/\Sp Q txt K X w'/\Kp (λb=>¬X b) w w':=by
 refine py (e:=[(0,_),(1,_)]) func103 O ntmps103 O O$ qN O$ QW O$ Pl O$ Pb zgS O (z2r hP hX hK hv eV hi) ?_
 rintro _ w1 ⟨rfl,ik,az⟩
 refine OT O$ SM O$ SH O$ R3 O$ Pb z2X O (Sy _) ?_
 rintro _ w1 rfl
 refine qM O$ OT O$ P3 O$ OI func103 O ?_
 exact⟨_,rfl,rfl,ik,az⟩
end
def SQ.iff {G:GwP}{Q:Rg}{txt:Int->OO}{K:Nat}{X Y:Nat->Prop}{w:World}(h:SQ G Q txt K X w)(e:∀b,X b↔Y b):SQ G Q txt K Y w:=by
 have e2:X=Y:=funext λb=>propext (e b)
 exact e2▸h
section
variable {G T:GwP}{w w':World}{sw:Bool}{Q:Rg}{txt txt':Int->OO}{K K' ok:Nat}{X Y O_:Nat->Prop}{rr a L vl vc vm:Nat}{s s':Sk}
theorem VL (h:Qt (Sx sw ok) G T Q txt K X rr O_ a L s w){v:Nat}(hv:v<s.label.length):Ps prog 66 [ptr rr 0,I (v:Int)] w λr w'=>r= .bool (decide (R5 s.label v))/\Qt (Sx sw ok) G T Q txt K X rr O_ a L s w'/\Kp (λb=>¬((X b\/b=T.rb)\/b=G.rb)) w w':=by
 obtain⟨vl,vc,vm,hV⟩:=h.sc
 obtain⟨x,hx⟩:∃x,s.label[v]? =some x:=⟨_,List.getElem?_eq_getElem hv⟩
 have hR:OU w rr [ptr (if sw then ok else G.k) 0,ptr (if sw then G.k else ok) 0,ptr vl 0,ptr vc 0,ptr vm 0,I (s.steps:Int),I (s.phase:Int),.bool s.done,.bool false] 86:=hV.run
 refine py (e:=[(0,_),(1,_)]) func66 O ntmps66 O O$ qN O$ R3 O$ Pw O$ P4 VT O$ qV (OS Zj O O hR O)$ OT O$ Pb XD O (Sb h.sp h.lt h.m.g.VB hV.Zg (.inl (.inl (h.xr _ hV.o.2.1))) hx) ?_
 rintro _ w1 ⟨rfl,ik,az⟩
 refine Rk O$ P3 O$ OI func66 O (⟨_,rfl,?_,h.read az ik,az⟩)
 refine congrArg Value.bool$ decide_eq_decide.2 ?_
 show(x:Int)=4294967295↔s.label[v]? =some 4294967295
 rw[hx]
 exact⟨λe=>by rw[show x=4294967295 by omega],λe=>by rw[RB e];rfl⟩
def Y3 (k v:Nat)(w:World):Ps prog 102 [ptr rr 0,ptr k 0,I (v:Int)] w λr w'=>∃b3 b4 b5,r= .func (.func 139) #[] #[ptr b4 0,ptr b5 0,ptr b3 0]/\OU w' b3 [ptr rr 0] 43/\OU w' b4 [ptr k 0] 28/\OU w' b5 [I (v:Int)] 3/\w.heap.size<=b3/\w.heap.size<=b4/\w.heap.size<=b5/\Ext w w':=by
 refine py (e:=[(0,_),(1,_),(2,_)]) func102 O ntmps102 O O$ qN O$ OP O O (R6 O (cs:=[ptr rr 0]) O) ?_
 rintro _ w1 ⟨b3,rfl,dI,ad,ai⟩
 refine OP O O (R6 O (cs:=[ptr k 0]) O) ?_
 rintro _ w2 ⟨b4,rfl,fX,ae,ak⟩
 refine OP O O (R6 O (cs:=[I (v:Int)]) O) ?_
 rintro _ w3 ⟨b5,rfl,gG,ah,au⟩
 refine QW O$ qV (ZR (first:=[]) (caps:=[.tmp 4,.tmp 5,.tmp 3]) O O)$ P3 O$ OI func102 O ?_
 have:=ad.size
 have:=ae.size
 exact⟨_,rfl,b3,b4,b5,rfl,ah.OH (ae.OH ai),ah.OH ak,au,ω,ω,ω,(ad.trans ae).trans ah⟩
def Zk {l bk bi br v:Nat}(hv:v<G.g.length)(hl:s.label.length=G.g.length)(h:Qt (Sx sw ok) G T Q txt K X rr O_ a L s w)(fB:OU w bk [ptr G.k 0] 28)(wP:OU w bi [I (v:Int)] 3)(Br:OU w br [ptr rr 0] 43)(gI:X br)(Z:Nat->Prop)(hZ:∀j,Z j->X j/\j≠br/\¬O_ j)
  (E:Nat->(Int->OO)->Nat->Sk->World->Prop) (F:(Int->OO)->Nat->Sk->World->Prop)
  (hE:∀i txt' K' s' w' w'',E i txt' K' s' w'->w.heap.size<=w'.heap.size->Kp (λb=>¬X b) w' w''->E i txt' K' s' w'')
  (hF:∀txt' K' s' w' w'',F txt' K' s' w'->w.heap.size<=w'.heap.size->Kp (λb=>¬X b) w' w''->F txt' K' s' w'')
  (h0:∀w',w.heap.size<=w'.heap.size->Kp (λb=>¬X b) w w'->E 0 txt K s w')
  (Au:∀i u txt' K' s' w',(P5 G.g v)[i]? =some u->¬R5 s.label u->E i txt' K' s' w'->E (i+1) txt' K' s' w')
  (hround:∀(Y:Nat->Prop) (i u:Nat) (txt':Int->OO) (K':Nat) (s':Sk) (w':World),(∀j,X j->Y j)->(∀j,Y j->X j\/w.heap.size<=j)->w.heap.size<=w'.heap.size->(P5 G.g v)[i]? =some u->R5 s.label u->s'.label=s.label->Qt (Sx sw ok) G T Q txt' K' Y rr O_ a L s' w'->E i txt' K' s' w'->z26 prog l [I (u:Int)] w' λr w''=>((r= .bool true/\∃txt'' K'' s'',s''.label=s.label/\Qt (Sx sw ok) G T Q txt'' K'' Y rr O_ a L s'' w''/\E (i+1) txt'' K'' s'' w'')\/(r= .bool false/\∃txt'' K'' s'',s''.label=s.label/\Qt (Sx sw ok) G T Q txt'' K'' Y rr O_ a L s'' w''/\F txt'' K'' s'' w''))/\Kp (λj=>(¬Y j/\j≠T.rb)\/Z j) w' w''):
  Ps prog 139 [.func (.yield l) #[] #[],ptr bk 0,ptr bi 0,ptr br 0] w λr w'=>r= .tuple #[]/\∃(Y:Nat->Prop) (txt':Int->OO) (K':Nat) (s':Sk),(∀j,X j->Y j)/\(∀j,Y j->X j\/w.heap.size<=j)/\s'.label=s.label/\Qt (Sx sw ok) G T Q txt' K' Y rr O_ a L s' w'/\(E (P5 G.g v).length txt' K' s' w'\/F txt' K' s' w'):=by
 have ez:=h.m.n
 have GE:=h.m.g.ok.gr
 obtain⟨n1,n2,n3⟩:=h.ng
 have aQ:∀b,X b->b<w.heap.size:=λb hb=>h.lt b (.inl (.inl hb))
 have hx:=h.xk
 have BW:=h.lt G.rb (.inr O)
 have pR:=h.lt T.rb (.inl (.inr O))
 refine py (e:=[(0,_),(1,_),(2,_),(3,_)]) func139 O ntmps139 O O$ qN O$ OP O O (R6 O (cs:=[.func (.yield l) #[] #[]]) O) ?_
 rintro _ w1 ⟨b4,rfl,fX,ad,ai⟩
 have GF:=ad.OH fB
 have GG:=ad.OH wP
 have z1:=ad.size
 have l1:=ai.lt
 refine qM O$ qV ((OS Z8 O O GF O))$ qV ((OS U3 O O GG O))$ Pb ziO O (z6T G.k v _) ?_
 rintro _ w6 ⟨bk2,bi2,rfl,wm,FZ,N3,N4,aR⟩
 have z6:=aR.size
 refine OJ$ OL$ RI (ps:=[10,11]) (p:=[]) (q:=[_,_]) O zi1 ?_
 rintro l2 wl cE eK cD hD Rc bJ du
 have zl:=cE.size
 have Av:=aR.trans cE
 have jF:=ad.trans Av
 obtain⟨X1,dl⟩:∃X1:Nat->Prop,(λj=>X j\/j=b4\/j=w6.heap.size\/j=l2)=X1:=⟨_,rfl⟩
 have cZ:∀j,X j->X1 j:=λj hj=>by rw[<-dl];exact .inl hj
 have eE:∀j,X1 j->X j\/w.heap.size<=j:=λj hj=>by rw[<-dl] at hj;exact hj.imp id λe=>by omega
 have jb:X1 b4/\X1 w6.heap.size/\X1 l2:=by rw[<-dl];exact⟨.inr (.inl O),.inr (.inr (.inl O)),.inr (.inr (.inr O))⟩
 have rp:Qt (Sx sw ok) G T Q txt K X1 rr O_ a L s wl:=h.grow jF (λj hj=>by rw[<-dl] at hj;exact hj.imp id λe=>by omega) cZ
 have Jf:∀j,Z j->j<w.heap.size:=λj hj=>aQ j (hZ j hj).1
 have wR:∀j,O_ j->j<w.heap.size:=λj hj=>aQ j (h.xr j hj)
 have cP:∀{j},X j->∀{Y:Nat->Prop},(∀j,(X1 j\/j=T.rb)->Y j)->Y j/\j≠T.rb:=λhj Y hY=>⟨hY _ (.inl (cZ _ hj)),λe=>n3 (e▸hj)⟩
 have dB:∀j,w.heap.size<=j->j≠G.k/\j≠G.x/\j≠T.k/\j≠T.x/\j≠1/\j≠2/\¬O_ j:=λj hj=>by
  have e1:=aQ _ hx.1;have e2:=aQ _ hx.2.1;have e3:=aQ _ hx.2.2.1;have e4:=aQ _ hx.2.2.2.1;have e5:=aQ _ hx.2.2.2.2.1;have e6:=aQ _ hx.2.2.2.2.2;exact⟨ω,ω,ω,ω,ω,ω,λe=>by have:=wR j e;omega⟩
 refine Ps.mono (z7a ω hv rp.m.g (cE.OH wm) (cE.OH FZ) (λj=>j=l2\/Z j) (λj hj=> .inl (hj.elim (λe=>e▸jb.2.2) λe=>cZ _ (hZ j e).1))
  (λYg i w'=>Rc .ready none w'/\(∃txt' K' s',s'.label=s.label/\Qt (Sx sw ok) G T Q txt' K' (λb=>Yg b/\b≠T.rb) rr O_ a L s' w'/\E i txt' K' s' w')/\w'.heap[w6.heap.size]? =some (.deferred (some []))/\OU w' b4 [.func (.yield l) #[] #[]] 150/\OU w' br [ptr rr 0] 43/\w.heap.size<=w'.heap.size)
  (λw'=>Rc .done (some .ret) w'/\(∃Y txt' K' s',(∀j,X1 j->Y j)/\(∀j,Y j->X j\/w.heap.size<=j)/\s'.label=s.label/\Qt (Sx sw ok) G T Q txt' K' Y rr O_ a L s' w'/\F txt' K' s' w')/\w'.heap[w6.heap.size]? =some (.deferred (some []))/\w.heap.size<=w'.heap.size) ?_ ?_) ?_
 ·intro Yg w7 aH kW Gw aB;have z7:=aB.size;have hn:∀j,X1 j->¬¬(X1 j\/j=T.rb):=λj hj e=>e (.inl hj);have cN:Kp (λj=>¬(X1 j\/j=T.rb)) w1 w7:=Av.kp.trans aB;have dN:Kp (λj=>¬(X1 j\/j=T.rb)) w w7:=jF.kp.trans aB
  have GH:SQ G Q txt K (λb=>(Yg b/\b≠T.rb)\/b=T.rb) w7:=Gw.iff λb=>by
   by_cases e:b=T.rb
   ·exact⟨λ_=> .inr e,λ_=>aH _ (.inr e)⟩
   ·exact⟨λhb=> .inl ⟨hb,e⟩,λhb=>hb.elim And.left λe2=>absurd e2 e⟩
  have qy:∀j,X1 j->j≠T.rb:=λj hj e=>by
   rcases eE j hj with e2|e2
   ·exact n3 (e▸e2)
   ·omega
  refine⟨aB.rc bJ du (hn _ jb.2.2),⟨txt,K,s,rfl,?_,h0 w7 ω (dN.ON λb e e2=>e (.inl (cZ _ e2)))⟩,aB.heap hD (hn _ jb.2.1),cN.OH ai (hn _ jb.1),dN.OH Br (hn _ (cZ _ gI)),ω⟩;refine rp.byG (rp.m.list GH aB λj e=>e.elim (λe=> .inl ⟨aH _ (.inl e),qy j e⟩) .inr) aB (λb e=> .inl ⟨λe2=>e (.inl e2),λe2=>e (.inr e2)⟩) (λj hj=>⟨aH _ (.inl hj),qy j hj⟩) (λj hj=>?_)$ λ_ _=>rfl;rcases kW j hj.1 with(e|e)| e
  ·exact .inl e
  ·exact absurd e hj.2
  ·exact .inr e
 ·rintro Yg i u w7 aH kW hs ⟨oU,⟨txt7,K7,s7,i8,h7,N5⟩,vf,bR,GI,z7⟩;have j7:u<G.g.length:=Yk GE v u (List.mem_of_getElem? hs);obtain⟨Y,hY⟩:∃Y:Nat->Prop,(λb=>Yg b/\b≠T.rb)=Y:=⟨_,rfl⟩;rw[hY] at h7⊢
  have qy:∀j,X1 j->j≠T.rb:=λj hj e=>by
   rcases eE j hj with e2|e2
   ·exact n3 (e▸e2)
   ·omega
  have mL:∀j,X1 j->Y j:=λj hj=>by rw[<-hY];exact⟨aH _ (.inl hj),qy j hj⟩
  have rq:∀j,X j->Y j:=λj hj=>mL j (cZ j hj)
  have mM:∀j,Y j->X j\/w.heap.size<=j:=λj hj=>by
   rw[<-hY] at hj;rcases kW j hj.1 with(e|e)| e
   ·exact eE j e
   ·exact absurd e hj.2
   ·exact .inr ω
  have Ou:∀j,¬Y j->¬Yg j\/j=T.rb:=λj hj=>by
   by_cases e:j=T.rb
   ·exact .inr e
   ·exact .inl λe2=>hj (by rw[<-hY];exact⟨e2,e⟩)
  have Ov:∀j,Z j->j≠l2/\j≠w6.heap.size/\j≠b4/\j≠br:=λj hj=>by
   have e1:=Jf j hj;exact⟨ω,ω,ω,(hZ j hj).2.1⟩
  refine Si bJ oU O O$ QN O$ OQ O$ P3 O$ run_beginRound O bJ oU ?_;rintro w8 pO aL;have eL:Y l2/\Y w6.heap.size/\Y b4:=⟨mL _ jb.2.2,mL _ jb.2.1,mL _ jb.1⟩;have h8:=h7.own aL (λj e=>by subst e;exact⟨eL.1,dB _ ω⟩);have sL:=aL.heap vf ω;have cu:=aL.OH bR ω;have Aw:=aL.OH GI (λe=>by have:=aQ br gI;omega);have wq:=hE _ _ _ _ _ _ N5 z7 (aL.ON λj e e2=>by have:=aQ j e2;omega);have z8:=aL.size;refine OL$ Pt O$ Pb z2X O (Sy _) ?_;rintro _ w8 rfl;refine qM O$ qV (OS Xi O O Aw O)$ OT O$ qV (PQ O QU U3 ω)$ Pb zd1 O (VL h8 (by rw[i8,hl];exact j7)) ?_;rintro _ w9 ⟨rfl,h9,aw⟩;rw[i8];have dz:∀j,Y j->¬¬((Y j\/j=T.rb)\/j=G.rb):=λj hj e=>e (.inl (.inl hj));have BY:=aw.rc bJ pO (dz _ eL.1);have BZ:=aw.heap sL (dz _ eL.2.1);have cK:=aw.OH cu (dz _ eL.2.2);have Ax:=aw.OH Aw (dz _ (rq _ gI));have wu:=hE _ _ _ _ _ _ wq ω (aw.ON λj e e2=>e (.inl (.inl (rq _ e2))));have z9:=aw.size
  have Ay:Kp (λj=>¬Yg j\/(j=l2\/Z j)) w7 w9:=(aL.ON λj e=> .inr (.inl e)).trans (aw.ON λj e=> .inl λe2=>e (by
   by_cases e3:j=T.rb
   ·exact .inl (.inr e3)
   ·exact .inl (.inl (by rw[<-hY];exact⟨e2,e3⟩))))
  by_cases iS:R5 s.label u
  ·rw[decide_eq_true iS];refine OT O$ qV (OS zhm O O cK O)$ OT O$ qV (PQ O QU U3 ω)$ z3F O O (yy O O) (hround Y i u txt7 K7 s7 w9 rq mM ω hs iS i8 h9 wu) ?_;rintro r wa GJ;obtain⟨GJ,bH⟩:=GJ;have ko:∀j,Y j->w.heap.size<=j->¬((¬Y j/\j≠T.rb)\/Z j):=λj hj hw e=>e.elim (λe=>e.1 hj) (λe=>by have:=Jf j e;omega);have sM:=bH.rc bJ BY (ko _ eL.1 ω);have sN:=bH.heap BZ (ko _ eL.2.1 ω);have C1:=bH.OH cK (ko _ eL.2.2 ω);have GK:=bH.OH Ax (λe=>e.elim (λe=>e.1 (rq _ gI)) (λe=>(hZ _ e).2.1 O));have za:=bH.size;have GL:Kp (λj=>¬Yg j\/(j=l2\/Z j)) w9 wa:=bH.ON λj e=>e.elim (λe=> .inl λe2=>e.1 (by rw[<-hY];exact⟨e2,e.2⟩)) (λe=> .inr (.inr e));rcases GJ with⟨rfl,txta,Ka,sa,oV,ha,N6⟩|⟨rfl,txta,Ka,sa,oV,ha,TC⟩
   ·refine qV ((S5 O))$ Ra O$ OJ$ Pu.qb (e:=[(24,_)]) ?_;refine SO O$ OG$ RF bJ sM ?_;intro wb kK aY;refine .inl ⟨rfl,⟨kK,⟨txta,Ka,sa,oV,ha.own aY (λj e=>by subst e;exact⟨eL.1,dB _ ω⟩),hE _ _ _ _ _ _ N6 ω (aY.ON λj e e2=>by have:=aQ j e2;omega)⟩,aY.heap sN ω,aY.OH C1 ω,aY.OH GK (λe=>by have:=aQ br gI;omega),by have:=aY.size;omega⟩,(Ay.trans GL).trans (aY.ON λj e=> .inr (.inl e))⟩
   ·refine qV ((S5 O))$ Ra O$ OJ$ Pu.qb (e:=[(24,_)]) ?_;refine OZ O$ Tl bJ sM ?_;intro wb kK aY;exact .inr ⟨rfl,kK,⟨Y,txta,Ka,sa,mL,mM,oV,ha.own aY (λj e=>by subst e;exact⟨eL.1,dB _ ω⟩),hF _ _ _ _ _ TC ω (aY.ON λj e e2=>by have:=aQ j e2;omega)⟩,aY.heap sN ω,by have:=aY.size;omega⟩
  ·rw[decide_eq_false iS];refine OT O$ QY$ QY$ qS$ PT O$ OJ$ Pu.qb (e:=[(24,_)]) ?_;refine SO O$ OG$ RF bJ BY ?_;intro wb kK aY;exact .inl ⟨rfl,⟨kK,⟨txt7,K7,s7,i8,h9.own aY (λj e=>by subst e;exact⟨eL.1,dB _ ω⟩),hE _ _ _ _ _ _ (Au _ _ _ _ _ _ hs iS wu) ω (aY.ON λj e e2=>by have:=aQ j e2;omega)⟩,aY.heap BZ ω,aY.OH cK ω,aY.OH Ax (λe=>by have:=aQ br gI;omega),by have:=aY.size;omega⟩,Ay.trans (aY.ON λj e=> .inr (.inl e))⟩
 ·rintro v' wz ⟨rfl,⟨Yg,aH,kW,mN,⟨txtz,Kz,sz,il,hz,N7⟩,mO,IM,N8,zz⟩|⟨mN,⟨Y,txtz,Kz,sz,mL,mM,il,hz,N9⟩,mO,zz⟩⟩
  ·have qy:∀j,X1 j->j≠T.rb:=λj hj e=>by
    rcases eE j hj with e2|e2
    ·exact n3 (e▸e2)
    ·omega
   obtain⟨Y,hY⟩:∃Y:Nat->Prop,(λb=>Yg b/\b≠T.rb)=Y:=⟨_,rfl⟩;rw[hY] at hz;have mL:∀j,X1 j->Y j:=λj hj=>by rw[<-hY];exact⟨aH _ (.inl hj),qy j hj⟩
   have mM:∀j,Y j->X j\/w.heap.size<=j:=λj hj=>by
    rw[<-hY] at hj;rcases kW j hj.1 with(e|e)| e
    ·exact eE j e
    ·exact absurd e hj.2
    ·exact .inr ω
   refine⟨_,_,mN,ξ,λwy cY=>?_⟩;have jy:=cY.heap mO ω;have dK:Kp (λk=>k=w6.heap.size) wy (Ro [.mk w6.heap.size] wy):=Q8 wy w6.heap.size (.deferred none);have bL:Kp (λk=>k=l2\/k=w6.heap.size) wz (Ro [.mk w6.heap.size] wy):=(cY.ON λj e=> .inl e).trans (dK.ON λj e=> .inr e);refine OG$ zb9 ξ (Tv jy) func139 O ?_;exact⟨_,rfl,rfl,Y,txtz,Kz,sz,λj hj=>mL j (cZ j hj),mM,il,hz.own bL (λj e=>⟨by rcases e with rfl|rfl;exact mL _ jb.2.2;exact mL _ jb.2.1,dB j ω⟩),.inl (hE _ _ _ _ _ _ N7 zz (bL.ON λj e e2=>by have:=aQ j e2;omega))⟩
  ·refine⟨_,_,mN,ξ,λwy cY=>?_⟩;have jy:=cY.heap mO ω;have dK:Kp (λk=>k=w6.heap.size) wy (Ro [.mk w6.heap.size] wy):=Q8 wy w6.heap.size (.deferred none);have bL:Kp (λk=>k=l2\/k=w6.heap.size) wz (Ro [.mk w6.heap.size] wy):=(cY.ON λj e=> .inl e).trans (dK.ON λj e=> .inr e);refine z3N ξ (Tv jy) func139 O ?_;exact⟨_,rfl,rfl,Y,txtz,Kz,sz,λj hj=>mL j (cZ j hj),mM,il,hz.own bL (λj e=>⟨by rcases e with rfl|rfl;exact mL _ jb.2.2;exact mL _ jb.2.1,dB j ω⟩),.inr (hF _ _ _ _ _ N9 zz (bL.ON λj e e2=>by have:=aQ j e2;omega))⟩
end
section
variable {G T:GwP}{w w':World}{sw:Bool}{Q:Rg}{txt txt':Int->OO}{K K' ok:Nat}{X Y O_:Nat->Prop}{rr a L:Nat}{s s':Sk}
def Qt.far (h:Qt (Sx sw ok) G T Q txt K X rr O_ a L s w):∀j,w.heap.size<=j->j≠G.k/\j≠G.x/\j≠T.k/\j≠T.x/\j≠1/\j≠2/\¬O_ j:=λj hj=>by
 have aS:∀b,X b->b<w.heap.size:=λb hb=>h.lt b (.inl (.inl hb))
 have hx:=h.xk
 have e1:=aS _ hx.1
 have e2:=aS _ hx.2.1
 have e3:=aS _ hx.2.2.1
 have e4:=aS _ hx.2.2.2.1
 have e5:=aS _ hx.2.2.2.2.1
 have e6:=aS _ hx.2.2.2.2.2
 exact⟨ω,ω,ω,ω,ω,ω,λe=>by have:=aS j (h.xr j e);omega⟩
theorem ZN (h:Qt (Sx sw ok) G T Q txt K X rr O_ a L s w){v:Nat}(hv:v<G.g.length)(hl:s.label.length=G.g.length):Ps prog 98 [ptr rr 0,ptr G.k 0,I (v:Int)] w λr w'=>r= .bool (Wg G.g s.label v)/\Qt (Sx sw ok) G T Q txt K X rr O_ a L s w'/\Kp (λb=>¬X b) w w':=by
 have aQ:∀b,X b->b<w.heap.size:=λb hb=>h.lt b (.inl (.inl hb))
 have cg:=h.far
 obtain⟨n1,n2,n3⟩:=h.ng
 have pR:=h.lt T.rb (.inl (.inr O))
 refine py (e:=[(0,_),(1,_),(2,_)]) func98 O ntmps98 O O$ qN O$ OP O O (R6 O (cs:=[I (v:Int)]) O) ?_
 rintro _ w1 ⟨b5,rfl,gG,ad,ai⟩
 refine OP O O (Rz (cs:=[_]) UH O) ?_
 rintro _ w2 ⟨b6,rfl,nD,ae,ak⟩
 have aW:=ae.OH ai
 have z1:=ad.size
 have z2:=ae.size
 have l1:=ai.lt
 have l2:=ak.lt
 refine OJ$ An$ QI O$ qV (OS U3 O O aW O)$ Pb zaS O (Y3 G.k v _) ?_
 rintro _ w3 ⟨c3,c4,c5,rfl,sO,Az,vg,nn,lR,Jg,ah⟩
 have z3:=ah.size
 have l3:=sO.lt
 have bX:=ah.OH aW
 have bE:=ah.OH ak
 replace bE:OU w3 b6 [.bool false] 4:=bE
 refine OJ$ OL$ RI (ps:=[12]) (p:=[]) (q:=[_,_,_]) O zb3 ?_
 rintro l wl cE eK cD hD Rc bJ du
 have zl:=cE.size
 have jF:=((ad.trans ae).trans ah).trans cE
 obtain⟨X1,dl⟩:∃X1:Nat->Prop,(λj=>X j\/j=b5\/j=b6\/j=c3\/j=w3.heap.size\/j=l)=X1:=⟨_,rfl⟩
 have cZ:∀j,X j->X1 j:=λj hj=>by rw[<-dl];exact .inl hj
 have aq:X1 b5/\X1 b6/\X1 c3/\X1 w3.heap.size/\X1 l:=by rw[<-dl];exact⟨.inr (.inl O),.inr (.inr (.inl O)),.inr (.inr (.inr (.inl O))),.inr (.inr (.inr (.inr (.inl O)))),.inr (.inr (.inr (.inr (.inr O))))⟩
 have rp:Qt (Sx sw ok) G T Q txt K X1 rr O_ a L s wl:=h.grow jF (λj hj=>by rw[<-dl] at hj;exact hj.imp id λe=>by omega) cZ
 have db:∀j,w.heap.size<=j->¬O_ j:=λj hj=>(cg j hj).2.2.2.2.2.2
 refine Ps.mono (Zk hv hl rp (cE.OH Az) (cE.OH vg) (cE.OH sO) aq.2.2.1 (λj=>j=l\/j=b6) (λj hj=>by
   rcases hj with rfl|rfl
   ·exact⟨aq.2.2.2.2,ω,db _ ω⟩
   ·exact⟨aq.2.1,ω,db _ ω⟩)
  (λi txt' K' s' w'=>Rc .ready none w'/\txt'=txt/\K'=K/\s'=s/\(∀u,u∈(P5 G.g v).take i->R5 s.label u->u=v)/\w'.heap[w3.heap.size]? =some (.deferred (some []))/\OU w' b5 [I (v:Int)] 3/\OU w' b6 [.bool false] 4/\Kp (λb=>¬X b) w w')
  (λtxt' K' s' w'=>Rc .done (some .ret) w'/\txt'=txt/\K'=K/\s'=s/\(∃u,u∈P5 G.g v/\R5 s.label u/\u≠v)/\w'.heap[w3.heap.size]? =some (.deferred (some []))/\OU w' b6 [.bool false] 4/\Kp (λb=>¬X b) w w')
  ?_ ?_ ?_ ?_ ?_) ?_
 ·rintro i txt' K' s' w7 w8 ⟨e1,e2,e3,e4,e5,e6,e7,e8,e9⟩ hz hk;exact⟨hk.rc bJ e1 (λe=>e aq.2.2.2.2),e2,e3,e4,e5,hk.heap e6 (λe=>e aq.2.2.2.1),hk.OH e7 (λe=>e aq.1),hk.OH e8 (λe=>e aq.2.1),e9.trans (hk.ON λb e e2=>e (cZ _ e2))⟩
 ·rintro txt' K' s' w7 w8 ⟨e1,e2,e3,e4,e5,e6,e8,e9⟩ hz hk;exact⟨hk.rc bJ e1 (λe=>e aq.2.2.2.2),e2,e3,e4,e5,hk.heap e6 (λe=>e aq.2.2.2.1),hk.OH e8 (λe=>e aq.2.1),e9.trans (hk.ON λb e e2=>e (cZ _ e2))⟩
 ·intro w7 hz hk;have cN:=cE.kp.trans hk;have dN:Kp (λb=>¬X1 b) w w7:=jF.kp.trans hk;exact⟨hk.rc bJ du (λe=>e aq.2.2.2.2),rfl,rfl,rfl,λu hu=>(by cases hu),hk.heap hD (λe=>e aq.2.2.2.1),cN.OH bX (λe=>e aq.1),cN.OH bE (λe=>e aq.2.1),dN.ON λb e e2=>e (cZ _ e2)⟩
 ·rintro i u txt' K' s' w7 hs iy ⟨e1,e2,e3,e4,e5,e6,e7,e8,e9⟩;refine⟨e1,e2,e3,e4,λx hx cE=>?_,e6,e7,e8,e9⟩;rw[PK hs,List.mem_append,List.mem_singleton] at hx;rcases hx with hx|rfl
  ·exact e5 x hx cE
  ·exact absurd cE iy
 ·rintro Y i u txt' K' s' w7 aH kW z7 hs iS i8 h7 ⟨oU,rfl,rfl,rfl,cO,vf,fj,gZ,dN⟩;have gJ:Y l/\Y b6:=⟨aH _ aq.2.2.2.2,aH _ aq.2.1⟩;refine Si bJ oU O O$ OQ O$ P3 O$ run_beginRound O bJ oU ?_;rintro w8 pO aL;have h8:=h7.own aL (λj e=>by subst e;exact⟨gJ.1,cg _ ω⟩);have gP:=aL.OH fj ω;have dZ:=aL.OH gZ ω;have sL:=aL.heap vf ω;have z8:=aL.size;have m9:=dN.trans (aL.ON λj e e2=>by have:=aQ j e2;omega);refine OL$ Pt O$ qV (OS U3 O O gP O) ?_;by_cases D6:u=v
  ·refine QF O$ PO$ Qm O$ OG$ RF bJ pO ?_;intro wb kK aY;refine⟨.inl ⟨rfl,txt',K',s',i8,h8.own aY (λj e=>by subst e;exact⟨gJ.1,cg _ ω⟩),kK,rfl,rfl,rfl,λx hx cE=>?_,aY.heap sL ω,aY.OH gP ω,aY.OH dZ ω,m9.trans (aY.ON λj e e2=>by have:=aQ j e2;omega)⟩,(aL.ON λj e=> .inr (.inl e)).trans (aY.ON λj e=> .inr (.inl e))⟩;rw[PK hs,List.mem_append,List.mem_singleton] at hx;rcases hx with hx|rfl
   ·exact cO x hx cE
   ·exact D6
  ·refine QF O$ RP$ OJ$ OZ O$ qN O$ OY O (QP UH O O O dZ ξ) ?_;rintro w9 ⟨iL,aw⟩;have BY:=aw.rc bJ pO ω;have BZ:=aw.heap sL ω;have z9:=aw.size;have h9:=h8.own aw (λj e=>by subst e;exact⟨gJ.2,cg _ ω⟩);refine OJ$ Tl bJ BY ?_;intro wb kK aY;exact⟨.inr ⟨rfl,txt',K',s',i8,h9.own aY (λj e=>by subst e;exact⟨gJ.1,cg _ ω⟩),kK,rfl,rfl,rfl,⟨u,List.mem_of_getElem? hs,iS,D6⟩,aY.heap BZ ω,aY.OH iL ω,(m9.trans (aw.ON λj e e2=>by have:=aQ j e2;omega)).trans (aY.ON λj e e2=>by have:=aQ j e2;omega)⟩,((aL.ON λj e=> .inr (.inl e)).trans (aw.ON λj e=> .inr (.inr e))).trans (aY.ON λj e=> .inr (.inl e))⟩
 ·rintro v' wz ⟨rfl,Y,txtz,Kz,sz,aH,kW,il,hz,⟨mN,rfl,rfl,rfl,cO,mO,qU,iT,cX⟩|⟨mN,rfl,rfl,rfl,vV,mO,iT,cX⟩⟩
  ·refine⟨_,_,mN,ξ,λwy cY=>?_⟩;have zz:=cX.size;have zy:=cY.size;have i9:=cY.OH iT ω;have jy:=cY.heap mO ω;rw[List.take_length] at cO;have pL:Wg G.g sz.label v=true:=YF.2 cO;refine OG$ qN O$ OY O (QP UH O O O i9 ξ) ?_;rintro wx ⟨oW,ij⟩;have AA:=ij.heap jy ω;have dK:Kp (λk=>k=w3.heap.size) wx (Ro [.mk w3.heap.size] wx):=Q8 wx w3.heap.size (.deferred none);have iU:=dK.OH oW ω;have bL:Kp (λk=>k=l\/k=b6\/k=w3.heap.size) wz (Ro [.mk w3.heap.size] wx):=((cY.ON λj e=> .inl e).trans (ij.ON λj e=> .inr (.inl e))).trans (dK.ON λj e=> .inr (.inr e));refine OJ$ Tf ξ (Tv AA) func98 (.cell1 U4 O O ((iU).cell _) .nil) ?_;rw[pL];exact⟨_,rfl,rfl,(hz.own bL (λj e=>⟨by rcases e with rfl|rfl|rfl;exact aH _ aq.2.2.2.2;exact aH _ aq.2.1;exact aH _ aq.2.2.2.1,cg j ω⟩)).less (λj hj=>aH j (cZ j hj)) h.xk h.xr,cX.trans (bL.ON λj e e2=>by have:=aQ j e2;omega)⟩
  ·refine⟨_,_,mN,ξ,λwy cY=>?_⟩;have zz:=cX.size;have zy:=cY.size;have i9:=cY.OH iT ω;have jy:=cY.heap mO ω;obtain⟨u,kw,lq,Na⟩:=vV
   have pL:Wg G.g sz.label v=false:=by
    cases e:Wg G.g sz.label v with
    |false=>rfl
    |true=>exact absurd (YF.1 e u kw lq) Na
   have dK:Kp (λk=>k=w3.heap.size) wy (Ro [.mk w3.heap.size] wy):=Q8 wy w3.heap.size (.deferred none);have iU:=dK.OH i9 ω;have bL:Kp (λk=>k=l\/k=b6\/k=w3.heap.size) wz (Ro [.mk w3.heap.size] wy):=(cY.ON λj e=> .inl e).trans (dK.ON λj e=> .inr (.inr e));refine Tf ξ (Tv jy) func98 (.cell1 U4 O O ((iU).cell _) .nil) ?_;rw[pL];exact⟨_,rfl,rfl,(hz.own bL (λj e=>⟨by rcases e with rfl|rfl|rfl;exact aH _ aq.2.2.2.2;exact aH _ aq.2.1;exact aH _ aq.2.2.2.1,cg j ω⟩)).less (λj hj=>aH j (cZ j hj)) h.xk h.xr,cX.trans (bL.ON λj e e2=>by have:=aQ j e2;omega)⟩
end
def ZQ (g t:List (List Nat))(ph:Nat)(s:Sk)(v:Nat):Sk×Bool:=
 if ph=0 then({s with label:=(trV g t (s.label,false) v).1},(trV g t (s.label,false) v).2)
 else if ph=1 then({s with OW:=(coV g s.label (s.OW,false) v).1},(coV g s.label (s.OW,false) v).2)
 else({s with mark:=(bkV g s.label s.OW (s.mark,false) v).1},(bkV g s.label s.OW (s.mark,false) v).2)
def rtS (ph:Nat)(s:Sk)(v:Nat):Sk:=
 if ph=0 then {s with OW:=s.OW.set v v}
 else if ph=1 then(if s.OW.getD v 0=v then {s with mark:=s.mark.set v 1} else s)
 else(if s.mark.getD v 0=1 then {s with label:=s.label.set v (s.OW.getD v 0)} else s)
section
variable {G T:GwP}{w w':World}{sw:Bool}{Q:Rg}{txt txt':Int->OO}{K K' ok:Nat}{X O_:Nat->Prop}{rr a L vl vc vm bx v:Nat}{s s':Sk}{ys:List Nat}
abbrev Vm (G T:GwP)(X:Nat->Prop):Nat->Prop:=λb=>(X b\/b=T.rb)\/b=G.rb
theorem Qt.put (h:Qt (Sx sw ok) G T Q txt K X rr O_ a L s w)(hK:K'<1000000000000)(hk:Kp (λb=>¬Vm G T X b) w w')(hP:Sp Q txt' K' (Vm G T X) w')(hy:∀y:Int,y<(a:Int)\/(a:Int)+(L:Int)<=y->txt' y=txt y)(hv:Vu sw Q txt' G.k ok rr O_ a L s' vl vc vm w'):Qt (Sx sw ok) G T Q txt' K' X rr O_ a L s' w':=
 h.Zb hK hk (λb e=> .inl e) hP hy ⟨vl,vc,vm,hv⟩
def Qt.z6S (h:Qt (Sx sw ok) G T Q txt K X rr O_ a L s w)(hV:Vu sw Q txt G.k ok rr O_ a L s vl vc vm w)(hl:ys.length=s.label.length)(hK:K'<1000000000000)(hW:VcW Q txt K' (Vm G T X) vl 4 a ys w w'):∃txt',Qt (Sx sw ok) G T Q txt' K' X rr O_ a L {s with label:=ys} w'/\(∀y:Int,y<(a:Int)\/(a:Int)+(L:Int)<=y->txt' y=txt y)/\Kp (λb=>¬Vm G T X b) w w':=by
 obtain⟨txt',hP,hv,hy,hk⟩:=hW
 have AB:=hV.zkx hk (λb hb e=>e (.inl (.inl (h.xr b hb)))) hv hl hy
 have hL:=hV.L
 have hn:=hV.n
 have sP:∀y:Int,y<(a:Int)\/(a:Int)+(L:Int)<=y->txt' y=txt y:=λy e=>hy y (by rw[RR ω];omega)
 exact⟨txt',h.put hK hk hP sP AB,sP,hk⟩
def Qt.zay (h:Qt (Sx sw ok) G T Q txt K X rr O_ a L s w)(hV:Vu sw Q txt G.k ok rr O_ a L s vl vc vm w)(hl:ys.length=s.OW.length)(hK:K'<1000000000000)(hW:VcW Q txt K' (Vm G T X) vc 4 (a+1) ys w w'):∃txt',Qt (Sx sw ok) G T Q txt' K' X rr O_ a L {s with OW:=ys} w'/\(∀y:Int,y<(a:Int)\/(a:Int)+(L:Int)<=y->txt' y=txt y)/\Kp (λb=>¬Vm G T X b) w w':=by
 obtain⟨txt',hP,hv,hy,hk⟩:=hW
 have AB:=hV.zjL hk (λb hb e=>e (.inl (.inl (h.xr b hb)))) hv hl hy
 have hL:=hV.L
 have hn:=hV.n
 have sP:∀y:Int,y<(a:Int)\/(a:Int)+(L:Int)<=y->txt' y=txt y:=λy e=>hy y (by rw[RR ω];omega)
 exact⟨txt',h.put hK hk hP sP AB,sP,hk⟩
def Qt.z74 (h:Qt (Sx sw ok) G T Q txt K X rr O_ a L s w)(hV:Vu sw Q txt G.k ok rr O_ a L s vl vc vm w)(hl:ys.length=s.mark.length)(hK:K'<1000000000000)(hW:VcW Q txt K' (Vm G T X) vm 1 (a+2) ys w w'):∃txt',Qt (Sx sw ok) G T Q txt' K' X rr O_ a L {s with mark:=ys} w'/\(∀y:Int,y<(a:Int)\/(a:Int)+(L:Int)<=y->txt' y=txt y)/\Kp (λb=>¬Vm G T X b) w w':=by
 obtain⟨txt',hP,hv,hy,hk⟩:=hW
 have AB:=hV.zk9 hk (λb hb e=>e (.inl (.inl (h.xr b hb)))) hv hl hy
 have hL:=hV.L
 have hn:=hV.n
 have sP:∀y:Int,y<(a:Int)\/(a:Int)+(L:Int)<=y->txt' y=txt y:=λy e=>hy y (by rw[Xe ω];omega)
 exact⟨txt',h.put hK hk hP sP AB,sP,hk⟩
structure ScW (G T:GwP)(Q:Rg)(txt:Int->OO)(K:Nat)(X:Nat->Prop)(rr:Nat)(O_:Nat->Prop)(a L n:Nat)(s:Sk)(w w':World):Prop where
 ex:∃txt' K',Qt (Sx false T.k) G T Q txt' K' X rr O_ a L s w'/\K'<=K+n/\∀y:Int,y<(a:Int)\/(a:Int)+(L:Int)<=y->txt' y=txt y
 k:Kp (λb=>¬X b) w w'
def ScW.of {n:Nat}(h:Qt (Sx false T.k) G T Q txt' K' X rr O_ a L s w')(hK:K'<=K+n)(hy:∀y:Int,y<(a:Int)\/(a:Int)+(L:Int)<=y->txt' y=txt y)(hk:Kp (λb=>¬X b) w w'):ScW G T Q txt K X rr O_ a L n s w w':=⟨⟨txt',K',h,hK,hy⟩,hk⟩
theorem Qt.cells (h:Vu false Q txt G.k ok rr O_ a L s vl vc vm w):OU w rr [ptr G.k 0,ptr ok 0,ptr vl 0,ptr vc 0,ptr vm 0,I (s.steps:Int),I (s.phase:Int),.bool s.done,.bool false] 86:=h.run
theorem z6b (h:Qt (Sx false T.k) G T Q txt K X rr O_ a L s w)(hI:UP G.g s)(ht:T.g.length=G.g.length)(hK:K<=900000000000)(hb:OU w bx [ptr rr 0] 43)(cP:X bx)(hv:v<G.g.length)(iS:R5 s.label v):Ps prog 97 [I (v:Int),ptr bx 0] w λr w'=>r= .bool (ZQ G.g T.g 0 s v).2/\ScW G T Q txt K X rr O_ a L 1 (ZQ G.g T.g 0 s v).1 w w':=by
 have ez:=h.m.n
 obtain⟨vl,vc,vm,hV⟩:=h.sc
 have hR:=Qt.cells hV
 have hg:=Ext.Pa w
 have pq:=h.ext hg
 have GM:=ZN pq hv hI.ln
 have gI:=h.xr _ hV.o.1
 have ni:ZQ G.g T.g 0 s v=({s with label:=(trV G.g T.g (s.label,false) v).1},(trV G.g T.g (s.label,false) v).2):=rfl
 have gK:∀{w1:World} {txt1:Int->OO} {K1:Nat},Qt (Sx false T.k) G T Q txt1 K1 X rr O_ a L s w1->K1<=900000000000->(Wg G.g s.label v=true\/Wg T.g s.label v=true)->ZQ G.g T.g 0 s v=({s with label:=s.label.set v v},true):=λ_ _ e=>by
  rw[ni];unfold trV;rw[if_pos ⟨iS,e⟩]
 refine py (e:=[(0,_),(1,_)]) func97 O ntmps97 O O$ QN O$ An$ PI (λe' w'=>e'=[(0,I (v:Int)),(1,ptr bx 0)]/\Qt (Sx false T.k) G T Q txt K X rr O_ a L s w'/\Kp (λb=>¬X b) w w'/\(Wg G.g s.label v=true\/Wg T.g s.label v=true)) ?bH$ λbH=>?da
 case bH=>
  rintro e' w2 ⟨rfl,h2,am,pL⟩;obtain⟨vl2,vc2,vm2,kZ⟩:=h2.sc;have dg:=Qt.cells kZ;have bN:=am.OH hb (λe=>e cP);have BB:=hI.ln;rw[gK h2 hK pL];refine qN O$ qV ((OS Xi O O bN O))$ Pw O$ P4 VT O$ qV ((OS Zj O O dg O))$ Pl O$ qV ((Qg O U3 Rw ω))$ Pb z9h O (Ul h2.sp h2.lt h2.m.g.VB kZ.Zg (.inl (.inl (h2.xr _ kZ.o.2.1))) (i:=v) (x:=v) ω (by show v<2^32;omega)) ?_;rintro _ w3 ⟨rfl,hW⟩;obtain⟨txt3,h3,lS,av⟩:=h2.z6S kZ (List.length_set ..) ω hW;refine Pb z2X O (Sy _) ?_;rintro _ w3 rfl;refine qM O$ P3 O$ OI func97 O ?_;exact⟨_,rfl,rfl,.of h3 (Nat.le_refl _) lS (am.trans (av.ON λb e e2=>e (.inl (.inl e2))))⟩
 case da=>
  refine An$ R0 (λw'=>Kp (λb=>¬X b) w w') O$ qT 0 O (λ_ hS=>(OS Xi O O (hS.OH hb (λe=>e cP)) O)) (hg.kp)$ qT 1 O (λ_ hS=>(OS Xi O O (hS.OH hb (λe=>e cP)) O)) (hg.kp)$ OM 2 O (Qd O) (hg.kp)$ OM 3 O (Px XL O) (hg.kp)$ qT 4 O (λ_ hS=>(OS Z8 O O (hS.OH hR (λe=>e gI)) O)) (hg.kp)$ P8 5 O O (hg.kp)$ S1 6 O zhY O (GM) ?_;rintro _ w1 ⟨rfl,h1,az⟩;refine⟨hg.kp.trans az,?_⟩;by_cases e1:Wg G.g s.label v=true
  ·rw[e1];refine OM 7 O ((S5 O)) (hg.kp.trans az) ?_;rw[show(!true)=false from rfl];refine P8 8 O O (hg.kp.trans az)$ qJ 9 O (hg.kp.trans az)$ qJ 10 O (hg.kp.trans az)$ qJ 11 O (hg.kp.trans az)$ qJ 12 O (hg.kp.trans az)$ qJ 13 O (hg.kp.trans az)$ qJ 14 O (hg.kp.trans az)$ qJ 15 O (hg.kp.trans az)$ qJ 16 O (hg.kp.trans az)$ OM 17 O (U6 O O) (hg.kp.trans az)$ qE$ SO O ?_;exact(bH _ _ ⟨rfl,h1,hg.kp.trans az,.inl e1⟩).qb
  ·have e1':Wg G.g s.label v=false:=by simpa using e1
   rw[e1'];have dx:=hg.kp.trans az;have Nb:v<T.g.length:=by omega
   have wI:T.g.length<=40:=by omega
   have Cu:Qt (Sx true G.k) T G Q txt K X rr O_ a L s w1:=h1.swap wI;have Ge:s.label.length=T.g.length:=by rw[ht];exact hI.ln
   have GN:=ZN Cu Nb Ge;refine OM 7 O ((S5 O)) (hg.kp.trans az) ?_;rw[show(!false)=true from rfl];refine P8 8 O O (hg.kp.trans az)$ qT 9 O (λ_ hS=>(OS Xi O O (hS.OH hb (λe=>e cP)) O)) (hg.kp.trans az)$ qT 10 O (λ_ hS=>(OS Xi O O (hS.OH hb (λe=>e cP)) O)) (hg.kp.trans az)$ OM 11 O (Qd O) (hg.kp.trans az)$ OM 12 O (Px zeX O) (hg.kp.trans az)$ qT 13 O (λ_ hS=>(OS Z8 O O (hS.OH hR (λe=>e gI)) O)) (hg.kp.trans az)$ P8 14 O O (hg.kp.trans az)$ S1 15 O zhY O (GN) ?_;rintro _ w2 ⟨rfl,Nc,am⟩;refine⟨dx.trans am,?_⟩;have h2:Qt (Sx false T.k) G T Q txt K X rr O_ a L s w2:=Nc.swap ez;have dF:=dx.trans am;by_cases e2:Wg T.g s.label v=true
   ·rw[e2];refine OM 16 O ((S5 O)) (dx.trans am)$ OM 17 O (UG O O) (dx.trans am)$ qE ?_;rw[show(!true)=false from rfl];refine SO O ?_;exact(bH _ _ ⟨rfl,h2,dF,.inr e2⟩).qb
   ·have e2':Wg T.g s.label v=false:=by simpa using e2
    rw[e2'];refine OM 16 O ((S5 O)) (dx.trans am)$ OM 17 O (UG O O) (dx.trans am)$ qE ?_;rw[show(!false)=true from rfl]
    have db:ZQ G.g T.g 0 s v=(s,false):=by
     rw[ni];unfold trV;rw[if_neg (λe=>e.2.elim e1 e2)]
    rw[db];refine OZ O$ QN O$ OI func97 O ?_;exact⟨_,rfl,rfl,.of h2 (Nat.le_add_right _ _) (λ_ _=>rfl) dF⟩
theorem z4I (h:Qt (Sx false T.k) G T Q txt K X rr O_ a L s w)(hI:UP G.g s)(hK:K<=900000000000)(hb:OU w bx [ptr rr 0] 43)(cP:X bx)(hv:v<G.g.length):Ps prog 100 [I (v:Int),ptr bx 0] w λ_ w'=>ScW G T Q txt K X rr O_ a L 1 (rtS 0 s v) w w':=by
 have ez:=h.m.n
 have C2:=hI.cn
 obtain⟨vl,vc,vm,hV⟩:=h.sc
 have hR:=Qt.cells hV
 refine py (e:=[(0,_),(1,_)]) func100 O ntmps100 O O$ OQ O$ qV ((OS Xi O O hb O))$ Pw O$ P4 Ve O$ qV ((OS Zj O O hR O))$ Pl O$ qV ((Qg O U3 Rw ω))$ Pb z9h O (Ul h.sp h.lt h.m.g.VB hV.col (.inl (.inl (h.xr _ hV.o.2.2.1))) (i:=v) (x:=v) ω (by show v<2^32;omega)) ?_
 rintro _ w3 ⟨rfl,hW⟩
 obtain⟨txt3,h3,lS,av⟩:=h.zay hV (List.length_set ..) ω hW
 refine Pb z2X O (Sy _) ?_
 rintro _ w3 rfl
 refine OJ$ Qh func100 O ?_
 exact⟨_,rfl,.of h3 (Nat.le_refl _) lS (av.ON λb e e2=>e (.inl (.inl e2)))⟩
theorem z5t (h:Qt (Sx false T.k) G T Q txt K X rr O_ a L s w)(hI:UP G.g s)(hK:K<=900000000000)(hb:OU w bx [ptr rr 0] 43)(cP:X bx)(hv:v<G.g.length):Ps prog 104 [I (v:Int),ptr bx 0] w λ_ w'=>ScW G T Q txt K X rr O_ a L 1 (rtS 1 s v) w w':=by
 have ez:=h.m.n
 have C2:=hI.cn
 have BM:=hI.mn
 obtain⟨vl,vc,vm,hV⟩:=h.sc
 have hR:=Qt.cells hV
 have gI:=h.xr _ hV.o.1
 obtain⟨x,hx⟩:∃x,s.OW[v]? =some x:=⟨_,List.getElem?_eq_getElem ω⟩
 have yF:rtS 1 s v=if x=v then {s with mark:=s.mark.set v 1} else s:=by
  unfold rtS;rw[if_neg ψ,if_pos O,Tt hx]
 rw[yF]
 refine py (e:=[(0,_),(1,_)]) func104 O ntmps104 O O$ qN O$ qV ((OS Xi O O hb O))$ Pw O$ P4 Ve O$ qV ((OS Zj O O hR O))$ OT O$ Pb XD O (Sb h.sp h.lt h.m.g.VB hV.col (.inl (.inl (h.xr _ hV.o.2.2.1))) hx) ?_
 rintro _ w1 ⟨rfl,ik,az⟩
 have h1:=h.read az ik
 have bK:=az.OH hb (λe=>e (.inl (.inl cP)))
 refine OT O$ qV ((Qg O U3 Rw ω)) ?_
 by_cases e:x=v
 ·rw[if_pos e];refine Rk O$ RP ?_;obtain⟨vl1,vc1,vm1,nu⟩:=h1.sc;have io:=Qt.cells nu;refine OJ$ OZ O$ OQ O$ qV ((OS Xi O O bK O))$ Pw O$ P4 WC O$ qV ((OS Zj O O io O))$ OT O$ Pb z9h O (Ul h1.sp h1.lt h1.m.g.VB nu.mar (.inl (.inl (h1.xr _ nu.o.2.2.2))) (i:=v) (x:=1) ω ψ) ?_;rintro _ w3 ⟨rfl,hW⟩;obtain⟨txt3,h3,lS,av⟩:=h1.z74 nu (List.length_set ..) ω hW;refine Pb z2X O (Sy _) ?_;rintro _ w3 rfl;refine OJ$ Qh func104 O ?_;exact⟨_,rfl,.of h3 (Nat.le_refl _) lS ((az.trans av).ON λb e e2=>e (.inl (.inl e2)))⟩
 ·rw[if_neg e];refine Rk O$ PO$ Qm O$ Qh func104 O ?_;exact⟨_,rfl,.of h1 (Nat.le_add_right _ _) (λ_ _=>rfl) (az.ON λb e e2=>e (.inl (.inl e2)))⟩
theorem z5i (h:Qt (Sx false T.k) G T Q txt K X rr O_ a L s w)(hI:UP G.g s)(hK:K<=900000000000)(hb:OU w bx [ptr rr 0] 43)(cP:X bx)(hv:v<G.g.length):Ps prog 106 [I (v:Int),ptr bx 0] w λ_ w'=>ScW G T Q txt K X rr O_ a L 1 (rtS 2 s v) w w':=by
 have ez:=h.m.n
 have C2:=hI.cn
 have BM:=hI.mn
 have BB:=hI.ln
 obtain⟨vl,vc,vm,hV⟩:=h.sc
 have hR:=Qt.cells hV
 have gI:=h.xr _ hV.o.1
 obtain⟨x,hx⟩:∃x,s.OW[v]? =some x:=⟨_,List.getElem?_eq_getElem ω⟩
 obtain⟨y,hy⟩:∃y,s.mark[v]? =some y:=⟨_,List.getElem?_eq_getElem ω⟩
 have xz:=hI.cb x (List.mem_of_getElem? hx)
 have yF:rtS 2 s v=if y=1 then {s with label:=s.label.set v x} else s:=by
  unfold rtS;rw[if_neg ψ,if_neg ψ,Tt hx,Tt hy]
 rw[yF]
 refine py (e:=[(0,_),(1,_)]) func106 O ntmps106 O O$ qN O$ qV ((OS Xi O O hb O))$ Pw O$ P4 WC O$ qV ((OS Zj O O hR O))$ OT O$ Pb XD O (Sb h.sp h.lt h.m.g.VB hV.mar (.inl (.inl (h.xr _ hV.o.2.2.2))) hy) ?_
 rintro _ w1 ⟨rfl,ik,az⟩
 have h1:=h.read az ik
 have bK:=az.OH hb (λe=>e (.inl (.inl cP)))
 by_cases e:y=1
 ·rw[if_pos e];refine Rk O$ RP ?_;obtain⟨vl1,vc1,vm1,nu⟩:=h1.sc;have io:=Qt.cells nu;have hg:=Ext.Pa w1;have AC:=h1.xr _ nu.o.1;have hn:∀j,X j->¬¬Vm G T X j:=λj hj e=>e (.inl (.inl hj));have pq:=h1.ext hg;have kZ:Vu false Q txt G.k T.k rr O_ a L s vl1 vc1 vm1 w1.drew:=nu.kp (S:=λ_=>False) hg.kp (λ_ _ e=>e);refine OJ$ OZ O$ R0 (λw'=>Kp (λb=>¬Vm G T X b) w1 w') O$ qT 0 O (λ_ hS=>(OS Xi O O (hS.OH bK (hn _ cP)) O)) (hg.kp)$ OM 1 O (Qd O) (hg.kp)$ OM 2 O (Px VT O) (hg.kp)$ qT 3 O (λ_ hS=>(OS Zj O O (hS.OH io (hn _ AC)) O)) (hg.kp)$ P8 4 O O (hg.kp)$ qT 5 O (λ_ hS=>(OS Xi O O (hS.OH bK (hn _ cP)) O)) (hg.kp)$ OM 6 O (Qd O) (hg.kp)$ OM 7 O (Px Ve O) (hg.kp)$ qT 8 O (λ_ hS=>(OS Zj O O (hS.OH io (hn _ AC)) O)) (hg.kp)$ P8 9 O O (hg.kp)$ S1 10 O XD O (Sb pq.sp pq.lt pq.m.g.VB kZ.col (.inl (.inl (pq.xr _ kZ.o.2.2.1))) hx) ?_;rintro _ w2 ⟨rfl,f7,am⟩;refine⟨hg.kp.trans am,?_⟩;have h2:=pq.read am f7;have vh:Vu false Q txt G.k T.k rr O_ a L s vl1 vc1 vm1 w2:=kZ.kp am (λb e e2=>e2 (.inl (.inl (h.xr b e))));refine S1 11 O z9h O (Ul h2.sp h2.lt h2.m.g.VB vh.Zg (.inl (.inl (h2.xr _ vh.o.2.1))) (i:=v) (x:=x) ω (by show x<2^32;omega)) ?_;rintro _ w3 ⟨rfl,hW⟩;refine⟨(hg.kp.trans am).trans (by obtain⟨_,_,_,_,hk⟩:=hW;exact hk),?_⟩;obtain⟨txt3,h3,lS,av⟩:=h2.z6S vh (List.length_set ..) ω hW;refine S1 12 O z2X O (Sy _) ?_;rintro _ w3 rfl;refine⟨(hg.kp.trans am).trans av,?_⟩;refine qE$ Qh func106 O ?_;exact⟨_,rfl,.of h3 (Nat.le_refl _) lS (((az.trans (hg.kp.trans am)).trans av).ON λb e e2=>e (.inl (.inl e2)))⟩
 ·rw[if_neg e];refine Rk O$ PO$ Qm O$ Qh func106 O ?_;exact⟨_,rfl,.of h1 (Nat.le_add_right _ _) (λ_ _=>rfl) (az.ON λb e e2=>e (.inl (.inl e2)))⟩
end
section
variable {G T:GwP}{w w':World}{Q:Rg}{txt txt':Int->OO}{K K' ok:Nat}{X Y O_:Nat->Prop}{rr a L vl vc vm bx v:Nat}{s s':Sk}
def zaF {g:List (List Nat)}(h:∀{l:List Nat},l∈g->l.length<=g.length){v:Nat}(hv:v<g.length):(P5 g v).length<=g.length:=
 by
 unfold P5
 rw[List.getElem?_eq_getElem hv]
 exact h (List.getElem_mem hv)
def coA (g:List (List Nat))(s:Sk)(v i:Nat):List Nat×Bool:=((P5 g v).take i).foldl (Xw s.label v) (s.OW,false)
theorem z3R {g:List (List Nat)}{u i:Nat}(h:(P5 g v)[i]? =some u):coA g s v (i+1)=Xw s.label v (coA g s v i) u:=by
 unfold coA
 rw[PK h,List.foldl_append]
 rfl
def zeF {g:List (List Nat)}{i:Nat}(h:∀x∈s.OW,x<4294967296):(∀x∈(coA g s v i).1,x<4294967296)/\(coA g s v i).1.length=s.OW.length:=z0t h
theorem z3t (h:Qt (Sx false T.k) G T Q txt K X rr O_ a L s w)(hI:UP G.g s)(hK:K<=900000000000)(hb:OU w bx [ptr rr 0] 43)(cP:X bx/\¬O_ bx)(hv:v<G.g.length)(iS:R5 s.label v):Ps prog 101 [I (v:Int),ptr bx 0] w λr w'=>r= .bool (ZQ G.g T.g 1 s v).2/\ScW G T Q txt K X rr O_ a L 40 (ZQ G.g T.g 1 s v).1 w w':=by
 have aQ:∀b,X b->b<w.heap.size:=λb hb=>h.lt b (.inl (.inl hb))
 have cg:=h.far
 obtain⟨n1,n2,n3⟩:=h.ng
 have pR:=h.lt T.rb (.inl (.inr O))
 have ez:=h.m.n
 have C2:=hI.cn
 have fL:=zaF h.m.g.ok.gr.len hv
 obtain⟨vl,vc,vm,hV⟩:=h.sc
 have hR:=Qt.cells hV
 have gI:=h.xr _ hV.o.1
 have ni:ZQ G.g T.g 1 s v=({s with OW:=(coA G.g s v (P5 G.g v).length).1},(coA G.g s v (P5 G.g v).length).2):=by
  unfold ZQ coA coV;rw[if_neg ψ,if_pos O,if_pos iS,List.take_length]
 rw[ni]
 refine py (e:=[(0,_),(1,_)]) func101 O ntmps101 O O$ qN O$ OP O O (R6 O (cs:=[I (v:Int)]) O) ?_
 rintro _ w1 ⟨b2,rfl,bN,ad,ai⟩
 refine OP O O (Rz (cs:=[_]) UH O) ?_
 rintro _ w2 ⟨b3,rfl,dI,ae,ak⟩
 have aW:=ae.OH ai
 have aF:=ad.trans ae
 have jG:=aF.OH hb
 have dg:=aF.OH hR
 have z1:=ad.size
 have z2:=ae.size
 have l1:=ai.lt
 have l2:=ak.lt
 have hg:=Ext.Pa w2
 refine OJ$ An$ An$ R0 (λw'=>Kp (λ_=>False) w2 w') O$ qT 0 O (λ_ h=>(OS Xi O O (h.OH jG id) O)) (hg.kp)$ qT 1 O (λ_ h=>(OS Xi O O (h.OH jG id) O)) (hg.kp)$ OM 2 O (Qd O) (hg.kp)$ OM 3 O (Px XL O) (hg.kp)$ qT 4 O (λ_ h=>(OS Z8 O O (h.OH dg id) O)) (hg.kp)$ qT 5 O (λ_ h=>(OS U3 O O (h.OH aW id) O)) (hg.kp)$ S1 6 O zaS O (Y3 G.k v _) ?_
 rintro _ w3 ⟨c3,c4,c5,rfl,sO,Az,vg,nn,lR,Jg,AD⟩
 refine⟨hg.kp.trans AD.kp,?_⟩
 have ah:=hg.trans AD
 have z3:=ah.size
 have l3:=sO.lt
 have Nd:=hg.size
 have bX:=ah.OH aW
 have bE:=ah.OH ak
 replace bE:OU w3 b3 [.bool false] 4:=bE
 refine qE$ OL$ RI (ps:=[13]) (p:=[]) (q:=[_,_,_]) O zb3 ?_
 rintro l wl cE eK cD hD Rc bJ du
 have zl:=cE.size
 have jF:=(aF.trans ah).trans cE
 obtain⟨X1,dl⟩:∃X1:Nat->Prop,(λj=>X j\/j=b2\/j=b3\/j=c3\/j=w3.heap.size\/j=l)=X1:=⟨_,rfl⟩
 have cZ:∀j,X j->X1 j:=λj hj=>by rw[<-dl];exact .inl hj
 have aq:X1 b2/\X1 b3/\X1 c3/\X1 w3.heap.size/\X1 l:=by rw[<-dl];exact⟨.inr (.inl O),.inr (.inr (.inl O)),.inr (.inr (.inr (.inl O))),.inr (.inr (.inr (.inr (.inl O)))),.inr (.inr (.inr (.inr (.inr O))))⟩
 have rp:Qt (Sx false T.k) G T Q txt K X1 rr O_ a L s wl:=h.grow jF (λj hj=>by rw[<-dl] at hj;exact hj.imp id λe=>by omega) cZ
 have db:∀j,w.heap.size<=j->¬O_ j:=λj hj=>(cg j hj).2.2.2.2.2.2
 have vP:=aQ _ cP.1
 refine Ps.mono (Zk hv hI.ln rp (cE.OH Az) (cE.OH vg) (cE.OH sO) aq.2.2.1 (λj=>j=l\/j=b3) (λj hj=>by
   rcases hj with rfl|rfl
   ·exact⟨aq.2.2.2.2,ω,db _ ω⟩
   ·exact⟨aq.2.1,ω,db _ ω⟩)
  (λi txt' K' s' w'=>Rc .ready none w'/\s'={s with OW:=(coA G.g s v i).1}/\K'<=K+i/\(∀y:Int,y<(a:Int)\/(a:Int)+(L:Int)<=y->txt' y=txt y)/\w'.heap[w3.heap.size]? =some (.deferred (some []))/\OU w' b2 [I (v:Int)] 3/\OU w' b3 [.bool (coA G.g s v i).2] 4/\OU w' bx [ptr rr 0] 43/\Kp (λb=>¬X b) w w')
  (λtxt' K' s' w'=>False)
  ?_ ?_ ?_ ?_ ?_) ?_
 ·rintro i txt' K' s' w7 w8 ⟨e1,e2,e3,e4,e6,e7,e8,e9,e10⟩ hz hk;exact⟨hk.rc bJ e1 (λe=>e aq.2.2.2.2),e2,e3,e4,hk.heap e6 (λe=>e aq.2.2.2.1),hk.OH e7 (λe=>e aq.1),hk.OH e8 (λe=>e aq.2.1),hk.OH e9 (λe=>e (cZ _ cP.1)),e10.trans (hk.ON λb e e2=>e (cZ _ e2))⟩
 ·rintro txt' K' s' w7 w8 e;exact e.elim
 ·intro w7 hz hk;have cN:=cE.kp.trans hk;have dN:Kp (λb=>¬X1 b) w w7:=jF.kp.trans hk;exact⟨hk.rc bJ du (λe=>e aq.2.2.2.2),rfl,Nat.le_refl _,λ_ _=>rfl,hk.heap hD (λe=>e aq.2.2.2.1),cN.OH bX (λe=>e aq.1),cN.OH bE (λe=>e aq.2.1),dN.OH hb (λe=>e (cZ _ cP.1)),dN.ON λb e e2=>e (cZ _ e2)⟩
 ·rintro i u txt' K' s' w7 hs iy ⟨e1,e2,e3,e4,e6,e7,e8,e9,e10⟩
  have bQ:coA G.g s v (i+1)=coA G.g s v i:=by
   rw[z3R hs];unfold Xw;rw[if_neg (λe=>iy e.1)]
  rw[bQ];exact⟨e1,e2,ω,e4,e6,e7,e8,e9,e10⟩
 ·rintro Y i u txt' K' s' w7 aH kW z7 hs iS i8 h7 ⟨oU,rfl,Ow,BO,vf,fj,gZ,kR,dN⟩;have gJ:Y l/\Y b3:=⟨aH _ aq.2.2.2.2,aH _ aq.2.1⟩;have iV:∀j,X j->Y j:=λj hj=>aH j (cZ j hj);obtain⟨BG,fF⟩:=zeF (g:=G.g) (v:=v) (i:=i) hI.cb;obtain⟨dq,-⟩:=List.getElem?_eq_some_iff.1 hs
  have sJ:u<G.g.length:=by
   have:=hI.ln;have:=RK iS;omega
  obtain⟨x,hx⟩:∃x,(coA G.g s v i).1[v]? =some x:=⟨_,List.getElem?_eq_getElem ω⟩;obtain⟨y,hy⟩:∃y,(coA G.g s v i).1[u]? =some y:=⟨_,List.getElem?_eq_getElem ω⟩;have xz:=BG x (List.mem_of_getElem? hx)
  have eN:coA G.g s v (i+1)=if x<y then((coA G.g s v i).1.set u x,true) else coA G.g s v i:=by
   rw[z3R hs];unfold Xw;rw[Tt hx,Tt hy];by_cases e:x<y
   ·rw[if_pos ⟨iS,e⟩,if_pos e]
   ·rw[if_neg (λe2=>e e2.2),if_neg e]
  refine Si bJ oU O O$ OQ O$ P3 O$ run_beginRound O bJ oU ?_;rintro w8 pO aL;have h8:=h7.own aL (λj e=>by subst e;exact⟨gJ.1,cg _ ω⟩);have gP:=aL.OH fj ω;have dZ:=aL.OH gZ ω;have i4:=aL.OH kR ω;have sL:=aL.heap vf ω;have z8:=aL.size;obtain⟨vl8,vc8,vm8,vp⟩:=h8.sc;have mW:=Qt.cells vp;have aP:=Ext.Pa w8;have mP:=h8.ext aP;have ld:Vu false Q txt' G.k T.k rr O_ a L {s with OW:=(coA G.g s v i).1} vl8 vc8 vm8 w8.drew:=vp.kp (S:=λ_=>False) aP.kp (λ_ _ e=>e);have dz:∀j,Y j->¬¬Vm G T Y j:=λj hj e=>e (.inl (.inl hj));have pS:=iV _ cP.1;have wS:=iV _ (h.xr _ vp.o.1);refine OL$ An$ R0 (λw'=>Kp (λb=>¬Vm G T Y b) w8 w') O$ qT 0 O (λ_ hS=>(OS Xi O O (hS.OH i4 (dz _ pS)) O)) (aP.kp)$ OM 1 O (Qd O) (aP.kp)$ OM 2 O (Px Ve O) (aP.kp)$ qT 3 O (λ_ hS=>(OS Zj O O (hS.OH mW (dz _ wS)) O)) (aP.kp)$ qT 4 O (λ_ hS=>(OS U3 O O (hS.OH gP (dz _ (aH _ aq.1))) O)) (aP.kp)$ S1 5 O XD O (Sb mP.sp mP.lt mP.m.g.VB ld.col (.inl (.inl (mP.xr _ ld.o.2.2.1))) hx) ?_;rintro _ w9 ⟨rfl,pQ,aw⟩;refine⟨aP.kp.trans aw,?_⟩;have h9:=mP.read aw pQ;have oX:Vu false Q txt' G.k T.k rr O_ a L {s with OW:=(coA G.g s v i).1} vl8 vc8 vm8 w9:=ld.kp aw (λb e e2=>e2 (.inl (.inl (mP.xr b e))));have i6:=aP.kp.trans aw;have pp:=Qt.cells oX;have oF:=i6.OH i4 (dz _ pS);refine OM 6 O (Rv O) (aP.kp.trans aw)$ qE$ qN O$ qV ((OS Xi O O oF O))$ Pw O$ P4 Ve O$ qV ((OS Zj O O pp O))$ OT O$ Pb XD O (Sb h9.sp h9.lt h9.m.g.VB oX.col (.inl (.inl (h9.xr _ oX.o.2.2.1))) hy) ?_;rintro _ wa ⟨rfl,Nf,bH⟩;have ha:=h9.read bH Nf;have nv:Vu false Q txt' G.k T.k rr O_ a L {s with OW:=(coA G.g s v i).1} vl8 vc8 vm8 wa:=oX.kp bH (λb e e2=>e2 (.inl (.inl (h9.xr b e))));have dV:=i6.trans bH;have AE:=Qt.cells nv;have jH:=dV.OH i4 (dz _ pS);have oY:=dV.OH dZ (dz _ gJ.2);have oZ:=dV.OH gP (dz _ (aH _ aq.1));have sN:=dV.heap sL (dz _ (aH _ aq.2.2.2.1));have sM:=dV.rc bJ pO (dz _ gJ.1);have za:=dV.size;have p8:Kp (λb=>¬X b) w wa:=(dN.trans (aL.ON λj e e2=>by have:=aQ j e2;omega)).trans (dV.ON λj e e2=>e (.inl (.inl (iV j e2))));have p9:Kp (λj=>(¬Y j/\j≠T.rb)\/(j=l\/j=b3)) w7 wa:=(aL.ON λj e=> .inr (.inl e)).trans (dV.ON λj e=> .inl ⟨λe2=>e (.inl (.inl e2)),λe2=>e (.inl (.inr e2))⟩);refine OT O ?_;by_cases exy:x<y
  ·rw[if_pos exy] at eN;refine QD O$ RP$ OJ$ Pu.qb (e:=[(1,_),(3,_),(4,_),(5,_),(27,_)]) ?_;refine OZ O$ qN O$ qV ((OS Xi O O jH O))$ Pw O$ P4 Ve O$ qV ((OS Zj O O AE O))$ Pl O$ Pb z9h O (Ul ha.sp ha.lt ha.m.g.VB nv.col (.inl (.inl (ha.xr _ nv.o.2.2.1))) (i:=u) (x:=x) (by show u<(coA G.g s v i).1.length;omega) (by show x<2^32;omega)) ?_;rintro _ wb ⟨rfl,hW⟩;obtain⟨txtb,gN,GO,aY⟩:=ha.zay nv (List.length_set ..) ω hW;refine Pb z2X O (Sy _) ?_;rintro _ wb rfl;have vw:=aY.OH oY (dz _ gJ.2);have GP:=aY.OH oZ (dz _ (aH _ aq.1));have vx:=aY.OH jH (dz _ pS);have GQ:=aY.heap sN (dz _ (aH _ aq.2.2.2.1));have kK:=aY.rc bJ sM (dz _ gJ.1);have zb:=aY.size;refine OJ$ OQ O$ OY O (QP UH O O O vw ξ) ?_;rintro wc ⟨vy,ao⟩;have GR:=ao.rc bJ kK ω;have GS:=ao.heap GQ ω;have GT:=ao.OH GP ω;have GU:=ao.OH vx ω;have zc:=ao.size;have hc:=gN.own ao (λj e=>by subst e;exact⟨gJ.2,cg _ ω⟩);refine OJ$ OG$ RF bJ GR ?_;intro wd kJ dj;rw[eN];refine⟨.inl ⟨rfl,txtb,K'+1,{s with OW:=(coA G.g s v i).1.set u x},rfl,hc.own dj (λj e=>by subst e;exact⟨gJ.1,cg _ ω⟩),kJ,rfl,ω,λy e=>(GO y e).trans (BO y e),dj.heap GS ω,dj.OH GT ω,dj.OH vy ω,dj.OH GU ω,((p8.trans (aY.ON λj e e2=>e (.inl (.inl (iV j e2))))).trans (ao.ON λj e e2=>by have:=aQ j e2;omega)).trans (dj.ON λj e e2=>by have:=aQ j e2;omega)⟩,((p9.trans (aY.ON λj e=> .inl ⟨λe2=>e (.inl (.inl e2)),λe2=>e (.inl (.inr e2))⟩)).trans (ao.ON λj e=> .inr (.inr e))).trans (dj.ON λj e=> .inr (.inl e))⟩
  ·rw[if_neg exy] at eN;refine QD O$ PO$ OJ$ Pu.qb (e:=[(1,_),(3,_),(4,_),(5,_),(27,_)]) ?_;refine SO O$ OG$ RF bJ sM ?_;intro wd kJ dj;rw[eN];refine⟨.inl ⟨rfl,txt',_,_,i8,ha.own dj (λj e=>by subst e;exact⟨gJ.1,cg _ ω⟩),kJ,rfl,ω,BO,dj.heap sN ω,dj.OH oZ ω,dj.OH oY ω,dj.OH jH ω,p8.trans (dj.ON λj e e2=>by have:=aQ j e2;omega)⟩,p9.trans (dj.ON λj e=> .inr (.inl e))⟩
 ·rintro v' wz ⟨rfl,Y,txtz,Kz,sz,aH,kW,il,hz,⟨mN,rfl,Ng,o5,mO,qU,iT,GV,cX⟩|e⟩
  ·refine⟨_,_,mN,ξ,λwy cY=>?_⟩;have zz:=cX.size;have zy:=cY.size;have i9:=cY.OH iT ω;have jy:=cY.heap mO ω;refine OG$ qN O$ qV (OS U4 O O i9 O)$ OY O (QP UH O O O i9 ξ) ?_;rintro wx ⟨oW,ij⟩;have AA:=ij.heap jy ω;have dK:Kp (λk=>k=w3.heap.size) wx (Ro [.mk w3.heap.size] wx):=Q8 wx w3.heap.size (.deferred none);have iU:=dK.OH oW ω;have bL:Kp (λk=>k=l\/k=b3\/k=w3.heap.size) wz (Ro [.mk w3.heap.size] wx):=((cY.ON λj e=> .inl e).trans (ij.ON λj e=> .inr (.inl e))).trans (dK.ON λj e=> .inr (.inr e));refine OJ$ Tf ξ (Tv AA) func101 (.cell1 U4 O O ((iU).cell _) .nil) ?_;exact⟨_,rfl,rfl,.of ((hz.own bL (λj e=>⟨by rcases e with rfl|rfl|rfl;exact aH _ aq.2.2.2.2;exact aH _ aq.2.1;exact aH _ aq.2.2.2.1,cg j ω⟩)).less (λj hj=>aH j (cZ j hj)) h.xk h.xr) ω o5 (cX.trans (bL.ON λj e e2=>by have:=aQ j e2;omega))⟩
  ·exact e.elim
end
section
variable {G T:GwP}{w w':World}{Q:Rg}{txt txt':Int->OO}{K K' ok:Nat}{X Y O_:Nat->Prop}{rr a L vl vc vm bx v:Nat}{s s':Sk}
theorem z5U (h:Qt (Sx false T.k) G T Q txt K X rr O_ a L s w)(hI:UP G.g s)(hK:K<=900000000000)(hb:OU w bx [ptr rr 0] 43)(cP:X bx/\¬O_ bx)(hv:v<G.g.length)(iS:R5 s.label v):Ps prog 105 [I (v:Int),ptr bx 0] w λr w'=>r= .bool (ZQ G.g T.g 2 s v).2/\ScW G T Q txt K X rr O_ a L 40 (ZQ G.g T.g 2 s v).1 w w':=by
 have aQ:∀b,X b->b<w.heap.size:=λb hb=>h.lt b (.inl (.inl hb))
 have cg:=h.far
 obtain⟨n1,n2,n3⟩:=h.ng
 have pR:=h.lt T.rb (.inl (.inr O))
 have ez:=h.m.n
 have C2:=hI.cn
 have BM:=hI.mn
 have fL:=zaF h.m.g.ok.gr.len hv
 obtain⟨vl,vc,vm,hV⟩:=h.sc
 have hR:=Qt.cells hV
 have gI:=h.xr _ hV.o.1
 obtain⟨m,hm⟩:∃m,s.mark[v]? =some m:=⟨_,List.getElem?_eq_getElem ω⟩
 obtain⟨x,hx⟩:∃x,s.OW[v]? =some x:=⟨_,List.getElem?_eq_getElem ω⟩
 have ni:ZQ G.g T.g 2 s v=if m=0/\(P5 G.g v).any (λu=>decide (bkC s.label s.OW s.mark v u))=true then({s with mark:=s.mark.set v 1},true) else(s,false):=by
  have h1:ZQ G.g T.g 2 s v=({s with mark:=(bkV G.g s.label s.OW (s.mark,false) v).1},(bkV G.g s.label s.OW (s.mark,false) v).2):=rfl;rw[h1];unfold bkV;rw[Tt hm];by_cases e:m=0/\(P5 G.g v).any (λu=>decide (bkC s.label s.OW s.mark v u))=true
  ·rw[if_pos ⟨iS,e⟩,if_pos e]
  ·rw[if_neg (λe2=>e e2.2),if_neg e]
 rw[ni]
 refine py (e:=[(0,_),(1,_)]) func105 O ntmps105 O O$ qN O$ OP O O (R6 O (cs:=[I (v:Int)]) O) ?_
 rintro _ w1 ⟨b2,rfl,bN,ad,ai⟩
 refine OP O O (Rz (cs:=[_]) UH O) ?_
 rintro _ w2 ⟨b3,rfl,dI,ae,ak⟩
 have aW:=ae.OH ai
 have aF:=ad.trans ae
 have jG:=aF.OH hb
 have dg:=aF.OH hR
 replace ak:OU w2 b3 [.bool false] 4:=ak
 have z1:=ad.size
 have z2:=ae.size
 have l1:=ai.lt
 have l2:=ak.lt
 have db:∀j,w.heap.size<=j->¬O_ j:=λj hj=>(cg j hj).2.2.2.2.2.2
 obtain⟨X0,vz⟩:∃X0:Nat->Prop,(λj=>X j\/j=b2\/j=b3)=X0:=⟨_,rfl⟩
 have ru:∀j,X j->X0 j:=λj hj=>by rw[<-vz];exact .inl hj
 have gH:X0 b2/\X0 b3:=by rw[<-vz];exact⟨.inr (.inl O),.inr (.inr O)⟩
 have GW:∀j,X0 j->X j\/(w.heap.size<=j/\j<w2.heap.size):=λj hj=>by rw[<-vz] at hj;exact hj.imp id λe=>by omega
 have Nh:Qt (Sx false T.k) G T Q txt K X0 rr O_ a L s w2:=h.grow aF GW ru
 have hg:=Ext.Pa w2
 have h2:=Nh.ext hg
 have kZ:Vu false Q txt G.k T.k rr O_ a L s vl vc vm w2.drew:=hV.kp (S:=λ_=>False) (aF.kp.trans hg.kp) (λ_ _ e=>e)
 have hn:∀j,X0 j->¬¬Vm G T X0 j:=λj hj e=>e (.inl (.inl hj))
 have AF:=ru _ cP.1
 refine OJ$ An$ An$ R0 (λw'=>Kp (λb=>¬Vm G T X0 b) w2 w') O$ qT 0 O (λ_ hS=>(OS Xi O O (hS.OH jG (hn _ AF)) O)) (hg.kp)$ OM 1 O (Qd O) (hg.kp)$ OM 2 O (Px WC O) (hg.kp)$ qT 3 O (λ_ hS=>(OS Zj O O (hS.OH dg (hn _ (ru _ gI))) O)) (hg.kp)$ qT 4 O (λ_ hS=>(OS U3 O O (hS.OH aW (hn _ gH.1)) O)) (hg.kp)$ S1 5 O XD O (Sb h2.sp h2.lt h2.m.g.VB kZ.mar (.inl (.inl (ru _ (h.xr _ kZ.o.2.2.2)))) hm) ?_
 rintro _ w3 ⟨rfl,fU,av⟩
 refine⟨hg.kp.trans av,?_⟩
 have cJ:=hg.kp.trans av
 have h3:Qt (Sx false T.k) G T Q txt K X0 rr O_ a L s w3:=h2.read av fU
 have iQ:=cJ.OH jG (hn _ AF)
 have lN:=cJ.OH dg (hn _ (ru _ gI))
 have bX:=cJ.OH aW (hn _ gH.1)
 have bE:=cJ.OH ak (hn _ gH.2)
 have z3:=cJ.size
 have cq:Kp (λb=>¬Vm G T X0 b) w w3:=aF.kp.trans cJ
 by_cases em:m=0
 ·subst em;refine OM 6 O (yne O O) (hg.kp.trans av)$ qE ?_;have ag:=Ext.Pa w3;refine SO O$ An$ An$ R0 (λw'=>Kp (λ_=>False) w3 w') O$ qT 0 O (λ_ h=>(OS Xi O O (h.OH iQ id) O)) (ag.kp)$ qT 1 O (λ_ h=>(OS Xi O O (h.OH iQ id) O)) (ag.kp)$ OM 2 O (Qd O) (ag.kp)$ OM 3 O (Px XL O) (ag.kp)$ qT 4 O (λ_ h=>(OS Z8 O O (h.OH lN id) O)) (ag.kp)$ qT 5 O (λ_ h=>(OS U3 O O (h.OH bX id) O)) (ag.kp)$ S1 6 O zaS O (Y3 G.k v _) ?_;rintro _ w4 ⟨c3,c4,c5,rfl,sO,Az,vg,nn,lR,Jg,AG⟩;refine⟨ag.kp.trans AG.kp,?_⟩;have aG:=ag.trans AG;have z4:=aG.size;have l4:=sO.lt;have Nd:=ag.size;have cV:=aG.OH bX;have fJ:=aG.OH bE;have kQ:=aG.OH iQ;refine qE$ OL$ RI (ps:=[19]) (p:=[]) (q:=[_,_,_]) O zb3 ?_;rintro l wl cE eK cD hD Rc bJ du;have zl:=cE.size;have AH:=aG.trans cE;obtain⟨X1,dl⟩:∃X1:Nat->Prop,(λj=>X0 j\/j=c3\/j=w4.heap.size\/j=l)=X1:=⟨_,rfl⟩;have cZ:∀j,X0 j->X1 j:=λj hj=>by rw[<-dl];exact .inl hj
  have aq:X1 b2/\X1 b3/\X1 c3/\X1 w4.heap.size/\X1 l:=⟨cZ _ gH.1,cZ _ gH.2,by rw[<-dl];exact .inr (.inl O),by rw[<-dl];exact .inr (.inr (.inl O)),by rw[<-dl];exact .inr (.inr (.inr O))⟩;have eD:∀j,X j->X1 j:=λj hj=>cZ j (ru j hj);have rp:Qt (Sx false T.k) G T Q txt K X1 rr O_ a L s wl:=h3.grow AH (λj hj=>by rw[<-dl] at hj;exact hj.imp id λe=>by omega) cZ;have vP:=aQ _ cP.1
  refine Ps.mono (Zk hv hI.ln rp (cE.OH Az) (cE.OH vg) (cE.OH sO) aq.2.2.1 (λj=>j=l\/j=b3) (λj hj=>by
    rcases hj with rfl|rfl
    ·exact⟨aq.2.2.2.2,ω,db _ ω⟩
    ·exact⟨aq.2.1,ω,db _ ω⟩)
   (λi txt' K' s' w'=>Rc .ready none w'/\txt'=txt/\K'=K/\s'=s/\(∀u,u∈(P5 G.g v).take i->¬bkC s.label s.OW s.mark v u)/\w'.heap[w4.heap.size]? =some (.deferred (some []))/\OU w' b2 [I (v:Int)] 3/\OU w' b3 [.bool false] 4/\OU w' bx [ptr rr 0] 43/\Kp (λb=>¬X b) w w')
   (λtxt' K' s' w'=>Rc .done (some .ret) w'/\s'={s with mark:=s.mark.set v 1}/\K'<=K+1/\(∀y:Int,y<(a:Int)\/(a:Int)+(L:Int)<=y->txt' y=txt y)/\(∃u,u∈P5 G.g v/\bkC s.label s.OW s.mark v u)/\w'.heap[w4.heap.size]? =some (.deferred (some []))/\OU w' b3 [.bool true] 4/\Kp (λb=>¬X b) w w')
   ?_ ?_ ?_ ?_ ?_) ?_
  ·rintro i txt' K' s' w7 w8 ⟨e1,e2,e3,e4,e5,e6,e7,e8,e9,e10⟩ hz hk;exact⟨hk.rc bJ e1 (λe=>e aq.2.2.2.2),e2,e3,e4,e5,hk.heap e6 (λe=>e aq.2.2.2.1),hk.OH e7 (λe=>e aq.1),hk.OH e8 (λe=>e aq.2.1),hk.OH e9 (λe=>e (eD _ cP.1)),e10.trans (hk.ON λb e e2=>e (eD _ e2))⟩
  ·rintro txt' K' s' w7 w8 ⟨e1,e2,e3,e4,e5,e6,e8,e10⟩ hz hk;exact⟨hk.rc bJ e1 (λe=>e aq.2.2.2.2),e2,e3,e4,e5,hk.heap e6 (λe=>e aq.2.2.2.1),hk.OH e8 (λe=>e aq.2.1),e10.trans (hk.ON λb e e2=>e (eD _ e2))⟩
  ·intro w7 hz hk;have rv:=AH.kp.trans hk;have dN:Kp (λb=>¬X b) w w7:=(cq.ON λb e e2=>e (.inl (.inl (ru _ e2)))).trans (rv.ON λb e e2=>e (eD _ e2));exact⟨hk.rc bJ du (λe=>e aq.2.2.2.2),rfl,rfl,rfl,λu hu=>(by cases hu),hk.heap hD (λe=>e aq.2.2.2.1),rv.OH bX (λe=>e aq.1),rv.OH bE (λe=>e aq.2.1),rv.OH iQ (λe=>e (eD _ cP.1)),dN⟩
  ·rintro i u txt' K' s' w7 hs iy ⟨e1,e2,e3,e4,e5,e6,e7,e8,e9,e10⟩;refine⟨e1,e2,e3,e4,λx hx=>?_,e6,e7,e8,e9,e10⟩;rw[PK hs,List.mem_append,List.mem_singleton] at hx;rcases hx with hx|rfl
   ·exact e5 x hx
   ·exact λe=>iy e.1
  ·rintro Y i u txt' K' s' w7 aH kW z7 hs AI i8 h7 ⟨oU,rfl,rfl,rfl,cO,vf,fj,gZ,kR,dN⟩;have gJ:Y l/\Y b3:=⟨aH _ aq.2.2.2.2,aH _ aq.2.1⟩;have iV:∀j,X j->Y j:=λj hj=>aH j (eD j hj)
   have sJ:u<G.g.length:=by
    have:=hI.ln;have:=RK AI;omega
   obtain⟨mu,Jh⟩:∃mu,s'.mark[u]? =some mu:=⟨_,List.getElem?_eq_getElem ω⟩;obtain⟨y,hy⟩:∃y,s'.OW[u]? =some y:=⟨_,List.getElem?_eq_getElem ω⟩
   have fB:bkC s'.label s'.OW s'.mark v u↔mu=1/\y=x:=by
    unfold bkC;rw[Tt Jh,Tt hx,Tt hy];exact⟨λe=>e.2,λe=>⟨AI,e⟩⟩
   refine Si bJ oU O O$ OQ O$ P3 O$ run_beginRound O bJ oU ?_;rintro w8 pO aL;have h8:=h7.own aL (λj e=>by subst e;exact⟨gJ.1,cg _ ω⟩);have gP:=aL.OH fj ω;have dZ:=aL.OH gZ ω;have i4:=aL.OH kR ω;have sL:=aL.heap vf ω;have z8:=aL.size;obtain⟨vl8,vc8,vm8,vp⟩:=h8.sc;have mW:=Qt.cells vp;have aP:=Ext.Pa w8;have mP:=h8.ext aP;have ld:Vu false Q txt' G.k T.k rr O_ a L s' vl8 vc8 vm8 w8.drew:=vp.kp (S:=λ_=>False) aP.kp (λ_ _ e=>e);have dz:∀j,Y j->¬¬Vm G T Y j:=λj hj e=>e (.inl (.inl hj));have pS:=iV _ cP.1;have wS:=iV _ (h.xr _ vp.o.1);refine OL$ An$ PI (λe' w'=>e'=[(41,.bool (decide (bkC s'.label s'.OW s'.mark v u))),(3,ptr b3 0),(2,ptr b2 0),(1,ptr bx 0)]/\Qt (Sx false T.k) G T Q txt' K' Y rr O_ a L s' w'/\Vu false Q txt' G.k T.k rr O_ a L s' vl8 vc8 vm8 w'/\Kp (λb=>¬Vm G T Y b) w8 w') ?tz$ λtz=>?GY
   case tz=>
    rintro e' wa ⟨rfl,ha,nv,dV⟩;have AE:=Qt.cells nv;have jH:=dV.OH i4 (dz _ pS);have oY:=dV.OH dZ (dz _ gJ.2);have oZ:=dV.OH gP (dz _ (aH _ aq.1));have sN:=dV.heap sL (dz _ (aH _ aq.2.2.2.1));have sM:=dV.rc bJ pO (dz _ gJ.1);have za:=dV.size;have p8:Kp (λb=>¬X b) w wa:=(dN.trans (aL.ON λj e e2=>by have:=aQ j e2;omega)).trans (dV.ON λj e e2=>e (.inl (.inl (iV j e2))));have p9:Kp (λj=>(¬Y j/\j≠T.rb)\/(j=l\/j=b3)) w7 wa:=(aL.ON λj e=> .inr (.inl e)).trans (dV.ON λj e=> .inl ⟨λe2=>e (.inl (.inl e2)),λe2=>e (.inl (.inr e2))⟩);by_cases ebk:bkC s'.label s'.OW s'.mark v u
    ·rw[decide_eq_true ebk];have jI:=Ext.Pa wa;have AJ:=ha.ext jI;have vA:Vu false Q txt' G.k T.k rr O_ a L s' vl8 vc8 vm8 wa.drew:=nv.kp (S:=λ_=>False) jI.kp (λ_ _ e=>e);refine OZ O$ An$ R0 (λw'=>Kp (λb=>¬Vm G T Y b) wa w') O$ qT 0 O (λ_ hS=>(OS Xi O O (hS.OH jH (dz _ pS)) O)) (jI.kp)$ OM 1 O (Qd O) (jI.kp)$ OM 2 O (Px WC O) (jI.kp)$ qT 3 O (λ_ hS=>(OS Zj O O (hS.OH AE (dz _ wS)) O)) (jI.kp)$ qT 4 O (λ_ hS=>(OS U3 O O (hS.OH oZ (dz _ (aH _ aq.1))) O)) (jI.kp)$ S1 5 O z9h O (Ul AJ.sp AJ.lt AJ.m.g.VB vA.mar (.inl (.inl (AJ.xr _ vA.o.2.2.2))) (i:=v) (x:=1) ω ψ) ?_;rintro _ wb ⟨rfl,hW⟩;refine⟨jI.kp.trans (by obtain⟨_,_,_,_,hk⟩:=hW;exact hk),?_⟩;obtain⟨txtb,gN,GO,GX⟩:=AJ.z74 vA (List.length_set ..) ω hW;have aY:=jI.kp.trans GX;refine S1 6 O z2X O (Sy _) ?_;rintro _ wb rfl;refine⟨aY,?_⟩;have vw:=aY.OH oY (dz _ gJ.2);have GQ:=aY.heap sN (dz _ (aH _ aq.2.2.2.1));have kK:=aY.rc bJ sM (dz _ gJ.1);have zb:=aY.size;refine qE$ qN O$ OY O (QP UH O O O vw ξ) ?_;rintro wc ⟨vy,ao⟩;have GR:=ao.rc bJ kK ω;have GS:=ao.heap GQ ω;have zc:=ao.size;have hc:=gN.own ao (λj e=>by subst e;exact⟨gJ.2,cg _ ω⟩);refine OJ$ Tl bJ GR ?_;intro wd kJ dj;exact⟨.inr ⟨rfl,txtb,K'+1,{s' with mark:=s'.mark.set v 1},rfl,hc.own dj (λj e=>by subst e;exact⟨gJ.1,cg _ ω⟩),kJ,rfl,Nat.le_refl _,GO,⟨u,List.mem_of_getElem? hs,ebk⟩,dj.heap GS ω,dj.OH vy ω,((p8.trans (aY.ON λj e e2=>e (.inl (.inl (iV j e2))))).trans (ao.ON λj e e2=>by have:=aQ j e2;omega)).trans (dj.ON λj e e2=>by have:=aQ j e2;omega)⟩,((p9.trans (aY.ON λj e=> .inl ⟨λe2=>e (.inl (.inl e2)),λe2=>e (.inl (.inr e2))⟩)).trans (ao.ON λj e=> .inr (.inr e))).trans (dj.ON λj e=> .inr (.inl e))⟩
    ·rw[decide_eq_false ebk];refine SO O$ OG$ RF bJ sM ?_;intro wd kJ dj;refine⟨.inl ⟨rfl,txt',K',s',rfl,ha.own dj (λj e=>by subst e;exact⟨gJ.1,cg _ ω⟩),kJ,rfl,rfl,rfl,λx hx=>?_,dj.heap sN ω,dj.OH oZ ω,dj.OH oY ω,dj.OH jH ω,p8.trans (dj.ON λj e e2=>by have:=aQ j e2;omega)⟩,p9.trans (dj.ON λj e=> .inr (.inl e))⟩;rw[PK hs,List.mem_append,List.mem_singleton] at hx;rcases hx with hx|rfl
     ·exact cO x hx
     ·exact ebk
   case GY=>
    refine R0 (λw'=>Kp (λb=>¬Vm G T Y b) w8 w') O$ qT 0 O (λ_ hS=>(OS Xi O O (hS.OH i4 (dz _ pS)) O)) (aP.kp)$ OM 1 O (Qd O) (aP.kp)$ OM 2 O (Px WC O) (aP.kp)$ qT 3 O (λ_ hS=>(OS Zj O O (hS.OH mW (dz _ wS)) O)) (aP.kp)$ P8 4 O O (aP.kp)$ S1 5 O XD O (Sb mP.sp mP.lt mP.m.g.VB ld.mar (.inl (.inl (mP.xr _ ld.o.2.2.2))) Jh) ?_;rintro _ w9 ⟨rfl,pQ,aw⟩;refine⟨aP.kp.trans aw,?_⟩;have h9:=mP.read aw pQ;have oX:Vu false Q txt' G.k T.k rr O_ a L s' vl8 vc8 vm8 w9:=ld.kp aw (λb e e2=>e2 (.inl (.inl (mP.xr b e))));have i6:=aP.kp.trans aw;by_cases e1:mu=1
    ·refine OM 6 O (yeq O O) (aP.kp.trans aw)$ TN$ P8 7 O O (aP.kp.trans aw)$ qT 8 O (λ_ hS=>(OS Xi O O (hS.OH i4 (dz _ pS)) O)) (aP.kp.trans aw)$ OM 9 O (Qd O) (aP.kp.trans aw)$ OM 10 O (Px Ve O) (aP.kp.trans aw)$ qT 11 O (λ_ hS=>(OS Zj O O (hS.OH mW (dz _ wS)) O)) (aP.kp.trans aw)$ P8 12 O O (aP.kp.trans aw)$ qT 14 O (λ_ hS=>(OS Xi O O (hS.OH i4 (dz _ pS)) O)) (aP.kp.trans aw)$ OM 15 O (Qd O) (aP.kp.trans aw)$ OM 16 O (Px Ve O) (aP.kp.trans aw)$ qT 17 O (λ_ hS=>(OS Zj O O (hS.OH mW (dz _ wS)) O)) (aP.kp.trans aw)$ qT 18 O (λ_ hS=>(OS U3 O O (hS.OH gP (dz _ (aH _ aq.1))) O)) (aP.kp.trans aw)$ S1 13 O XD O (Sb h9.sp h9.lt h9.m.g.VB oX.col (.inl (.inl (h9.xr _ oX.o.2.2.1))) hy) ?_;rintro _ wb ⟨rfl,BK,aY⟩;refine⟨i6.trans aY,?_⟩;have ir:=h9.read aY BK;have xc:Vu false Q txt' G.k T.k rr O_ a L s' vl8 vc8 vm8 wb:=oX.kp aY (λb e e2=>e2 (.inl (.inl (h9.xr b e))));have mQ:=i6.trans aY;refine S1 19 O XD O (Sb ir.sp ir.lt ir.m.g.VB xc.col (.inl (.inl (ir.xr _ xc.o.2.2.1))) hx) ?_;rintro _ wc ⟨rfl,Ni,ao⟩;refine⟨mQ.trans ao,?_⟩;have Ji:=ir.read ao Ni;have Jj:Vu false Q txt' G.k T.k rr O_ a L s' vl8 vc8 vm8 wc:=xc.kp ao (λb e e2=>e2 (.inl (.inl (ir.xr b e))));have AK:=mQ.trans ao;by_cases e2:y=x
     ·have pa:=tz [(41,.bool true),(3,ptr b3 0),(2,ptr b2 0),(1,ptr bx 0)] wc ⟨by rw[decide_eq_true (fB.2 ⟨e1,e2⟩)],Ji,Jj,AK⟩;refine OM 20 O (yeq O O) (mQ.trans ao)$ TN$ OM 21 O (UG O O) (mQ.trans ao)$ qE$ Pu.qb (e:=[(1,_),(2,_),(3,_),(41,_)]) ?_;exact pa.qb
     ·have pa:=tz [(41,.bool false),(3,ptr b3 0),(2,ptr b2 0),(1,ptr bx 0)] wc ⟨by rw[decide_eq_false (λe=>e2 (fB.1 e).2)],Ji,Jj,AK⟩;refine OM 20 O (yeq O O) (mQ.trans ao)$ TC$ OM 21 O (UG O O) (mQ.trans ao)$ qE$ Pu.qb (e:=[(1,_),(2,_),(3,_),(41,_)]) ?_;exact pa.qb
    ·have pa:=tz [(41,.bool false),(3,ptr b3 0),(2,ptr b2 0),(1,ptr bx 0)] w9 ⟨by rw[decide_eq_false (λe=>e1 (fB.1 e).1)],h9,oX,i6⟩;refine OM 6 O (yeq O O) (aP.kp.trans aw)$ TC$ P8 7 O O (aP.kp.trans aw)$ qJ 8 O (aP.kp.trans aw)$ qJ 9 O (aP.kp.trans aw)$ qJ 10 O (aP.kp.trans aw)$ qJ 11 O (aP.kp.trans aw)$ qJ 12 O (aP.kp.trans aw)$ qJ 13 O (aP.kp.trans aw)$ qJ 14 O (aP.kp.trans aw)$ qJ 15 O (aP.kp.trans aw)$ qJ 16 O (aP.kp.trans aw)$ qJ 17 O (aP.kp.trans aw)$ qJ 18 O (aP.kp.trans aw) ?_;refine qJ 19 O (aP.kp.trans aw)$ qJ 20 O (aP.kp.trans aw)$ OM 21 O (U6 O O) (aP.kp.trans aw)$ qE$ Pu.qb (e:=[(1,_),(2,_),(3,_),(41,_)]) ?_;exact pa.qb
  ·rintro v' wz ⟨rfl,Y,txtz,Kz,sz,aH,kW,il,hz,⟨mN,rfl,rfl,rfl,cO,mO,qU,iT,GV,cX⟩|⟨mN,rfl,Ng,o5,vV,mO,iT,cX⟩⟩
   ·refine⟨_,_,mN,ξ,λwy cY=>?_⟩;have zz:=cX.size;have zy:=cY.size;have i9:=cY.OH iT ω;have jy:=cY.heap mO ω;rw[List.take_length] at cO
    rw[if_neg (λe=>by
     obtain⟨u,hu,hb⟩:=List.any_eq_true.1 e.2
     exact cO u hu (of_decide_eq_true hb))]
    refine OG$ qN O$ OY O (QP UH O O O i9 ξ) ?_;rintro wx ⟨oW,ij⟩;have AA:=ij.heap jy ω;have dK:Kp (λk=>k=w4.heap.size) wx (Ro [.mk w4.heap.size] wx):=Q8 wx w4.heap.size (.deferred none);have iU:=dK.OH oW ω;have bL:Kp (λk=>k=l\/k=b3\/k=w4.heap.size) wz (Ro [.mk w4.heap.size] wx):=((cY.ON λj e=> .inl e).trans (ij.ON λj e=> .inr (.inl e))).trans (dK.ON λj e=> .inr (.inr e));refine OJ$ Tf ξ (Tv AA) func105 (.cell1 U4 O O ((iU).cell _) .nil) ?_;exact⟨_,rfl,rfl,.of ((hz.own bL (λj e=>⟨by rcases e with rfl|rfl|rfl;exact aH _ aq.2.2.2.2;exact aH _ aq.2.1;exact aH _ aq.2.2.2.1,cg j ω⟩)).less (λj hj=>aH j (eD j hj)) h.xk h.xr) (Nat.le_add_right _ _) (λ_ _=>rfl) (cX.trans (bL.ON λj e e2=>by have:=aQ j e2;omega))⟩
   ·refine⟨_,_,mN,ξ,λwy cY=>?_⟩;have zz:=cX.size;have zy:=cY.size;have i9:=cY.OH iT ω;have jy:=cY.heap mO ω;have dK:Kp (λk=>k=w4.heap.size) wy (Ro [.mk w4.heap.size] wy):=Q8 wy w4.heap.size (.deferred none);have iU:=dK.OH i9 ω;have bL:Kp (λk=>k=l\/k=b3\/k=w4.heap.size) wz (Ro [.mk w4.heap.size] wy):=(cY.ON λj e=> .inl e).trans (dK.ON λj e=> .inr (.inr e))
    rw[if_pos ⟨rfl,by
     obtain⟨u,hu,hb⟩:=vV
     exact List.any_eq_true.2 ⟨u,hu,decide_eq_true hb⟩⟩]
    refine Tf ξ (Tv jy) func105 (.cell1 U4 O O ((iU).cell _) .nil) ?_;exact⟨_,rfl,rfl,.of ((hz.own bL (λj e=>⟨by rcases e with rfl|rfl|rfl;exact aH _ aq.2.2.2.2;exact aH _ aq.2.1;exact aH _ aq.2.2.2.1,cg j ω⟩)).less (λj hj=>aH j (eD j hj)) h.xk h.xr) ω o5 (cX.trans (bL.ON λj e e2=>by have:=aQ j e2;omega))⟩
 ·rw[if_neg (λe=>em e.1)];refine OM 6 O (yne O O) (hg.kp.trans av)$ TN$ qE$ OZ O$ qN O$ OY O (QP UH O O O bE ξ) ?_;rintro w4 ⟨fJ,ar⟩;refine OJ$ Po func105 (.cell1 U4 O O ((fJ).cell _) .nil) ?_;exact⟨_,rfl,rfl,.of ((h3.own ar (λj e=>by subst e;exact⟨gH.2,cg _ ω⟩)).less ru h.xk h.xr) (Nat.le_add_right _ _) (λ_ _=>rfl) ((cq.ON λj e e2=>e (.inl (.inl (ru _ e2)))).trans (ar.ON λj e e2=>by have:=aQ j e2;omega))⟩
end
section
variable {g t:List (List Nat)}{s:Sk}{k v:Nat}
def vtF (g t:List (List Nat))(ph:Nat)(a:Sk×Bool)(v:Nat):Sk×Bool:=if R5 a.1.label v then((ZQ g t ph a.1 v).1,(ZQ g t ph a.1 v).2 ||a.2) else a
def Zm (g t:List (List Nat))(ph:Nat)(s:Sk)(k:Nat):Sk×Bool:=(List.range k).foldl (vtF g t ph) (s,false)
def rtF (ph:Nat)(s:Sk)(v:Nat):Sk:=if R5 s.label v then rtS ph s v else s
def rtL (ph:Nat)(s:Sk)(k:Nat):Sk:=(List.range k).foldl (rtF ph) s
theorem Wr (ph:Nat):Zm g t ph s (k+1)=vtF g t ph (Zm g t ph s k) k:=by
 unfold Zm
 rw[List.range_succ,List.foldl_append]
 rfl
theorem Wt (ph:Nat):rtL ph s (k+1)=rtF ph (rtL ph s k) k:=by
 unfold rtL
 rw[List.range_succ,List.foldl_append]
 rfl
theorem zai {l c:List Nat}{b:Bool}{u:Nat}:Xw l v (c,b) u=((Xw l v (c,false) u).1,(Xw l v (c,false) u).2 ||b):=by
 unfold Xw
 by_cases e:R5 l u/\c.getD v 0<c.getD u 0
 ·rw[if_pos e,if_pos e];rfl
 ·rw[if_neg e,if_neg e];simp
theorem Zf {l:List Nat}:∀{us:List Nat} {c:List Nat} {b:Bool},us.foldl (Xw l v) (c,b)=((us.foldl (Xw l v) (c,false)).1,(us.foldl (Xw l v) (c,false)).2 ||b)
 |[],c,b=>by simp
 | u :: us, c, b => by
   rw[List.foldl_cons,List.foldl_cons,zai (b:=b)];rw[Zf (us:=us) (c:=(Xw l v (c,false) u).1) (b:=(Xw l v (c,false) u).2 ||b)];have h:=Zf (l:=l) (us:=us) (c:=(Xw l v (c,false) u).1) (b:=(Xw l v (c,false) u).2);rw[show((Xw l v (c,false) u).1,(Xw l v (c,false) u).2)=Xw l v (c,false) u from rfl] at h;rw[h,Bool.or_assoc]
theorem zf6:∀k,Zm g t 0 s k=({s with label:=(ZS g t s.label k).1},(ZS g t s.label k).2)
 |0=>rfl
 | k + 1 => by
   rw[Wr,zf6 k,show ZS g t s.label (k+1)=trV g t (ZS g t s.label k) k by unfold ZS;rw[List.range_succ,List.foldl_append];rfl];unfold vtF ZQ trV;dsimp only;by_cases e:R5 (ZS g t s.label k).1 k
   ·rw[if_pos e,if_pos O];by_cases e2:Wg g (ZS g t s.label k).1 k=true\/Wg t (ZS g t s.label k).1 k=true
    ·rw[if_pos ⟨e,e2⟩,if_pos ⟨e,e2⟩];rfl
    ·rw[if_neg (λh=>e2 h.2),if_neg (λh=>e2 h.2)];simp
   ·rw[if_neg e,if_neg (λh=>e h.1)]
theorem zeB:∀k,Zm g t 1 s k=({s with OW:=(XT g s.label s.OW k).1},(XT g s.label s.OW k).2)
 |0=>rfl
 | k + 1 => by
   rw[Wr,zeB k,show XT g s.label s.OW (k+1)=coV g s.label (XT g s.label s.OW k) k by unfold XT;rw[List.range_succ,List.foldl_append];rfl];unfold vtF ZQ coV;dsimp only;by_cases e:R5 s.label k
   ·rw[if_pos e,if_neg ψ,if_pos O,if_pos e];have h:=Zf (l:=s.label) (v:=k) (us:=P5 g k) (c:=(XT g s.label s.OW k).1) (b:=(XT g s.label s.OW k).2);rw[show((XT g s.label s.OW k).1,(XT g s.label s.OW k).2)=XT g s.label s.OW k from rfl] at h;rw[if_pos e,h]
   ·rw[if_neg e,if_neg e]
theorem zfy:∀k,Zm g t 2 s k=({s with mark:=(bkS g s.label s.OW s.mark k).1},(bkS g s.label s.OW s.mark k).2)
 |0=>rfl
 | k + 1 => by
   rw[Wr,zfy k,show bkS g s.label s.OW s.mark (k+1)=bkV g s.label s.OW (bkS g s.label s.OW s.mark k) k by unfold bkS;rw[List.range_succ,List.foldl_append];rfl];unfold vtF ZQ bkV;dsimp only;by_cases e:R5 s.label k
   ·rw[if_pos e,if_neg ψ,if_neg ψ];by_cases e2:(bkS g s.label s.OW s.mark k).1.getD k 0=0/\(P5 g k).any (λu=>decide (bkC s.label s.OW (bkS g s.label s.OW s.mark k).1 k u))=true
    ·rw[if_pos ⟨e,e2⟩,if_pos ⟨e,e2⟩];rfl
    ·rw[if_neg (λh=>e2 h.2),if_neg (λh=>e2 h.2)];simp
   ·rw[if_neg e,if_neg (λh=>e h.1)]
theorem zaq:∀k {l:List Nat},(ZS g t l k).2=false->(ZS g t l k).1=l
 |0,_,_=>rfl
 | k + 1, l, h => by
   rw[show ZS g t l (k+1)=trV g t (ZS g t l k) k by unfold ZS;rw[List.range_succ,List.foldl_append];rfl] at h⊢;unfold trV at h⊢;split at h
   ·cases h
   ·rename_i e
    rw[if_neg e];exact zaq k h
def zfr {l:List Nat}{a:List Nat×Bool}{u:Nat}(h:(Xw l v a u).2=false):Xw l v a u=a:=by
 unfold Xw at h⊢
 split at h
 ·cases h
 ·rename_i e
  rw[if_neg e]
def z8e {l:List Nat}:∀{us:List Nat} {a:List Nat×Bool},(us.foldl (Xw l v) a).2=false->us.foldl (Xw l v) a=a
 |[],_,_=>rfl
 | u :: us, a, h => by
   rw[List.foldl_cons] at h⊢;have h1:=z8e h;rw[h1] at h⊢;exact zfr h
theorem z64:∀k {l c:List Nat},(XT g l c k).2=false->(XT g l c k).1=c
 |0,_,_,_=>rfl
 | k + 1, l, c, h => by
   rw[show XT g l c (k+1)=coV g l (XT g l c k) k by unfold XT;rw[List.range_succ,List.foldl_append];rfl] at h⊢;unfold coV at h⊢;split at h
   ·rename_i e
    rw[if_pos e];have h1:=z8e h;rw[h1] at h⊢;exact z64 k h
   ·rename_i e
    rw[if_neg e];exact z64 k h
theorem zc3:∀k {l c m:List Nat},(bkS g l c m k).2=false->(bkS g l c m k).1=m
 |0,_,_,_,_=>rfl
 | k + 1, l, c, m, h => by
   rw[show bkS g l c m (k+1)=bkV g l c (bkS g l c m k) k by unfold bkS;rw[List.range_succ,List.foldl_append];rfl] at h⊢;unfold bkV at h⊢;split at h
   ·cases h
   ·rename_i e
    rw[if_neg e];exact zc3 k h
theorem zf9 {ph:Nat}(hp:ph<=2)(h:(Zm g t ph s k).2=false):(Zm g t ph s k).1=s:=by
 match ph,hp with
 |0,_=>rw[zf6] at h⊢;show {s with label:=(ZS g t s.label k).1}=s;rw[zaq k h]
 |1,_=>rw[zeB] at h⊢;show {s with OW:=(XT g s.label s.OW k).1}=s;rw[z64 k h]
 |2,_=>rw[zfy] at h⊢;show {s with mark:=(bkS g s.label s.OW s.mark k).1}=s;rw[zc3 k h]
theorem zhQ:∀k,rtL 0 s k={s with OW:=rsC s.label s.OW k}
 |0=>rfl
 | k + 1 => by
   rw[Wt,zhQ k,show rsC s.label s.OW (k+1)=if R5 s.label k then(rsC s.label s.OW k).set k k else rsC s.label s.OW k by unfold rsC;rw[List.range_succ,List.foldl_append];rfl];unfold rtF rtS;dsimp only;by_cases e:R5 s.label k
   ·rw[if_pos e,if_pos e,if_pos O]
   ·rw[if_neg e,if_neg e]
theorem ziB:∀k,rtL 1 s k={s with mark:=rsM s.label s.OW s.mark k}
 |0=>rfl
 | k + 1 => by
   rw[Wt,ziB k,show rsM s.label s.OW s.mark (k+1)=if R5 s.label k/\s.OW.getD k 0=k then(rsM s.label s.OW s.mark k).set k 1 else rsM s.label s.OW s.mark k by unfold rsM;rw[List.range_succ,List.foldl_append];rfl];unfold rtF rtS;dsimp only;by_cases e:R5 s.label k
   ·rw[if_pos e,if_neg ψ,if_pos O];by_cases e2:s.OW.getD k 0=k
    ·rw[if_pos e2,if_pos ⟨e,e2⟩]
    ·rw[if_neg e2,if_neg (λh=>e2 h.2)]
   ·rw[if_neg e,if_neg (λh=>e h.1)]
theorem zhp:∀k,rtL 2 s k={s with label:=rsL s.label s.OW s.mark k}
 |0=>rfl
 | k + 1 => by
   rw[Wt,zhp k,show rsL s.label s.OW s.mark (k+1)=if R5 (rsL s.label s.OW s.mark k) k/\s.mark.getD k 0=1 then(rsL s.label s.OW s.mark k).set k (s.OW.getD k 0) else rsL s.label s.OW s.mark k by unfold rsL;rw[List.range_succ,List.foldl_append];rfl];unfold rtF rtS;dsimp only;by_cases e:R5 (rsL s.label s.OW s.mark k) k
   ·rw[if_pos e,if_neg ψ,if_neg ψ];by_cases e2:s.mark.getD k 0=1
    ·rw[if_pos e2,if_pos ⟨e,e2⟩]
    ·rw[if_neg e2,if_neg (λh=>e2 h.2)]
   ·rw[if_neg e,if_neg (λh=>e h.1)]
def zd4 (ph:Nat):Nat:=if ph=2 then 0 else ph+1
def Vz (ph:Nat)(s:Sk):Sk:=if ph=1 then {s with mark:=List.replicate s.mark.length 0} else s
def zfF (hp:s.phase<=2)(hm:s.mark.length=g.length):s.go g t=if(Zm g t s.phase s g.length).2 then(Zm g t s.phase s g.length).1 else {rtL s.phase (Vz s.phase s) g.length with phase:=zd4 s.phase}:=by
 obtain⟨a,ph,d,l,c,m⟩:=s
 dsimp only at hp hm⊢
 match ph,hp with
 |0,_=>rw[zf6,show Vz 0 _=_ from rfl,zhQ];rfl
 |1,_=>rw[zeB,show Vz 1 _=Sk.mk a 1 d l c (List.replicate m.length 0) from rfl,ziB,hm];rfl
 |2,_=>rw[zfy,show Vz 2 _=_ from rfl,zhp];rfl
end
def UP.vt {g t:List (List Nat)}{s:Sk}{ph v:Nat}(h:UP g s)(hp:ph<=2)(hv:v<g.length)(hn:g.length<=60):UP g (ZQ g t ph s v).1:=by
 match ph,hp with
 | 0, _ =>
   show UP g {s with label:=(trV g t (s.label,false) v).1};unfold trV;dsimp only;split
   ·exact⟨h.ph,by show(s.label.set v v).length=_;rw[List.length_set];exact h.ln,h.cn,h.mn,Ts h.lb ω,h.cb,h.mb⟩
   ·exact h
 | 1, _ =>
   show UP g {s with OW:=(coV g s.label (s.OW,false) v).1};unfold coV;split
   ·have h1:=z0t (l:=s.label) (v:=v) (us:=P5 g v) (a:=(s.OW,false)) h.cb;exact⟨h.ph,h.ln,h1.2.trans h.cn,h.mn,h.lb,h1.1,h.mb⟩
   ·exact h
 | 2, _ =>
   show UP g {s with mark:=(bkV g s.label s.OW (s.mark,false) v).1};unfold bkV;dsimp only;split
   ·exact⟨h.ph,h.ln,h.cn,by show(s.mark.set v 1).length=_;rw[List.length_set];exact h.mn,h.lb,h.cb,Ts h.mb ψ⟩
   ·exact h
def UP.rt {g:List (List Nat)}{s:Sk}{ph v:Nat}(h:UP g s)(hv:v<g.length)(hn:g.length<=60):UP g (rtS ph s v):=by
 unfold rtS
 split
 ·exact⟨h.ph,h.ln,by show(s.OW.set v v).length=_;rw[List.length_set];exact h.cn,h.mn,h.lb,Ts h.cb ω,h.mb⟩
 ·split
  ·split
   ·exact⟨h.ph,h.ln,h.cn,by show(s.mark.set v 1).length=_;rw[List.length_set];exact h.mn,h.lb,h.cb,Ts h.mb ψ⟩
   ·exact h
  ·split
   ·exact⟨h.ph,by show(s.label.set v _).length=_;rw[List.length_set];exact h.ln,h.cn,h.mn,Ts h.lb (z1e (P:=λx=>x<4294967296) h.cb ψ),h.cb,h.mb⟩
   ·exact h
def UP.vts {g t:List (List Nat)}{s:Sk}{ph:Nat}(h:UP g s)(hp:ph<=2)(hn:g.length<=60):∀k,k<=g.length->UP g (Zm g t ph s k).1
 |0,_=>h
 | k + 1, hk => by
   have ih:=UP.vts (t:=t) h hp hn k ω;rw[Wr];unfold vtF;split
   ·exact ih.vt hp ω hn
   ·exact ih
def UP.rts {g:List (List Nat)}{s:Sk}{ph:Nat}(h:UP g s)(hn:g.length<=60):∀k,k<=g.length->UP g (rtL ph s k)
 |0,_=>h
 | k + 1, hk => by
   have ih:=UP.rts (ph:=ph) h hn k ω;rw[Wt];unfold rtF;split
   ·exact ih.rt ω hn
   ·exact ih
def UP.fil {g:List (List Nat)}{s:Sk}{ph:Nat}(h:UP g s):UP g (Vz ph s):=by
 unfold Vz
 split
 ·exact⟨h.ph,h.ln,h.cn,by show(List.replicate _ _).length=_;rw[List.length_replicate];exact h.mn,h.lb,h.cb,λx hx=>by rw[(List.mem_replicate.1 hx).2];decide⟩
 ·exact h
section
variable {G T:GwP}{w w':World}{sw:Bool}{Q:Rg}{txt txt':Int->OO}{K K' ok:Nat}{X O_:Nat->Prop}{rr a L vl vc vm bx v:Nat}{s s':Sk}
def z22 (ph:Nat):FuncId:=if ph=0 then 97 else if ph=1 then 101 else 105
def z1V (ph:Nat):FuncId:=if ph=0 then 100 else if ph=1 then 104 else 106
def Xk (f:FuncId)(b:Nat):Value:= .func (.func f) #[] #[ptr b 0]
def Yo (w:World):Ps prog 65 [ptr rr 0] w λr w'=>∃b,r= .agg #[Xk (z22 0) b,Xk (z1V 0) b,I 1,Xk (z22 1) b,Xk (z1V 1) b,I 2,Xk (z22 2) b,Xk (z1V 2) b,I 0]/\OU w' b [ptr rr 0] 43/\w.heap.size<=b/\Kp (λj=>w.heap.size<=j) w w':=by
 refine py (e:=[(0,_)]) func65 O ntmps65 O O$ qN O$ OP O O (R6 O (cs:=[ptr rr 0]) O) ?_
 rintro _ w1 ⟨b1,rfl,bK,ad,ai⟩
 refine OP O O (Rz (cs:=[_,_,_,_,_,_,_,_,_]) z7A O) ?_
 rintro _ w2 ⟨b2,rfl,bN,ae,ak⟩
 have z1:=ad.size
 have l1:=ai.lt
 refine qM O$ qV (ZR (first:=[]) (caps:=[.tmp 1]) O O)$ qV (ZR (first:=[]) (caps:=[.tmp 1]) O O)$ qV (Sh (cs:=[_,_,_]) Xx O zb6 O O)$ qV (ZR (first:=[]) (caps:=[.tmp 1]) O O)$ qV (ZR (first:=[]) (caps:=[.tmp 1]) O O)$ qV (Sh (cs:=[_,_,_]) Xx O zb6 O O)$ qV (ZR (first:=[]) (caps:=[.tmp 1]) O O)$ qV (ZR (first:=[]) (caps:=[.tmp 1]) O O)$ qV (Sh (cs:=[_,_,_]) Xx O zb6 O O)$ qV (zch (parts:=[(0,.tmp 5),(1,.tmp 8),(2,.tmp 11)]) (cs:=[_,_,_,_,_,_,_,_,_]) z7A O zcv Xx O O)$ OY O (PL z7A O O O O ak ξ) ?_
 rintro w3 ⟨au,av⟩
 refine OJ$ Po func65 (.cell zcv O z7A O (OU.cells (n:=9) au (news:=[_,_,_,_,_,_,_,_,_]) O) O .nil) ?_
 exact⟨_,rfl,b1,rfl,av.OH (ae.OH ai) ω,ω,(ad.trans ae).kp.trans (av.ON λj e=>by omega)⟩
theorem ScW.more {n n':Nat}(h:ScW G T Q txt K X rr O_ a L n s w w')(hn:n<=n'):ScW G T Q txt K X rr O_ a L n' s w w':=by
 obtain⟨⟨txt',K',h1,h2,h3⟩,hk⟩:=h
 exact⟨⟨txt',K',h1,ω,h3⟩,hk⟩
def zau (h:Qt (Sx false T.k) G T Q txt K X rr O_ a L s w)(hI:UP G.g s)(ht:T.g.length=G.g.length)(hK:K<=900000000000)(hb:OU w bx [ptr rr 0] 43)(cP:X bx/\¬O_ bx)(hv:v<G.g.length)(iS:R5 s.label v){ph:Nat}(hp:ph<=2):Ps prog (z22 ph) [I (v:Int),ptr bx 0] w λr w'=>r= .bool (ZQ G.g T.g ph s v).2/\ScW G T Q txt K X rr O_ a L 40 (ZQ G.g T.g ph s v).1 w w':=by
 match ph,hp with
 |0,_=>exact(z6b h hI ht hK hb cP.1 hv iS).mono λr w' ⟨e1,e2⟩=>⟨e1,e2.more ψ⟩
 |1,_=>exact z3t h hI hK hb cP hv iS
 |2,_=>exact z5U h hI hK hb cP hv iS
def zaL (h:Qt (Sx false T.k) G T Q txt K X rr O_ a L s w)(hI:UP G.g s)(hK:K<=900000000000)(hb:OU w bx [ptr rr 0] 43)(cP:X bx/\¬O_ bx)(hv:v<G.g.length){ph:Nat}(hp:ph<=2):Ps prog (z1V ph) [I (v:Int),ptr bx 0] w λ_ w'=>ScW G T Q txt K X rr O_ a L 1 (rtS ph s v) w w':=by
 match ph,hp with
 |0,_=>exact z4I h hI hK hb cP.1 hv
 |1,_=>exact z5t h hI hK hb cP.1 hv
 |2,_=>exact z5i h hI hK hb cP.1 hv
def zkr {ph:Nat}(hp:ph<=2):CF prog (z22 ph):=by
 match ph,hp with
 |0,_=>exact zkD
 |1,_=>exact zgN
 |2,_=>exact zgo
def zkB {ph:Nat}(hp:ph<=2):CF prog (z1V ph):=by
 match ph,hp with
 |0,_=>exact zhX
 |1,_=>exact zj4
 |2,_=>exact zhv
theorem ze2 {b ph:Nat}(h:ph<=2):Value.agg ((#[Xk (z22 0) b,Xk (z1V 0) b,I 1,Xk (z22 1) b,Xk (z1V 1) b,I 2,Xk (z22 2) b,Xk (z1V 2) b,I 0]:Array Value).extract (ph*3) (ph*3+3))= .agg #[Xk (z22 ph) b,Xk (z1V ph) b,I (zd4 ph:Int)]:=by
 match ph,h with
 |0,_=>rfl
 |1,_=>rfl
 |2,_=>rfl
def Qt.z7O (h:Qt (Sx false T.k) G T Q txt K X rr O_ a L s w):Ps prog 30 [ptr G.k 0] w λv w'=>v=I (G.g.length:Int)/\w'=w:=z0z h.m.g
theorem Vu.put (h:Vu sw Q txt G.k ok rr O_ a L s vl vc vm w)(hk:Kp (λb=>b=rr) w w')(hr:OU w' rr (scC s' (if sw then ok else G.k) (if sw then G.k else ok) vl vc vm) 86)(hl:s'.label=s.label)(hc:s'.OW=s.OW)(hm:s'.mark=s.mark):Vu sw Q txt G.k ok rr O_ a L s' vl vc vm w':=by
 refine⟨h.o,h.ne,hr,?_,?_,?_,?_,h.L⟩
 ·rw[hl];exact h.Zg.kp hk (λe=>h.ne.1 e.symm)
 ·rw[hc];exact h.col.kp hk (λe=>h.ne.2.1 e.symm)
 ·rw[hm];exact h.mar.kp hk (λe=>h.ne.2.2.1 e.symm)
 ·rw[hl,hc,hm];exact h.n
theorem z6m (h:Qt (Sx false T.k) G T Q txt K X rr O_ a L s w)(hI:UP G.g s)(ht:T.g.length=G.g.length)(hK:K<=800000000000):Ps prog 37 [ptr rr 0] w λr w'=>r= .bool (z1x (s.go G.g T.g).label G.g.length)/\(∃txt' K',Qt (Sx false T.k) G T Q txt' K' X rr O_ a L (s.go G.g T.g) w'/\K'<=K+9000/\∀y:Int,y<(a:Int)\/(a:Int)+(L:Int)<=y->txt' y=txt y)/\Kp (λb=>¬X b\/O_ b) w w':=by
 have ez:=h.m.n
 obtain⟨vl,vc,vm,hV⟩:=h.sc
 have hR:=Qt.cells hV
 have gI:=h.xr _ hV.o.1
 have rx:=hI.ph
 have aQ:∀b,X b->b<w.heap.size:=λb hb=>h.lt b (.inl (.inl hb))
 have xj:=aQ _ gI
 refine py (e:=[(0,_)]) func37 O ntmps37 O O$ QN O$ An$ PI (λe' w'=>∃b3 bx,e'=[(3,ptr b3 0),(2,.bool false),(0,ptr rr 0)]/\OU w' b3 [Xk (z22 s.phase) bx,Xk (z1V s.phase) bx,I (zd4 s.phase:Int)] 153/\OU w' bx [ptr rr 0] 43/\w.heap.size<=b3/\w.heap.size<=bx/\b3≠bx/\Kp (λj=>w.heap.size<=j) w w') ?GZ$ λGZ=>?H2
 case GZ =>
  rintro e' w1 ⟨b3,bx,rfl,ai,oC,dI,fD,tq,az⟩;have ad:Ext w w1:=Kp.mono az (λk hl hs=>by omega);have z1:=ad.size;have lb3:=ai.lt;have lbx:=oC.lt;obtain⟨X1,dl⟩:∃X1:Nat->Prop,(λj=>X j\/j=b3\/j=bx)=X1:=⟨_,rfl⟩;have cZ:∀j,X j->X1 j:=λj hj=>by rw[<-dl];exact .inl hj
  have aq:X1 b3/\X1 bx:=by rw[<-dl];exact⟨.inr (.inl O),.inr (.inr O)⟩
  have h1:Qt (Sx false T.k) G T Q txt K X1 rr O_ a L s w1:=h.grow ad (λj hj=>by rw[<-dl] at hj;exact hj.imp id λe=>by omega) cZ;have Jk:¬O_ bx:=λe=>by have:=aQ _ (h.xr _ e);omega
  have mR:G.g.length<=60:=by omega
  have io:=ad.OH hR;refine QN O$ PR O$ Pw O$ P4 XL O$ qV (OS Z8 O O io O)$ Pb z6W O (h1.z7O) ?_;rintro _ w1 ⟨rfl,rfl⟩;refine OT O$ OJ$ OL$ RN (α:=Nat) (0) (λk=>[(0,ptr rr 0),(2,.bool false),(3,ptr b3 0),(4,.bool (Zm G.g T.g s.phase s k).2),(19,I (G.g.length:Int)),(20,I (k:Int))]) (λk w'=>k<=G.g.length/\(∃txt' K',Qt (Sx false T.k) G T Q txt' K' X1 rr O_ a L (Zm G.g T.g s.phase s k).1 w'/\K'<=K+40*k/\∀y:Int,y<(a:Int)\/(a:Int)+(L:Int)<=y->txt' y=txt y)/\Kp (λb=>¬X1 b) w1 w') (λk=>G.g.length-k) ?hI ?hround
  case hI=>exact⟨Nat.zero_le _,⟨txt,K,h1,Nat.le_refl _,λ_ _=>rfl⟩,Kp.refl _ _⟩
  case hround =>
   rintro k w4 ⟨hk,⟨txt4,K4,h4,H0,nw⟩,ar⟩ ih;dsimp only at ih⊢;have aM:=ar.OH ai (λe=>e aq.1);have kQ:=ar.OH oC (λe=>e aq.2);have jv:=hI.vts (t:=T.g) rx mR k hk;have AL:=Wr (g:=G.g) (t:=T.g) (s:=s) (k:=k) s.phase
   try dsimp only
   refine qN O$ QV O$ OJ$ An$ OX O (λh0=>?_)$ λh0=>?_
   ·have jV:k<G.g.length:=by omega
    refine OK$ QO$ Pt O$ P3 O$ OQ O$ Pl O$ Pb zd1 O (VL h4 (by rw[jv.ln];exact jV)) ?_;rintro _ w5 ⟨rfl,h5,aj⟩;have iW:Kp (λb=>¬X1 b) w4 w5:=aj.ON λb e e2=>e (.inl (.inl e2));have aK:=iW.OH aM (λe=>e aq.1);have mH:=iW.OH kQ (λe=>e aq.2);by_cases el:R5 (Zm G.g T.g s.phase s k).1.label k
    ·rw[decide_eq_true el];refine OT O$ P4 zd7 O$ qV (OS zhm O O aK O)$ OT O$ Qw O O (RW (zkr rx) O O) (zau h5 jv ht ω mH ⟨aq.2,Jk⟩ jV el rx) ?_;rintro _ w6 ⟨rfl,hW⟩;obtain⟨⟨txt6,K6,h6,Ox,Jc⟩,aN⟩:=hW
     have iX:Zm G.g T.g s.phase s (k+1)=((ZQ G.g T.g s.phase (Zm G.g T.g s.phase s k).1 k).1,(ZQ G.g T.g s.phase (Zm G.g T.g s.phase s k).1 k).2 ||(Zm G.g T.g s.phase s k).2):=by
      rw[AL];unfold vtF;rw[if_pos el]
     rw[show(ZQ G.g T.g s.phase (Zm G.g T.g s.phase s k).1 k).1=(Zm G.g T.g s.phase s (k+1)).1 by rw[iX]] at h6;have iz:(Zm G.g T.g s.phase s (k+1)).2=((ZQ G.g T.g s.phase (Zm G.g T.g s.phase s k).1 k).2 ||(Zm G.g T.g s.phase s k).2):=by rw[iX]
     have lP:=ih (k+1) w6 ⟨ω,⟨txt6,K6,h6,ω,λy e=>(Jc y e).trans (nw y e)⟩,(ar.trans iW).trans aN⟩ ω;rw[iz] at lP
     generalize (ZQ G.g T.g s.phase (Zm G.g T.g s.phase s k).1 k).2=o at lP
     cases o with
     | true =>
       refine Ra O$ OT O$ qS$ Ra O$ P3 O$ OG$ OQ O$ Q4 O$ OT O$ OJ ?_
       exact lP.qb
     | false =>
       refine Ra O$ Pl O$ PT O$ P3 O$ OG$ OQ O$ Q4 O$ OT O$ OJ ?_;exact lP.qb
    ·rw[decide_eq_false el];refine OT O$ QY$ QY$ PT O$ Pl O$ PT O$ P3 O$ OG$ OQ O$ Q4 O$ OT O$ OJ ?_
     have iX:Zm G.g T.g s.phase s (k+1)=Zm G.g T.g s.phase s k:=by
      rw[AL];unfold vtF;rw[if_neg el]
     have lP:=ih (k+1) w5 ⟨ω,⟨txt4,K4,by rw[iX];exact h5,ω,nw⟩,ar.trans iW⟩ ω;rw[iX] at lP;exact lP.qb
   ·have jV : k = G.g.length := by omega
    refine OV O$ An$ PI (λe' w'=>e'=[(0,ptr rr 0),(2,.bool false)]/\(∃txt' K',Qt (Sx false T.k) G T Q txt' K' X1 rr O_ a L (s.go G.g T.g) w'/\K'<=K+9000/\∀y:Int,y<(a:Int)\/(a:Int)+(L:Int)<=y->txt' y=txt y)/\Kp (λb=>¬X1 b\/O_ b) w1 w') ?cX$ λcX=>?iP
    case cX =>
     rintro e' w9 ⟨rfl,⟨txt9,K9,h9,Jl,BV⟩,aw⟩;have gT:UP G.g (s.go G.g T.g):=hI.go mR;obtain⟨vl9,vc9,vm9,oX⟩:=h9.sc;have pp:=Qt.cells oX;have oO:Kp (λb=>¬X b\/O_ b) w w9:=(ad.kp.trans aw).ON λb e=>e.imp (λe e2=>e (cZ _ e2)) id;refine PR O$ Pw O$ P4 XL O$ qV (OS Z8 O O pp O)$ Pb z6W O (h9.z7O) ?_;rintro _ w9 ⟨rfl,rfl⟩;refine OT O$ OJ$ OL$ RN (α:=Nat) (0) (λk=>[(0,ptr rr 0),(2,.bool false),(74,I (G.g.length:Int)),(75,I (k:Int))]) (λk w'=>k<=G.g.length/\(∀v,v<k->¬R5 (s.go G.g T.g).label v)/\Qt (Sx false T.k) G T Q txt9 K9 X1 rr O_ a L (s.go G.g T.g) w'/\Kp (λb=>¬X b\/O_ b) w w') (λk=>G.g.length-k) ?hI ?hround
     case hI=>exact⟨Nat.zero_le _,λv hv=>absurd hv (Nat.not_lt_zero _),h9,oO⟩
     case hround =>
      rintro k wa ⟨hk,cO,ha,bH⟩ ih;dsimp only at ih⊢
      try dsimp only
      refine qN O$ QV O$ OJ$ An$ OX O (λh1=>?_)$ λh1=>?_
      ·have jV:k<G.g.length:=by omega
       refine OK$ QO$ Pt O$ QW O$ Pl O$ Pb zd1 O (VL ha (by rw[gT.ln];exact jV)) ?_;rintro _ wb ⟨rfl,gN,aY⟩;have lh:Kp (λb=>¬X b\/O_ b) wa wb:=aY.ON λb e=> .inl λe2=>e (.inl (.inl (cZ _ e2)));by_cases el:R5 (s.go G.g T.g).label k
       ·rw[decide_eq_true el];refine OJ$ OZ O$ QN O$ OI func37 O ?_;exact⟨_,rfl,by rw[(z1d gT.ln).2 ⟨k,el⟩];rfl,⟨txt9,K9,gN.less cZ h.xk h.xr,Jl,BV⟩,bH.trans lh⟩
       ·rw[decide_eq_false el];refine Qm O$ OG$ OQ O$ Q4 O$ OT O$ OJ ?_
        exact(ih (k+1) wb ⟨ω,λv hv=>by
         by_cases e:v=k
         ·rw[e];exact el
         ·exact cO v ω,gN,bH.trans lh⟩ ω).qb
      ·have jV:k=G.g.length:=by omega
       refine OV O$ QN O$ OI func37 O ?_
       have ho:z1x (s.go G.g T.g).label G.g.length=true:=by
        cases e:z1x (s.go G.g T.g).label G.g.length with
        |true=>rfl
        | false =>
          obtain⟨v,hv⟩:=(z1d gT.ln).1 e;have h1:=RK hv;rw[gT.ln] at h1;exact absurd hv (cO v ω)
       rw[ho];exact⟨_,rfl,rfl,⟨txt9,K9,ha.less cZ h.xk h.xr,Jl,BV⟩,bH⟩
    case iP =>
     subst jV;have wT:=zfF (t:=T.g) rx hI.mn
     cases iz:(Zm G.g T.g s.phase s G.g.length).2 with
     | true =>
       rw[iz] at wT;rw[if_pos O] at wT;refine Pt O$ qV ((S5 O))$ Qm O ?_
       exact(cX _ _ ⟨rfl,⟨txt4,K4,by rw[wT];exact h4,ω,nw⟩,ar.ON λb e=> .inl e⟩).qb
     | false =>
       rw[iz] at wT;rw[if_neg ψ] at wT;rw[zf9 rx iz] at h4;obtain⟨vl4,vc4,vm4,mT⟩:=h4.sc;have fd:=Qt.cells mT;refine Pt O$ qV ((S5 O))$ OJ$ OZ O$ PR O$ Pw O$ P4 z62 O$ qV (OS U84 O O fd O)$ Rk O$ OJ$ PI (λe' w'=>e'=[(0,ptr rr 0),(2,.bool false),(3,ptr b3 0)]/\(∃txt' K',Qt (Sx false T.k) G T Q txt' K' X1 rr O_ a L (Vz s.phase s) w'/\K'<=K+2000/\∀y:Int,y<(a:Int)\/(a:Int)+(L:Int)<=y->txt' y=txt y)/\Kp (λb=>¬X1 b) w1 w') ?bL$ λbL=>?tX
       case bL =>
        rintro e' w5 ⟨rfl,⟨txt5,K5,h5,Nj,AM⟩,aj⟩;have kB:UP G.g (Vz s.phase s):=hI.fil;obtain⟨vl5,vc5,vm5,C3⟩:=h5.sc;have lZ:=Qt.cells C3;refine PR O$ Pw O$ P4 XL O$ qV (OS Z8 O O lZ O)$ Pb z6W O (h5.z7O) ?_;rintro _ w5 ⟨rfl,rfl⟩;refine OT O$ OJ$ OL$ RN (α:=Nat) (0) (λk=>[(0,ptr rr 0),(2,.bool false),(3,ptr b3 0),(53,I (G.g.length:Int)),(54,I (k:Int))]) (λk w'=>k<=G.g.length/\(∃txt' K',Qt (Sx false T.k) G T Q txt' K' X1 rr O_ a L (rtL s.phase (Vz s.phase s) k) w'/\K'<=K5+k/\∀y:Int,y<(a:Int)\/(a:Int)+(L:Int)<=y->txt' y=txt y)/\Kp (λb=>¬X1 b) w1 w') (λk=>G.g.length-k) ?hI ?hround
        case hI=>exact⟨Nat.zero_le _,⟨txt5,K5,h5,Nat.le_refl _,AM⟩,aj⟩
        case hround=>
         rintro k wa ⟨hk,⟨txta,Ka,ha,Oy,H1⟩,bH⟩ ih;dsimp only at ih⊢;have C1:=bH.OH ai (λe=>e aq.1);have jH:=bH.OH oC (λe=>e aq.2);have Jm:=kB.rts (ph:=s.phase) mR k hk;have AL:=Wt (s:=Vz s.phase s) (k:=k) s.phase
         try dsimp only
         refine qN O$ QV O$ OJ$ An$ OX O (λh1=>?_)$ λh1=>?_
         ·have jV:k<G.g.length:=by omega
          refine OK$ QO$ Pt O$ QW O$ Pl O$ Pb zd1 O (VL ha (by rw[Jm.ln];exact jV)) ?_;rintro _ wb ⟨rfl,gN,aY⟩;have lh:Kp (λb=>¬X1 b) wa wb:=aY.ON λb e e2=>e (.inl (.inl e2));have su:=lh.OH C1 (λe=>e aq.1);have vx:=lh.OH jH (λe=>e aq.2);by_cases el:R5 (rtL s.phase (Vz s.phase s) k).label k
          ·rw[decide_eq_true el];refine OJ$ OZ O$ OQ O$ P4 zd8 O$ qV (OS zjA O O su O)$ OT O$ Qw O O (RW (zkB rx) O O) (zaL gN Jm ω vx ⟨aq.2,Jk⟩ jV rx) ?_;rintro _ wc hW;obtain⟨⟨txtc,Kc,hc,Oz,Nk⟩,ao⟩:=hW
           have iX:rtL s.phase (Vz s.phase s) (k+1)=rtS s.phase (rtL s.phase (Vz s.phase s) k) k:=by
            rw[AL];unfold rtF;rw[if_pos el]
           rw[<-iX] at hc;have lP:=ih (k+1) wc ⟨ω,⟨txtc,Kc,hc,ω,λy e=>(Nk y e).trans (H1 y e)⟩,(bH.trans lh).trans ao⟩ ω;refine OJ$ OG$ OQ O$ Q4 O$ OT O$ OJ ?_;exact lP.qb
          ·rw[decide_eq_false el];refine Qm O$ OG$ OQ O$ Q4 O$ OT O$ OJ ?_
           have iX:rtL s.phase (Vz s.phase s) (k+1)=rtL s.phase (Vz s.phase s) k:=by
            rw[AL];unfold rtF;rw[if_neg el]
           have lP:=ih (k+1) wb ⟨ω,⟨txta,Ka,by rw[iX];exact gN,ω,H1⟩,bH.trans lh⟩ ω;exact lP.qb
         ·have jV:k=G.g.length:=by omega
          obtain⟨vla,vca,vma,nv⟩:=ha.sc;have AE:=Qt.cells nv;refine OV O$ Rp O$ P4 zcw O$ qV ((OS U84 O O C1 O))$ Pw O$ P4 z62 O$ OY O (QP zbQ O O O AE ξ) ?_;rintro wb ⟨Bb,aY⟩;have gN:Qt (Sx false T.k) G T Q txta Ka X1 rr O_ a L {rtL s.phase (Vz s.phase s) k with phase:=zd4 s.phase} wb:=ha.set aY (λb e=>by rw[e];exact nv.o.1) ⟨vla,vca,vma,nv.put aY Bb O O O⟩;rw[jV] at gN;rw[<-wT] at gN;refine OJ ?_;exact(cX _ _ ⟨rfl,⟨txta,Ka,gN,ω,H1⟩,(bH.ON λb e=> .inl e).trans (aY.ON λb e=> .inr (by rw[e];exact nv.o.1))⟩).qb
       case tX=>
        by_cases ep:s.phase=1
        ·rw[show decide ((s.phase:Int)=1)=true from decide_eq_true ω];refine OZ O$ Rp O$ Pw O$ P4 WC O$ qV (OS Zj O O fd O)$ Pb zf0 O (Y5 h4.sp h4.lt ω mT.mar (.inl (.inl (h4.xr _ mT.o.2.2.2))) (x:=0) ψ) ?_;rintro _ w5 ⟨rfl,hW⟩;rw[Xe mT.n.2.2] at hW;obtain⟨txt5,h5,AM,aj⟩:=h4.z74 mT (List.length_replicate ..) ω hW;refine Pb z2X O (Sy _) ?_;rintro _ w5 rfl;refine OJ ?_
         have hf:Vz s.phase s={s with mark:=List.replicate s.mark.length 0}:=by
          unfold Vz;rw[if_pos ep]
         exact(bL _ _ ⟨rfl,⟨txt5,K4+1,by rw[hf];exact h5,ω,λy e=>(AM y e).trans (nw y e)⟩,ar.trans (aj.ON λb e e2=>e (.inl (.inl e2)))⟩).qb
        ·rw[show decide ((s.phase:Int)=1)=false from decide_eq_false ω];refine SO O ?_
         have hf:Vz s.phase s=s:=by
          unfold Vz;rw[if_neg ep]
         exact(bL _ _ ⟨rfl,⟨txt4,K4,by rw[hf];exact h4,ω,nw⟩,ar⟩).qb
 case H2=>
  have hg:=Ext.Pa w;have OA:=hg.size;refine R0 (λw'=>Kp (λj=>w.heap.size<=j) w w') O$ P8 0 O O (hg.kp)$ P8 2 O O (hg.kp)$ OM 3 O (Qd O) (hg.kp)$ OM 4 O (Px z62 O) (hg.kp)$ qT 5 O (λ_ h=>OS U84 O O (h.OH hR ω) O) (hg.kp)$ zk1 (i:=1) (j:=7) (by kernel_rfl) ?_ ?_
  ·refine W7 (i:=1) O O O (yc zhZ O) (Yo _) ?_;rintro _ w2 ⟨bx,rfl,jG,fi,am⟩;refine⟨hg.kp.trans (am.ON λj e=>by omega),?_⟩;have mY:=am.size;have im:=jG.lt;refine OM 6 O (zdj (n:=s.phase) (len:=3) zcv Xx zhO O O O ω) (hg.kp.trans (am.ON λj e=>by omega)) ?_;rw[ze2 rx];refine qO 7$ Xp (i:=7) O O O (Rz (cs:=[_,_,_]) Xx O) ?_;rintro _ w3 ⟨b3,rfl,dI,ah,au⟩;refine⟨(hg.kp.trans (am.ON λj e=>by omega)).trans ah.kp,?_⟩;refine qO 8$ PJ (i:=8) O O (PL Xx O O O O au ξ) ?_;rintro w4 ⟨aM,ar⟩;refine⟨((hg.kp.trans (am.ON λj e=>by omega)).trans ah.kp).trans (ar.ON λj e=>by omega),?_⟩;refine qE ?_;exact(GZ _ _ ⟨b3,bx,rfl,aM,ar.OH (ah.OH jG) ω,ω,ω,ω,((hg.kp.trans (am.ON λj e=>by omega)).trans ah.kp).trans (ar.ON λj e=>by omega)⟩).qb
  ·refine Xp (i:=7) O O O (Rz (cs:=[_,_,_]) Xx O) ?_;rintro _ w2 ⟨b3,rfl,dI,ae,ak⟩;refine⟨hg.kp.trans ae.kp,?_⟩;have mY:=ae.size;have im:=ak.lt;refine S1 1 O zhZ O (Yo _) ?_;rintro _ w3 ⟨bx,rfl,iQ,fi,av⟩;refine⟨(hg.kp.trans ae.kp).trans (av.ON λj e=>by omega),?_⟩;have au:=av.OH ak ω;refine OM 6 O (zdj (n:=s.phase) (len:=3) zcv Xx zhO O O O ω) ((hg.kp.trans ae.kp).trans (av.ON λj e=>by omega)) ?_;rw[ze2 rx];refine qO 8$ PJ (i:=8) O O (PL Xx O O O O au ξ) ?_;rintro w4 ⟨aM,ar⟩;refine⟨((hg.kp.trans ae.kp).trans (av.ON λj e=>by omega)).trans (ar.ON λj e=>by omega),?_⟩;refine qE ?_;exact(GZ _ _ ⟨b3,bx,rfl,aM,ar.OH iQ ω,ω,ω,ω,((hg.kp.trans ae.kp).trans (av.ON λj e=>by omega)).trans (ar.ON λj e=>by omega)⟩).qb
end
theorem z4m {P:Program}{ρ:Operand->Value}{o:Oper}{c:Call}{w:World}(ho:o.op= .call c)(hc:c.callee= .builtin .recover)(ha:c.args.toList=[]):(execOp ρ o).run P w= .ok .recover w:=by
 obtain⟨callee,args,tys⟩:=c
 simp only at hc ha
 subst hc
 have:args=#[]:=Array.toList_inj.1 ha
 subst this
 simp[execOp,ho,go_sem]
def z36 {P:Program}{f:FuncId}{fn:Func}{id:Nat}{ops:Array Oper}{c2:Code}{args:List Value}{e:Env}{w:World}{S:Value->World->Prop}{n d:Nat}{o:Oper}{rest:List Oper}{c:Call}
  (hf:P.funcs[f]? =some fn) (hb:fn.body=some (.seq (.region id ops false) c2)) (hnt:fn.ntmps=n) (hn:Nat.ble args.length n=true) (he:envOf 0 args=e)
  (hops:ops.toList=o::rest) (hg:o.guard=none) (hop:o.op= .call c) (hcal:c.callee= .builtin .recover) (hca:c.args.toList=[]) (hdst:o.dst=some d) (hd:Nat.blt d n=true) (ho:RT n ops.toList=true)
  (h:RL ⟨⟨P,f,S,n,none,[],true⟩,ops.toList,[.code c2],ho⟩ rest ((d,.nilIface)::e) w):za0 P f args w S:=by
 subst hnt
 refine⟨trivial,λc0 cs hm _=>?_⟩
 let b:Frame:={(default:Frame) with fn:=f,kind:= .deferred,roundOf:=none}
 have hn':args.length<=fn.ntmps:=by simpa using hn
 let a:Act:={tmps:=args.toArray++Array.replicate (fn.ntmps-args.toArray.size) undef,defers:=[]}
 have henter:Frame.enter P f args.toArray .deferred=b.atR a [.code (.seq (.region id ops false) c2)]:=by
  simp[Frame.enter,Frame.atR,hf,hb,b,a]
 have hok:WO fn.ntmps [] e a:=by
  refine⟨by simp[a];omega,rfl,λi v hi=>?_⟩;subst he;obtain⟨-,h2⟩:=WY args 0 i v hi;simp at h2
  have hlt:i<args.length:=by
   rcases Nat.lt_or_ge i args.length with h| h
   ·exact h
   ·simp[List.getElem?_eq_none h] at h2
  have h3:args[i]=v:=by simpa[List.getElem?_eq_getElem hlt] using h2
  simp only[a,Array.getD];rw[dif_pos (by simp;omega)];simp[hlt,h3]
 have hok':=hok.put hd .nilIface
 have h0:ops[0]? =some o:=by
  rw[<-Array.getElem?_toList,hops];rfl
 have hrange:List.range ops.size=0::List.range' 1 rest.length:=by
  have:ops.size=rest.length+1:=by rw[<-Array.length_toList,hops];rfl
  rw[this,List.range_eq_range',List.range'_succ]
 -- recover
 have hgs:=stepGR_op (P:=P) (b:=b) (a:=a) (k:=[.code c2]) (cs:=c0::cs) (w:=w) (ops:=ops) (i:=0) (rest:=List.range' 1 rest.length) h0 (by simp[Region.wanted,hg])
 rw[show b.roundOf=none from rfl,Oper.semAt_none] at hgs
 have hfin:(b.atR a (.inRegion ops (0::List.range' 1 rest.length)::[.code c2])).finish .nilIface=b.atR (a.put o.dst .nilIface) (.inRegion ops (List.range' 1 rest.length)::[.code c2]):=by
  rw[Frame.finish_atR,h0];rfl
 have htr:=tryRecover_deferred (show(b.atR a (.inRegion ops (0::List.range' 1 rest.length)::[.code c2])).kind= .deferred from rfl) (c0::cs)
 have hrec:recoverD (c0::cs)=none:=by simp[recoverD,hm]
 have hstep:step P (lone (b.atR a (.inRegion ops (0::List.range' 1 rest.length)::[.code c2])) (c0::cs) w)= .next (lone (b.atR (a.put (some d) .nilIface) (.inRegion ops (List.range' 1 rest.length)::[.code c2])) (c0::cs) w):=by
  refine step_lone_go ?_;rw[<-hdst,hgs,<-hfin];simp only[Frame.atR,show b.roundOf=none from rfl] at htr⊢;simp[stepG.apply,z4m hop hcal hca,htr,hrec]
 -- the rest
 have hl:=h _ hok'
 have hl':wpOpsIn (WF none) 0 P ops (QK ⟨P,f,S,fn.ntmps,none,[],true⟩ [.code c2]) (List.range' 1 rest.length) (a.put (some d) .nilIface) w:=by
  rw[wpOpsIn_eq_wpListIn rest 1 (λj=>by
   rw[<-Array.getElem?_toList,hops,Nat.add_comm];rfl)]
  simpa using hl
 obtain⟨x,a',w',q,harr⟩:=wp_opsIn _ _ _ hl' b [.code c2] (c0::cs) O trivial (z7G _ _)
 have hland:ZM P f none true (WA S) (lone (b.atR (a.put (some d) .nilIface) (.inRegion ops (List.range' 1 rest.length)::[.code c2])) (c0::cs) w) (c0::cs):=by
  cases x with
  |normal=>exact(q b O O O (c0::cs)).of_steps (StepsIn.steps harr)
  |outgrown=>exact q.elim
  |exit id=>exact q.elim
  |goto l=>exact q.elim
  |ret=>exact q.elim
  |panic ch=>exact q.elim
 have s1:step P (lone (b.atR a [.code (.seq (.region id ops false) c2)]) (c0::cs) w)= .next (lone (b.atR a (.code (.region id ops false)::[.code c2])) (c0::cs) w):=stepR_seq
 have s2:step P (lone (b.atR a (.code (.region id ops false)::[.code c2])) (c0::cs) w)= .next (lone (b.atR a (.inRegion ops (0::List.range' 1 rest.length)::[.code c2])) (c0::cs) w):=by
  rw[<-hrange];exact stepR_region
 have hall:=hland.of_steps (.head s1 (.head s2 (.one hstep)))
 obtain⟨x,w',fr,hR,hc,hfn,hk,hg⟩:=hall
 have hcc:({c0 with mode:= .returning}:Frame)=c0:=by cases c0;simp_all
 rw[henter]
 exact⟨x,.returning,w',fr,⟨rfl,hR⟩,by rw[hcc];exact comesIn_wide.2 hc,hk,hfn,hg⟩
section
variable {P:Program}{e:Env}{w:World}{t t' ty:TypeId}{d:Option Tmp}{x:Operand}{pos:String}{aft:Array Edge}{g:Option (Nat×Bool)}
def zgG {ms:Array (String×TypeId)}(ht:P.underlying t=some (.interface ms))(hx:look e x=some .nilIface):Y P e ⟨d,.binOp .eql t x (.const .nilIface) t',ty,pos,aft,g⟩ (.bool true) w w:=fun ρ hρ=>by
 have h1:(Op.equal t .nilIface .nilIface).run P w= .ok true w:=by
  have hA:∀n,(Op.equalIn (n+1) t .nilIface .nilIface).run P w= .ok true w:=λn=>by simp[Op.equalIn,run_underlying ht]
  exact hA 9999
 have h2:eqGuard .eql t x (.const .nilIface) .nilIface .nilIface=pure ():=by cases x<;>rfl
 have h3:binOp .eql t .nilIface .nilIface=(do pure (.bool (<-Op.equal t .nilIface .nilIface))):=rfl
 have h4:ρ (.const .nilIface)= .nilIface:=hρ _ _ O
 simp only[execOp,hρ _ _ hx,h4,h2,h3,pure_bind,Sem.run_bind,h1,Result.andThen,Sem.run_pure]
end
section
variable {G T:GwP}{w w':World}{sw:Bool}{Q:Rg}{txt txt':Int->OO}{K K' ok:Nat}{X O_:Nat->Prop}{rr a L vl vc vm:Nat}{s:Sk}
theorem zc5 {g t:List (List Nat)}:(s.go g t).steps=s.steps:=by
 unfold Sk.go
 dsimp only
 split
 ·split<;>rfl
 ·split
  ·split<;>rfl
  ·split<;>rfl
def Qt.zgr (h:Qt (Sx sw ok) G T Q txt K X rr O_ a L s w)(db:∀j,w.heap.size<=j->¬O_ j){j:Nat}(hj:w.heap.size<=j):j≠G.k/\j≠G.x/\j≠T.k/\j≠T.x/\j≠1/\j≠2/\¬O_ j:=h.far j hj
theorem ZL (h:Qt (Sx false T.k) G T Q txt K X rr O_ a L s w):Ps prog 35 [ptr rr 0] w λr w'=>r=I 0/\w'=w:=by
 obtain⟨vl,vc,vm,hV⟩:=h.sc
 have hR:=Qt.cells hV
 refine py (e:=[(0,_)]) func35 O ntmps35 O O$ QN O$ QO$ Pt O$ qV (Qb Xi O O)$ P3 O$ OR O$ Pt O$ Pw O$ P4 zbC O$ qV (OS U4 O O hR O)$ P3 O$ SO O$ OG ?_
 refine QN O$ OI func35 O ?_
 exact⟨_,rfl,rfl,rfl⟩
def z3g {b1 b2 b3:Nat}:za0 prog 36 [ptr b1 0,ptr b2 0,ptr b3 0] w λu w'=>w'=w:=by
 refine z36 (e:=[(0,_),(1,_),(2,_)]) func36 O ntmps36 O O O O O O O O O O$ OJ$ OL$ qN O$ qV (zgG U20 O)$ OJ$ OZ O$ OQ O$ P3 O$ OG$ z4v O O O func36$ λa ha=>⟨_,Te ha _ _ _ _ O,?_⟩
 exact⟨_,rfl,rfl⟩
theorem z4E (h:Qt (Sx false T.k) G T Q txt K X rr O_ a L s w)(hI:UP G.g s)(ht:T.g.length=G.g.length)(hK:K<=800000000000)(hd:s.done=false)(lM:s.steps<=1000000000000):Ps prog 14 [ptr rr 0] w λr w'=>r= .tuple #[.bool (s.step G.g T.g).done,I 0]/\(∃txt' K',Qt (Sx false T.k) G T Q txt' K' X rr O_ a L (s.step G.g T.g) w'/\K'<=K+9000/\∀y:Int,y<(a:Int)\/(a:Int)+(L:Int)<=y->txt' y=txt y)/\Kp (λb=>¬X b\/O_ b) w w':=by
 obtain⟨vl,vc,vm,hV⟩:=h.sc
 have hR:=Qt.cells hV
 have gI:=h.xr _ hV.o.1
 have aQ:∀b,X b->b<w.heap.size:=λb hb=>h.lt b (.inl (.inl hb))
 have xj:=aQ _ gI
 refine py (e:=[(0,_)]) func14 O ntmps14 O O$ qN O$ OP O O (R6 O (cs:=[ptr rr 0]) O) ?_
 rintro _ w1 ⟨b1,rfl,bK,ad,ai⟩
 refine OP O O (Rz (cs:=[_]) UH O) ?_
 rintro _ w2 ⟨b2,rfl,bN,ae,ak⟩
 refine OP O O (Rz (cs:=[_]) z3i O) ?_
 rintro _ w3 ⟨b3,rfl,dI,ah,au⟩
 replace ak:OU w2 b2 [.bool false] 4:=ak
 replace au:OU w3 b3 [I 0] 44:=au
 have cj:=(ad.trans ae).trans ah
 have z1:=ad.size
 have z2:=ae.size
 have z3:=ah.size
 have l1:=ai.lt
 have l2:=ak.lt
 have l3:=au.lt
 have bX:=ah.OH (ae.OH ai)
 have bE:=ah.OH ak
 obtain⟨X1,dl⟩:∃X1:Nat->Prop,(λj=>X j\/j=b1\/j=b2\/j=b3)=X1:=⟨_,rfl⟩
 have cZ:∀j,X j->X1 j:=λj hj=>by rw[<-dl];exact .inl hj
 have aq:X1 b1/\X1 b2/\X1 b3:=by rw[<-dl];exact⟨.inr (.inl O),.inr (.inr (.inl O)),.inr (.inr (.inr O))⟩
 have db:∀j,w.heap.size<=j->¬O_ j:=λj hj e=>by have:=aQ _ (h.xr _ e);omega
 have h3:Qt (Sx false T.k) G T Q txt K X1 rr O_ a L s w3:=h.grow cj (λj hj=>by rw[<-dl] at hj;exact hj.imp id λe=>by omega) cZ
 have lN:=cj.OH hR
 refine OJ$ An$ qN O$ qV ((OS Xi O O bX O))$ Pb zgW O (ZL h3) ?_
 rintro _ w3 ⟨rfl,rfl⟩
 refine R3 O$ QF O$ OJ$ OX O (λc0=>?_)$ λc0=>?_
 ·exact absurd O c0
 ·refine OK$ An$ qN O$ qV ((OS Xi O O bX O))$ Pw O$ P4 z3p O$ qV ((OS U4 O O lN O))$ OJ ?_;rw[hd];refine SO O$ qN O$ qV (ZR (first:=[]) (caps:=[.tmp 1,.tmp 2,.tmp 3]) O O)$ zaz O O (ydf O)$ OJ$ An ?_;have hg:=Ext.Pa w3;have Nl:=h3.ext hg;refine R0 (λw'=>Kp (λb=>¬X1 b\/O_ b) w3 w') O$ qT 0 O (λ_ hS=>OS Xi O O (hS.OH bX (λe=>e.elim (λe=>e aq.1) (db _ ω))) O) (hg.kp)$ qT 1 O (λ_ hS=>OS Xi O O (hS.OH bX (λe=>e.elim (λe=>e aq.1) (db _ ω))) O) (hg.kp)$ S1 2 O zk8 O (z6m Nl hI ht hK) ?_;rintro _ w4 ⟨rfl,⟨txt4,K4,h4,H0,nw⟩,ry⟩;refine⟨hg.kp.trans ry,?_⟩;have ar:Kp (λb=>¬X1 b\/O_ b) w3 w4:=hg.kp.trans ry;obtain⟨vl4,vc4,vm4,mT⟩:=h4.sc;have fd:=Qt.cells mT;refine OM 3 O (Qd O) (hg.kp.trans ry)$ OM 4 O (Px z3p O) (hg.kp.trans ry)$ qO 5$ PJ (i:=5) O O (QP UH O O O fd ξ) ?_;rintro w5 ⟨lZ,aj⟩;refine⟨ar.trans (aj.ON λb e=> .inr (by rw[e];exact mT.o.1)),?_⟩;have h5:Qt (Sx false T.k) G T Q txt4 K4 X1 rr O_ a L {s.go G.g T.g with done:=z1x (s.go G.g T.g).label G.g.length} w5:=h4.set aj (λb e=>by rw[e];exact mT.o.1) ⟨vl4,vc4,vm4,mT.put aj lZ O O O⟩;have fx:Kp (λb=>¬X1 b\/O_ b) w3 w5:=ar.trans (aj.ON λb e=> .inr (by rw[e];exact mT.o.1));obtain⟨vl5,vc5,vm5,C3⟩:=h5.sc
  have AN:OU w5 rr [ptr G.k 0,ptr T.k 0,ptr vl5 0,ptr vc5 0,ptr vm5 0,I (s.steps:Int),I ((s.go G.g T.g).phase:Int),.bool (z1x (s.go G.g T.g).label G.g.length),.bool false] 86:=by
   have:=Qt.cells C3;rw[<-zc5 (s:=s) (g:=G.g) (t:=T.g)];exact this
  have eS:=fx.OH bX (λe=>e.elim (λe=>e aq.1) (db _ ω));have dE:=fx.OH bE (λe=>e.elim (λe=>e aq.2.1) (db _ ω));have cU:=fx.OH au (λe=>e.elim (λe=>e aq.2.2) (db _ ω));have Nm:rr≠b1/\rr≠b2/\rr≠b3:=by omega
  refine qE$ qN O$ qV ((OS Xi O O eS O))$ Pw O$ P4 zbI O$ qV ((OS U3 O O AN O))$ Q4 O$ Pw O$ P4 zbI O$ OY O (QP Qe O O O AN ξ) ?_;rintro w6 ⟨ie,aN⟩;have h6:Qt (Sx false T.k) G T Q txt4 K4 X1 rr O_ a L (s.step G.g T.g) w6:=h5.set aN (λb e=>by rw[e];exact mT.o.1) ⟨vl5,vc5,vm5,C3.put aN ie O O O⟩;have kX:=aN.OH eS ω;have gO:=aN.OH dE ω;have jj:=aN.OH cU ω;replace ie:OU w6 rr [ptr G.k 0,ptr T.k 0,ptr vl5 0,ptr vc5 0,ptr vm5 0,I ((s.steps:Int)+1),I ((s.go G.g T.g).phase:Int),.bool (z1x (s.go G.g T.g).label G.g.length),.bool false] 86:=ie;refine OJ$ Pu.qb (e:=[(1,_),(2,_),(3,_)]) ?_;refine qN O$ qV ((OS Xi O O kX O))$ Pw O$ P4 z3p O$ qV ((OS U4 O O ie O))$ OY O (QP UH O O O gO ξ) ?_;rintro w7 ⟨H3,aB⟩;have kj:=aB.OH jj ω;refine OY O (QP z3i O O O kj ξ) ?_;rintro w8 ⟨nH,aL⟩;have yg:=aL.OH H3 ω;refine OJ$ z2L func14 zkA (z3g (b1:=b1) (b2:=b2) (b3:=b3)) ?_;rintro u w' rfl;refine⟨_,.cell1 U4 O O ((yg).cell _) (.cell1 U44 O O ((nH).cell _) .nil),_,rfl,rfl,⟨txt4,K4,?_,H0,nw⟩,?_⟩
  ·exact((h6.own aB (λj e=>by subst e;exact⟨aq.2.1,h.zgr db ω⟩)).own aL (λj e=>by subst e;exact⟨aq.2.2,h.zgr db ω⟩)).less cZ h.xk h.xr
  ·have H4:Kp (λb=>¬X1 b\/O_ b) w3 w6:=fx.trans (aN.ON λb e=> .inr (by rw[e];exact mT.o.1));exact(((cj.kp.trans (H4.ON λb e=>e.imp (λe e2=>e (cZ _ e2)) id)).trans (aB.ON λb e=> .inl λe2=>by have:=aQ _ e2;omega)).trans (aL.ON λb e=> .inl λe2=>by have:=aQ _ e2;omega))
end
end Go.Proofs.YtffbidffdbpcoaaGreatDoor
