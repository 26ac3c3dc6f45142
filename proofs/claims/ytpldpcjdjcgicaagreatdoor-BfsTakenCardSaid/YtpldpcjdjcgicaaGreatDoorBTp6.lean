/- Merged by program. -/
import Derived.Test.YtpldpcjdjcgicaaGreatDoorBTp5
set_option linter.all false
set_option maxRecDepth 1000000
set_option maxHeartbeats 16000000
namespace Go.Proofs.YtpldpcjdjcgicaaGreatDoor
open Go Go.RowKit
def Sj (p:MZ)(g:List (List Nat))(E:List (Nat×Nat)):PHd:=⟨g.length,N2 g,p,(N6 p g E g.length).length⟩
def Y3 (p:MZ)(g:List (List Nat))(E:List (Nat×Nat)):Fm:=Qj (g.length+1) ((N6 p g E g.length).length+1)
structure Pm (p:MZ)(g:List (List Nat))(E:List (Nat×Nat)):Prop where
 N4:p.N4
 gr:Og g
 n1:1<=g.length
 pk:z6R p g E
section
variable {p:MZ}{g:List (List Nat)}{E:List (Nat×Nat)}
theorem Pm.head (h:Pm p g E):(Sj p g E).N4:=by
 have hn:=h.gr.n
 have hb:=h.pk.bits
 have sL:=Qk h.gr g.length
 rw[List.take_length] at sL
 exact⟨h.n1,(by show g.length<=_;omega),(by show N2 g<=_;omega),(by show(N6 p g E g.length).length<=_;omega),h.N4⟩
theorem Pm.ef (h:Pm p g E):RI (Ss p g E g.length) (Y3 p g E) (N6 p g E g.length).length:=by
 have hn:=h.gr.n
 have hb:=h.pk.bits
 have aB:=ZI p g E g.length
 refine⟨by omega,by omega,z3w p g E g.length,?_,by omega,?_⟩
 ·rw[aB,Nat.add_sub_cancel];exact Wz p g E (Nat.le_refl g.length)
 ·rw[aB];rfl
def Sn (p:MZ)(g:List (List Nat))(E:List (Nat×Nat)):Nat:=28+((N6 p g E g.length).length+7) / 8
theorem Pm.len (h:Pm p g E):(TL p g E).length=Sn p g E+(Y3 p g E).size:=by
 unfold TL Sn
 rw[List.length_append,List.length_append,Th,Mv]
 have:=h.ef.len
 show _+(UK (Ss p g E g.length) (Y3 p g E)).length=_
 rw[this]
theorem Pm.small (h:Pm p g E):(TL p g E).length<=50000000/\40<=(TL p g E).length:=by
 have h1:=h.ef.size_le
 have h2:=h.len
 have h3:=h.pk.bits
 unfold Sn at h2
 omega
theorem z8Z:((TL p g E).drop 0).take 28=hdT (Sj p g E):=by
 unfold TL
 rw[List.drop_zero,List.append_assoc,<-Th (Sj p g E)]
 exact List.take_left
theorem Pm.index (h:Pm p g E):((TL p g E).drop (Sn p g E)).take (Y3 p g E).size=UK (Ss p g E g.length) (Y3 p g E):=by
 have h1:(hdT (Sj p g E)++Mi (N6 p g E g.length)).length=Sn p g E:=by
  rw[List.length_append,Th,Mv];rfl
 have h2:=h.ef.len
 unfold TL
 show((hdT (Sj p g E)++Mi (N6 p g E g.length)++UK (Ss p g E g.length) (Y3 p g E)).drop _).take _=_
 rw[<-h1,List.drop_left,<-h2,List.take_length]
theorem z8V (h:Pm p g E)(a n:Nat)(hn:8*(a+n)<=(N6 p g E g.length).length+7):((TL p g E).drop (28+a)).take n=((Mi (N6 p g E g.length)).drop a).take n:=by
 unfold TL
 exact piece (by rw[Th]) (by rw[Mv];omega)
end
def gwC (h:PHd)(t:TypeId)(u:Value)(x:Nat):List Value:=[I (h.n:Int),I (h.m:Int),I (h.p.Mh:Int),I (h.p.chain:Int),I (h.p.interval:Int),I (h.p.zeta:Int),I (h.p.most:Int),I (h.bits:Int),.iface t u,ptr x 0]
theorem z2T {t:TypeId}{u:Value}{p:MZ}{g:List (List Nat)}{E:List (Nat×Nat)}(hp:Pm p g E)(R:Src t u (TL p g E)){X:Nat->Prop}{w:World}(hI:R.inv X w)(hX:∀k,X k->k<w.heap.size):
  Mm Tryz.prog 82 [.iface t u] w λv w'=>∃k x,v= .tuple #[ptr k 0,I 0]/\LX w' k (gwC (Sj p g E) t u x) 133/\LX w' x (elC (Y3 p g E) 223 (VZ t u (Sn p g E) (Y3 p g E).size)) 271/\w.heap.size<=x/\w.heap.size<=k/\x≠k/\R.inv (λj=>X j\/j=x\/j=k) w'/\Kp (λj=>¬X j) w w':=by
 have aB:=hp.len
 obtain⟨dP,cS⟩:=hp.small
 have hn:=hp.gr.n
 have cK:=hp.n1
 have qn:=hp.pk.bits
 have hg:=Ext.Ma w
 have qI:=hp.head
 have FW:(Sj p g E).bits=(N6 p g E g.length).length:=rfl
 have La:Sn p g E=28+((Sj p g E).bits+7) / 8:=rfl
 have Lb:(Sj p g E).n=g.length:=rfl
 refine It (e:=[(0,_)]) Tryz.func82 rfl Tryz.ntmps82 rfl rfl (qN rfl (M6 rfl (LU rfl (run_seq (qN rfl (LM rfl (qV (z9y z14 rfl rfl) (LO (An rfl (py (run_seq (NF (λw'=>R.inv X w'/\Kp (λk=>¬X k) w w') rfl (M9 0 rfl rfl (⟨R.ext hI hg (λk hk=> .inl hk),hg.kp⟩) ?_)))))))))))))
 refine M9 1 rfl rfl (⟨R.ext hI hg (λk hk=> .inl hk),hg.kp⟩) (LS 4 rfl (ymm rfl) (⟨R.ext hI hg (λk hk=> .inl hk),hg.kp⟩) (LS 5 rfl (zeS R.mr rfl) (⟨R.ext hI hg (λk hk=> .inl hk),hg.kp⟩) (M9 6 rfl rfl (⟨R.ext hI hg (λk hk=> .inl hk),hg.kp⟩) (qO 2 (SS (i:=2) rfl rfl rfl (yci R.cl R.ml rfl rfl) (R.len (R.ext hI hg (λk hk=> .inl hk))) ?_)))))
 rintro _ w1 ⟨rfl,ad⟩
 refine⟨⟨R.ext hI (hg.trans ad) (λk hk=> .inl hk),(hg.trans ad).kp⟩,?_⟩
 have bG:=hg.trans ad
 rw[aB]
 refine LS 3 rfl (ymi rfl rfl) (⟨R.ext hI (hg.trans ad) (λk hk=> .inl hk),(hg.trans ad).kp⟩) ?_
 rw[show min (28:Int) ((Sn p g E+(Y3 p g E).size:Nat):Int)=((28:Nat):Int) by omega]
 have lP:=R.ext hI bG (λk hk=> .inl hk)
 have kR:∀k,X k->k<w1.heap.size:=λk hk=>by have:=hX k hk;have:=bG.size;omega
 refine qO 7 (SS (i:=7) rfl rfl rfl (yci R.cr R.mr rfl rfl) (R.rd 0 28 lP kR (by omega)) ?_)
 rintro _ w2 ⟨rfl,cy,ao⟩
 refine⟨⟨cy,bG.kp.trans ao⟩,?_⟩
 rw[z8Z]
 have dX:Kp (λk=>¬X k) w w2:=bG.kp.trans ao
 have gj:∀k,X k->k<w2.heap.size:=λk hk=>by have:=kR k hk;have:=ao.size;omega
 refine M9 8 rfl rfl (⟨cy,bG.kp.trans ao⟩) (LS 9 rfl (NO rfl rfl) (⟨cy,bG.kp.trans ao⟩) (LS 10 rfl (NO rfl rfl) (⟨cy,bG.kp.trans ao⟩) (LS 11 rfl (NK rfl) (⟨cy,bG.kp.trans ao⟩) (LS 12 rfl (NK rfl) (⟨cy,bG.kp.trans ao⟩) (qE (run_seq (qN rfl (LM rfl (MY rfl rfl (LO (An rfl (py (qN rfl ?_)))))))))))))
 refine LM rfl (Mb zdA rfl (z5j (Sj p g E) qI w2) ?_)
 rintro _ w3 ⟨rfl,ah⟩
 refine LM rfl (qV (NO (v:=hdV (Sj p g E)) rfl rfl) (qV (NO (v:=I 0) rfl rfl) (LV rfl rfl (O9 (cs:=[_,_,_,_,_,_,_,_]) Qh rfl) ?_)))
 rintro _ w4 ⟨b6,rfl,nY,aC,aX⟩
 refine M1 rfl (MD (news:=hdC (Sj p g E)) Qh rfl rfl rfl rfl aX (by simp)) ?_
 rintro w5 ⟨dW,aj⟩
 replace dW:LX w5 b6 (hdC (Sj p g E)) 128:=dW
 have cm:Ext w3 w5:=aC.LJ aj (λi e=>by omega)
 have ic:=ah.trans cm
 refine LU rfl (Mn.qb (e:=[(0,_),(2,_),(3,_),(5,_),(6,_)]) ?_)
 refine run_seq (qN rfl (LM rfl (MY rfl rfl (LO (An rfl (py (run_seq (qN rfl (qV (Mk (news:=hdC (Sj p g E)) z2Q rfl Qh rfl (dW.cells (n:=8) rfl) rfl) (Mb zbt rfl (z5d (Sj p g E) qI (by show g.length<=_;omega) _) ?_))))))))))
 rintro _ w6 ⟨rfl,aN⟩
 have ie:=ic.trans aN
 have oN:=R.ext cy ie (λk hk=> .inl hk)
 have sS:=aN.LN dW
 refine LM rfl (qV (NO (v:=I ((Sn p g E+(Y3 p g E).size:Nat):Int)) rfl rfl) (qV (NO (v:=I 0) rfl rfl) (M6 rfl (M6 rfl (qM rfl (LM rfl (MY rfl rfl (MC (M4 rfl rfl (LM rfl (Nj rfl rfl (yci R.cl R.ml rfl rfl) (R.len oN) ?_)))))))))))
 rintro _ w7 ⟨rfl,bQ⟩
 rw[aB]
 have CU:=ie.trans bQ
 have pC:=bQ.LN sS
 refine MY rfl rfl (MC (ME rfl rfl ?_))
 replace pC:LX w7 b6 [I ((Sj p g E).n:Int),I ((Sj p g E).m:Int),I ((Sj p g E).p.Mh:Int),I ((Sj p g E).p.chain:Int),I ((Sj p g E).p.interval:Int),I ((Sj p g E).p.zeta:Int),I ((Sj p g E).p.most:Int),I ((Sj p g E).bits:Int)] 128:=pC
 refine LO (An rfl (py (qN rfl (M0 Rp rfl (qV (LR U3 rfl rfl pC rfl) (MK rfl rfl (qV (Tg rfl rfl (by omega)) (MK rfl rfl ?_))))))))
 rw[show 28+((((Sj p g E).bits:Nat):Int)+7) / 8=(Sn p g E:Int) by omega]
 refine LU rfl (Mn.qb (e:=[(0,_),(2,_),(3,_),(5,_),(6,_),(9,_)]) ?_)
 refine qN rfl (M4 rfl rfl (LM rfl ?_))
 have jm:=R.ext oN bQ (λk hk=> .inl hk)
 refine Nj rfl rfl (yci R.cl R.ml rfl rfl) (R.len jm) ?_
 rintro _ w8 ⟨rfl,cV⟩
 rw[aB]
 have iX:=CU.trans cV
 have Cn:=R.ext jm cV (λk hk=> .inl hk)
 have ip:=cV.LN pC
 have z28:=iX.size
 refine LM rfl (NP rfl rfl ?_)
 rw[show((Sn p g E+(Y3 p g E).size:Nat):Int)-(Sn p g E:Int)=((Y3 p g E).size:Int) by omega]
 refine qV (OJ (cs:=[_,_,_]) zcd rfl ze8 rfl rfl) (qV (zcV zfl (λ_ h=>by cases h) rfl) ?_)
 have lb6:=ip.lt
 have Iz:=R.ext (Y:=λk=>X k\/k=b6) cy iX (λk hk=>hk.imp id λe=>by have:=ah.size;omega)
 have lQ:∀k,(X k\/k=b6)->k<w8.heap.size:=λk hk=>by
  rcases hk with hk| e
  ·have:=gj k hk;have:=iX.size;omega
  ·omega
 refine Mb zbA rfl (z39 hp.ef (z9x R (Sn p g E) (Y3 p g E).size (UK (Ss p g E g.length) (Y3 p g E)) (by omega) (by omega) hp.index) (X:=λk=>X k\/k=b6) Iz lQ) ?_
 rintro _ w9 ⟨x,rfl,gl,hx,jn,aL⟩
 have iq:=aL.LN ip (λhh=>hh (.inr rfl))
 have CV:Kp (λk=>¬X k) w2 w9:=iX.kp.trans (aL.LZ λk hk e=>hk (.inl e))
 have z9:=aL.size
 refine LM rfl (qV (NO (v:=ptr x 0) rfl rfl) (qV (NO (v:=I 0) rfl rfl) (M6 rfl (LU rfl (run_seq (LK (qN rfl (LM rfl (MY rfl rfl (LU rfl (An rfl (run_seq ?_))))))))))))
 have cU:=Ext.Ma w9
 refine NF (λw'=>Ext w9 w') rfl (M9 0 rfl rfl (cU) (LS 2 rfl (Mo Qw rfl) cU (qT 3 rfl (λ_ h=>LR U3 rfl rfl (h.LN iq) rfl) cU (LS 4 rfl (R9 rfl rfl (by omega)) cU (Pw 1 rfl zbH rfl (z5q (cU.LN gl)) ?_)))))
 rintro _ w10 ⟨rfl,rfl⟩
 refine⟨cU,?_⟩
 rw[show(Y3 p g E).n=(Sj p g E).n+1 from rfl]
 refine LS 5 rfl (yne rfl rfl) cU (LS 6 rfl (NK rfl) cU (qE (Mn.qb (e:=[(0,_),(2,_),(3,_),(6,_),(10,_),(69,_)]) ?_)))
 have gQ:=cU.LN iq
 have xw:=cU.LN gl
 refine LY rfl (λh9=>?_) (λh9=>?_)
 ·exact absurd (by omega) h9
 ·refine py (LL (qN rfl (qV (Mk (news:=hdC (Sj p g E)) z2Q rfl Qh rfl (LX.cells (n:=8) gQ rfl) rfl) (M4 rfl rfl (qV (OJ (cs:=[_,_,_,_,_,_,_,_,_,_]) zcR rfl zeu rfl rfl) (LV rfl rfl (NN rfl (cs:=gwC (Sj p g E) t u x) rfl) ?_))))));rintro _ w11 ⟨k,rfl,hk,aQ,aH⟩;refine M6 rfl (LU rfl (LP Tryz.func82 rfl ?_));have CW:=cU.trans aQ;have z02:=dX.size;have z28:=iX.size;have zdd:=cU.size;have lbx:=xw.lt;refine⟨_,rfl,k,x,rfl,aH,CW.LN gl,by omega,by omega,by omega,R.ext jn CW (λj hj=>?_),(dX.trans CV).trans CW.kp⟩;rcases hj with hj|hj|hj
  ·exact .inl (.inl (.inl hj))
  ·exact .inl (.inr hj)
  ·exact .inr (by omega)
structure R7 {t:TypeId}{u:Value}{p:MZ}{g:List (List Nat)}{E:List (Nat×Nat)}(R:Src t u (TL p g E))(k x:Nat)(X:Nat->Prop)(w:World):Prop where
 ok:Pm p g E
 LN:LX w k (gwC (Sj p g E) t u x) 133
 ix:LX w x (elC (Y3 p g E) 223 (VZ t u (Sn p g E) (Y3 p g E).size)) 271
 xk:X k
 xx:X x
 inv:R.inv X w
 lt:∀j,X j->j<w.heap.size
 x1:X 1
 x2:X 2
 gam:LX w 1 (OU .gamma) 298
 una:LX w 2 (OU .unary) 298
section
variable {t:TypeId}{u:Value}{p:MZ}{g:List (List Nat)}{E:List (Nat×Nat)}{R:Src t u (TL p g E)}{k x:Nat}{X Y S:Nat->Prop}{w w':World}
theorem R7.grow (h:R7 R k x X w)(hx:Ext w w')(hY:∀j,Y j->X j\/(w.heap.size<=j/\j<w'.heap.size))(bH:∀j,X j->Y j):R7 R k x Y w':=
 ⟨h.ok,hx.LN h.LN,hx.LN h.ix,bH _ h.xk,bH _ h.xx,R.ext h.inv hx (λj hj=>(hY j hj).imp id And.left),λj hj=>by
  rcases hY j hj with e| e
  ·have:=h.lt j e;have:=hx.size;omega
  ·exact e.2,bH _ h.x1,bH _ h.x2,hx.LN h.gam,hx.LN h.una⟩
theorem R7.ext (h:R7 R k x X w)(hx:Ext w w'):R7 R k x X w':=h.grow hx (λj hj=> .inl hj) λj hj=>hj
theorem R7.less (h:R7 R k x Y w)(bH:∀j,X j->Y j)(hk:X k)(hx:X x)(h1:X 1)(h2:X 2):R7 R k x X w:=
 ⟨h.ok,h.LN,h.ix,hk,hx,R.ext h.inv (Ext.refl w) (λj hj=> .inl (bH j hj)),λj hj=>h.lt j (bH j hj),h1,h2,h.gam,h.una⟩
theorem R7.step (h:R7 R k x X w)(hk:Kp S w w')(hS:∀j,S j->X j/\j≠k/\j≠x/\j≠1/\j≠2)(hY:∀j,Y j->X j\/(w.heap.size<=j/\j<w'.heap.size))(bH:∀j,X j->Y j):R7 R k x Y w':=
 ⟨h.ok,hk.LN h.LN (λe=>(hS _ e).2.1 rfl),hk.LN h.ix (λe=>(hS _ e).2.2.1 rfl),bH _ h.xk,bH _ h.xx,R.step h.inv hk (λj hj=>(hS j hj).1) (λj hj=>(hY j hj).imp id And.left),λj hj=>by
  rcases hY j hj with e| e
  ·have:=h.lt j e;have:=hk.size;omega
  ·exact e.2,bH _ h.x1,bH _ h.x2,hk.LN h.gam (λe=>(hS _ e).2.2.2.1 rfl),hk.LN h.una (λe=>(hS _ e).2.2.2.2 rfl)⟩
theorem R7.own (h:R7 R k x X w)(hk:Kp S w w')(hS:∀j,S j->X j/\j≠k/\j≠x/\j≠1/\j≠2):R7 R k x X w':=
 ⟨h.ok,hk.LN h.LN (λe=>(hS _ e).2.1 rfl),hk.LN h.ix (λe=>(hS _ e).2.2.1 rfl),h.xk,h.xx,R.own h.inv hk (λj hj=>(hS j hj).1),λj hj=>by have:=h.lt j hj;have:=hk.size;omega,h.x1,h.x2,hk.LN h.gam (λe=>(hS _ e).2.2.2.1 rfl),hk.LN h.una (λe=>(hS _ e).2.2.2.2 rfl)⟩
theorem R7.src (h:R7 R k x X w)(hk:Kp (λj=>¬X j) w w')(hI:R.inv X w'):R7 R k x X w':=
 ⟨h.ok,hk.LN h.LN (λe=>e h.xk),hk.LN h.ix (λe=>e h.xx),h.xk,h.xx,hI,λj hj=>by have:=h.lt j hj;have:=hk.size;omega,h.x1,h.x2,hk.LN h.gam (λe=>e h.x1),hk.LN h.una (λe=>e h.x2)⟩
def R7.R2 (R:Src t u (TL p g E))(h:Pm p g E):Src 223 (VZ t u (Sn p g E) (Y3 p g E).size) (UK (Ss p g E g.length) (Y3 p g E)):=
 z9x R (Sn p g E) (Y3 p g E).size _ (by have:=h.len;omega) (by have:=h.small;omega) h.index
theorem R7.cells (h:R7 R k x X w):LX w k [I ((Sj p g E).n:Int),I ((Sj p g E).m:Int),I ((Sj p g E).p.Mh:Int),I ((Sj p g E).p.chain:Int),I ((Sj p g E).p.interval:Int),I ((Sj p g E).p.zeta:Int),I ((Sj p g E).p.most:Int),I ((Sj p g E).bits:Int),.iface t u,ptr x 0] 133:=h.LN
theorem z9g (h:R7 R k x X w):Mm Tryz.prog 27 [ptr k 0] w λv w'=>v=I (g.length:Int)/\w'=w:=by
 have hB:=h.cells
 refine It (e:=[(0,_)]) Tryz.func27 rfl Tryz.ntmps27 rfl rfl (qN rfl (LU rfl (run_seq (qN rfl (LM rfl (qV (MU YS rfl rfl) (LO (An rfl (py (qN rfl (LM rfl (Mp rfl (M0 Tl rfl ?_)))))))))))))
 refine M0 Qw rfl (qV (LR U3 rfl rfl hB rfl) (LU rfl (LP Tryz.func27 rfl ?_)))
 exact⟨_,rfl,rfl,rfl⟩
theorem z36 (h:R7 R k x X w){b v c:Nat}(hv:v<g.length)(hr:Rd w (.slice (some ⟨b,0,none⟩) 1 c) 1 1 [I (v:Int)]):Mm Tryz.prog 128 [ptr k 0,.slice (some ⟨b,0,none⟩) 1 c] w λv w'=>v=I 0/\w'=w:=by
 have hB:=h.cells
 have hn:(Sj p g E).n=g.length:=rfl
 refine It (e:=[(0,_),(1,_)]) Tryz.func128 rfl Tryz.ntmps128 rfl rfl (qN rfl (LU rfl (run_seq (qN rfl (LM rfl (qV (MU YS rfl rfl) (LO (An rfl (py (run_seq (qN rfl (LM rfl (NX NQ rfl ?_)))))))))))))
 refine LM rfl (LO (LK (Oe (α:=Nat) (0) (λi=>[(0,ptr k 0),(9,.slice (some ⟨b,0,none⟩) 1 c),(10,I 1),(11,I (i:Int))]) (λi w'=>w'=w/\i<=1) (λi=>1-i) ?hI ?hround)))
 case hI=>exact⟨rfl,Nat.zero_le _⟩
 case hround=>
  rintro i w2 ⟨rfl,hi⟩ ih
  try dsimp only
  refine qN rfl (Nr rfl rfl (LO (run_seq (LY rfl (λh0=>?_) (λh0=>?_)))))
  ·have jO:i=0:=by omega
   subst jO;refine py (run_seq (LK (qN rfl (qV (MN NQ MO rfl rfl (by omega)) (qV (Mt U3 rfl rfl (MX hr rfl)) (M6 rfl (qM rfl (LM rfl (Nr rfl rfl (MC (M4 rfl rfl (LM rfl (Mp rfl ?_)))))))))))));refine M0 Tl rfl (M0 Qw rfl (qV (LR U3 rfl rfl hB rfl) (PQ rfl rfl (MC (ME rfl rfl (LO (An rfl (py (LL (LQ rfl (MK rfl rfl (LM rfl (LO ?_)))))))))))));exact(ih 1 _ ⟨rfl,by omega⟩ (by omega)).qb
  ·refine LW rfl (qN rfl (LU rfl (LP Tryz.func128 rfl ?_)));exact⟨_,rfl,rfl,rfl⟩
theorem z4o {p:MZ}{g:List (List Nat)}{E:List (Nat×Nat)}{v a n:Nat}{s:Bytes}(hs:((Mi (N6 p g E g.length)).drop (a / 8)).take n=s)(ha:(N6 p g E v).length=a)(hv:v<g.length)(hn:a+(U8 p g E v).length<=8*(a / 8+n)):∃rest,(Md s).drop (a%8)=U8 p g E v++rest:=by
 have gE:∃r,N6 p g E g.length=N6 p g E (v+1)++r:=by
  have key:∀d i,∃r,N6 p g E (i+d)=N6 p g E i++r:=λd i=>by
   induction d with
   |zero=>exact⟨[],by simp⟩
   | succ d ih =>
     obtain⟨r,hr⟩:=ih;exact⟨r++U8 p g E (i+d),by rw[<-Nat.add_assoc,Pq,hr,List.append_assoc]⟩
  obtain⟨r,hr⟩:=key (g.length-(v+1)) (v+1);rw[show v+1+(g.length-(v+1))=g.length by omega] at hr;exact⟨r,hr⟩
 obtain⟨r,hr⟩:=gE
 obtain⟨z,hz,-,-⟩:=OD (N6 p g E g.length)
 rw[<-hs,R4,PU,hz,hr,Pq,List.drop_take,List.drop_drop,show 8*(a / 8)+a%8=a by omega,List.append_assoc,List.append_assoc,List.drop_left' ha,List.take_append,List.take_of_length_le (by omega)]
 exact⟨_,rfl⟩
theorem z2I (h:R7 R k x X w){v:Nat}(hv:v<g.length):Mm Tryz.prog 166 [ptr k 0,I (v:Int)] w λr w'=>∃(b a e:Nat) (s:Bytes) (rest:List Bool),r= .tuple #[ptr b 0,I (e:Int),I 0]/\Qc w' b s a/\(Md s).drop a=U8 p g E v++rest/\a+(U8 p g E v).length=e/\w.heap.size<=b/\R7 R k x (λj=>X j\/j=b) w'/\Kp (λj=>¬X j) w w':=by
 have hn:=h.ok.gr.n
 have qn:=h.ok.pk.bits
 have hB:=h.cells
 have CX:=Wz p g E (n:=g.length) (i:=v) (by omega)
 have xy:=Wz p g E (n:=g.length) (i:=v+1) (by omega)
 have oq:=SW p g E (g.length-(v+1)) (v+1)
 rw[show v+1+(g.length-(v+1))=g.length by omega] at oq
 have dz:=Pq p g E v
 have kQ:=congrArg List.length dz
 rw[List.length_append] at kQ
 refine It (e:=[(0,_),(1,_)]) Tryz.func166 rfl Tryz.ntmps166 rfl rfl (qN rfl (M6 rfl (M6 rfl (M6 rfl (qM rfl (LM rfl (Mp rfl (M0 z3M rfl (qV (LR Uw rfl rfl hB rfl) (LM rfl (Mb z9Z rfl (Yj h.ok.ef (R7.R2 R h.ok) h.inv h.lt h.xx h.ix CX) ?_)))))))))))
 rintro _ w1 ⟨rfl,lP,aK⟩
 have h1:=h.src aK lP
 have ai:=h1.cells
 refine LM rfl (MW rfl rfl (MW rfl rfl (M6 rfl (LU rfl (run_seq (qN rfl (LM rfl (MY rfl rfl (LO (An rfl (py (qN rfl (LM rfl ?_)))))))))))))
 refine Mp rfl (M0 z3M rfl (qV (LR Uw rfl rfl ai rfl) (LM rfl (MK rfl rfl ?_))))
 rw[show(v:Int)+1=((v+1:Nat):Int) by omega]
 refine Mb z9Z rfl (Yj h1.ok.ef (R7.R2 R h1.ok) h1.inv h1.lt h1.xx h1.ix xy) ?_
 rintro _ w2 ⟨rfl,cy,ao⟩
 have h2:=h1.src ao cy
 have am:=h2.cells
 have dX:=aK.trans ao
 obtain⟨al,zM⟩:∃n,(N6 p g E v).length=n:=⟨_,rfl⟩
 obtain⟨bl,ff⟩:∃n,(N6 p g E (v+1)).length=n:=⟨_,rfl⟩
 rw[zM,ff]
 have FW:(Sj p g E).bits=(N6 p g E g.length).length:=rfl
 refine LM rfl (MW rfl rfl (MW rfl rfl (M6 rfl (LU rfl (Mn.qb (e:=[(0,_),(4,_),(5,_),(6,_),(7,_),(8,_),(9,_)]) ?_)))))
 refine run_seq (LK (qN rfl (LM rfl (MY rfl rfl (LU rfl (An rfl (qN rfl (M4 rfl rfl (Nc rfl rfl (MC (M4 rfl rfl (LM rfl (Mp rfl ?_)))))))))))))
 refine M0 Tl rfl (M0 Rp rfl (qV (LR U3 rfl rfl am rfl) (qV ((by first|exact MH rfl U3 Ns (by omega)|exact Oc rfl U3 Ns)) ?_)))
 refine Nc rfl rfl (MC (ME rfl rfl (LU rfl (An rfl (py (LL (qN rfl (LM rfl (qV (zbv rfl rfl rfl (by simp only[IntKind.bits];omega) (by omega)) ?_)))))))))
 refine qV (MB rfl Ns U3 (by omega)) (LU rfl (Mn.qb (e:=[(0,_),(4,_),(5,_),(6,_),(7,_),(8,_),(9,_),(10,_)]) ?_))
 refine qN rfl (LM rfl (Mp rfl (M0 z8g rfl (qV (LR z14 rfl rfl am rfl) (LM rfl (MK rfl rfl (LM rfl (qV (QL rfl rfl) (qV (MB rfl Ns U3 (by omega)) (qV (Tg rfl rfl (by omega)) (LM rfl (NP rfl rfl ?_))))))))))))
 have uk:28+al / 8+((bl+7) / 8-al / 8)<=(TL p g E).length:=by have:=h.ok.len;unfold Sn at this;omega
 rw[show 28+((al / 8:Nat):Int)=((28+al / 8:Nat):Int) by omega]
 rw[show((((bl+7)%18446744073709551616:Nat):Int)) / 8-((al / 8:Nat):Int)=(((bl+7) / 8-al / 8:Nat):Int) by omega]
 refine Nj rfl rfl (yci R.cr R.mr rfl rfl) (R.rd (28+al / 8) ((bl+7) / 8-al / 8) h2.inv h2.lt uk) ?_
 rintro _ w3 ⟨rfl,CC,ar⟩
 have h3:=h2.src ar CC
 rw[z8V h.ok (al / 8) ((bl+7) / 8-al / 8) (by omega)]
 obtain⟨s,hs⟩:∃s,((Mi (N6 p g E g.length)).drop (al / 8)).take ((bl+7) / 8-al / 8)=s:=⟨_,rfl⟩
 rw[hs]
 refine LM rfl (MW rfl rfl (MW rfl rfl (M6 rfl (LU rfl (Mn.qb (e:=[(4,_),(5,_),(6,_),(7,_),(8,_),(9,_),(10,_),(11,_)]) ?_)))))
 refine run_seq (qN rfl (LM rfl (MY rfl rfl ?_)))
 have fK:s.length=(bl+7) / 8-al / 8:=by
  rw[<-hs,List.length_take,List.length_drop,Mv];omega
 obtain⟨rest,nr⟩:∃rest,(Md s).drop (al%8)=U8 p g E v++rest:=z4o hs zM hv (by omega)
 refine LO (An rfl (py (qN rfl (LM rfl (Mb z3n rfl (Tf s (by omega) w3) ?_)))))
 rintro _ w4 ⟨b,rfl,gq,aC,hb⟩
 have lb:=gq.1.lt
 have h4:R7 R k x (λj=>X j\/j=b) w4:=h3.grow aC (λj hj=>hj.imp id λe=>by omega) (λj hj=> .inl hj)
 have eR:¬X b:=λe=>by have:=h3.lt b e;omega
 refine M6 rfl (qM rfl (M4 rfl rfl (qV (MB rfl Ns U3 (by omega)) (LM rfl (qV (SV rfl rfl (by omega)) (NP rfl rfl ?_))))))
 rw[show(al:Int)-8*((al / 8:Nat):Int)=((al%8:Nat):Int) by omega]
 refine Mb z81 rfl (Vy gq (al%8) (by omega)) ?_
 rintro _ w5 ⟨rfl,ry,aj⟩
 have h5:=h4.own aj (λj e=>by
  subst e
  exact⟨.inr rfl,λe=>eR (e▸h.xk),λe=>eR (e▸h.xx),λe=>eR (e▸h.x1),λe=>eR (e▸h.x2)⟩)
 refine qM rfl (M4 rfl rfl (qV (MB rfl Ns U3 (by omega)) (LM rfl (qV (SV rfl rfl (by omega)) (NP rfl rfl ?_)))))
 rw[show(bl:Int)-8*((al / 8:Nat):Int)=((bl-8*(al / 8):Nat):Int) by omega]
 refine M6 rfl (M6 rfl (LU rfl (Mn.qb (e:=[(4,_),(5,_),(6,_)]) ?_)))
 refine LP Tryz.func166 rfl ?_
 have z03:=(dX.trans ar).size
 exact⟨_,rfl,b,al%8,bl-8*(al / 8),s,rest,rfl,ry,nr,by omega,by omega,h5,((dX.trans ar).trans aC.kp).LJ aj (λj e=> .inl (by omega))⟩
end
def Mg (g:List (List Nat))(v:Nat):List Nat:=(g[v]?).getD []
def Mq (g:List (List Nat))(E:List (Nat×Nat))(v:Nat):Nat:=if Mg g v=[] then 0 else((E[v]?).getD (0,0)).1
def PZ (p:MZ)(g:List (List Nat))(E:List (Nat×Nat))(v:Nat):List (Cd×Nat):=if Mg g v=[] then [] else QO p.list v (Mg g v) (Na g v (Mq g E v)) (Mq g E v)
theorem z5W (p:MZ)(g:List (List Nat))(E:List (Nat×Nat))(v:Nat):U8 p g E v=Mf (N7 p.list (Mg g v).length (Mq g E v))++Mf (PZ p g E v):=by
 unfold U8 PZ Mq
 rw[<-OR]
 by_cases h:Mg g v=[]
 ·have h':(g[v]?).getD []=[]:=h;rw[if_pos h,if_pos h,h',h]
  rfl
 ·rw[if_neg h,if_neg h];have:=XS p.list v (ref:=Na g v ((E[v]?).getD (0,0)).1) ((E[v]?).getD (0,0)).1 h;rw[<-this];rfl
section
variable {t:TypeId}{u:Value}{p:MZ}{g:List (List Nat)}{E:List (Nat×Nat)}{R:Src t u (TL p g E)}{k x:Nat}{X Y S:Nat->Prop}{w w':World}
theorem Pm.ent (h:Pm p g E){v:Nat}(hv:v<g.length):VT p g E v (Mg g v).length ((E[v]?).getD (0,0)):=by
 have hl:=h.pk.el
 obtain⟨e,he⟩:∃e,E[v]? =some e:=⟨_,List.getElem?_eq_getElem (by omega)⟩
 have:=h.pk.ok.ent v e he
 rw[he];exact this
theorem Pm.Zf (h:Pm p g E){v:Nat}(hv:v<g.length):Mq g E v<=p.Mh/\Mq g E v<=v:=by
 unfold Mq
 split
 ·omega
 ·rcases h.ent hv with e| e
  ·rw[e];exact⟨Nat.zero_le _,Nat.zero_le _⟩
  ·exact⟨e.2.1,e.2.2.1⟩
theorem Pm.suc (h:Pm p g E){v:Nat}(hv:v<g.length):Mw (Mg g v)/\(Mg g v).length<=g.length/\∀y∈Mg g v,y<g.length:=by
 have hm:Mg g v∈g:=by
  unfold Mg;rw[List.getElem?_eq_getElem hv];exact List.getElem_mem hv
 exact⟨h.gr.ok _ hm,h.gr.len hm,h.gr.lt _ hm⟩
theorem z2z (h:R7 R k x X w){v:Nat}(hv:v<g.length):Mm Tryz.prog 130 [ptr k 0,I (v:Int)] w λr w'=>∃(b a:Nat) (s:Bytes) (rest:List Bool),r= .tuple #[.agg #[I ((Mg g v).length:Int),I (Mq g E v:Int)],ptr b 0,I ((a+(Mf (PZ p g E v)).length:Nat):Int),I 0]/\Qc w' b s a/\(Md s).drop a=Mf (PZ p g E v)++rest/\w.heap.size<=b/\R7 R k x (λj=>X j\/j=b) w'/\Kp (λj=>¬X j) w w':=by
 have hn:=h.ok.gr.n
 obtain⟨dP,cS,od⟩:=h.ok.suc hv
 have gd:=h.ok.Zf hv
 have pu:=z5W p g E v
 have qK:(Mg g v).length=0->Mq g E v=0:=λe=>by unfold Mq;rw[if_pos (List.eq_nil_of_length_eq_zero e)]
 refine It (e:=[(0,_),(1,_)]) Tryz.func130 rfl Tryz.ntmps130 rfl rfl (qN rfl (LV rfl rfl (O9 (cs:=[_,_]) OE rfl) ?_))
 rintro _ w1 ⟨b4,rfl,eA,ad,aM⟩
 have l4:=aM.lt
 have h1:R7 R k x (λj=>X j\/j=b4) w1:=h.grow ad (λj hj=>hj.imp id λe=>by omega) (λj hj=> .inl hj)
 have aC:∀j,X j->j≠b4:=λj hj e=>by have:=h.lt j hj;omega
 refine M6 rfl (M6 rfl (M6 rfl (qM rfl (M4 rfl rfl (Mb zbF rfl (z2I h1 hv) ?_)))))
 rintro _ w2 ⟨b,a,e,s,rest,rfl,dw,hd,he,hb,h2,ao⟩
 have bq:=ao.LN aM (λe=>e (.inr rfl))
 have IA:=h2.cells
 have lb:=dw.1.lt
 have eR:∀j,X j->j≠b:=λj hj e=>by have:=h.lt j hj;have:=ad.size;omega
 have lR:∀j,j=b->(X j\/j=b4)\/j=b:=λj e=> .inr e
 refine LM rfl (qV (NO (v:=ptr b 0) rfl rfl) (qV (NO (v:=I (e:Int)) rfl rfl) (qV (NO (v:=I 0) rfl rfl) (M6 rfl (M6 rfl (LU rfl (run_seq (qN rfl (LM rfl (MY rfl rfl (LO (An rfl (py ?_)))))))))))))
 refine qN rfl (M4 rfl rfl (Mp rfl (M0 Tl rfl (M0 Us rfl (qV (Mk (news:=Rz p) Xi rfl O3 rfl (LX.cells (i:=2) (n:=5) IA rfl) rfl) (Mb Xk rfl (Pk p w2) ?_))))))
 rintro _ w3 ⟨rfl,ah⟩
 have h3:=h2.ext ah
 have ou:Qc w3 b s a:=⟨ah.LN dw.1,dw.2⟩
 rw[pu,List.append_assoc] at hd
 refine Mb z9E rfl (Yq ou p.list h.ok.N4.1 h3.gam h3.una (λe=>eR 1 h.x1 e) (λe=>eR 2 h.x2 e) (Mg g v).length (Mq g E v) (by omega) gd.1 qK _ hd) ?_
 rintro _ w4 ⟨rfl,gq,ax⟩
 have Fz:=OG hd
 have h4:=h3.own ax (λj e=>⟨.inr e,λe'=>eR k h.xk (e'▸e),λe'=>eR x h.xx (e'▸e),λe'=>eR 1 h.x1 (e'▸e),λe'=>eR 2 h.x2 (e'▸e)⟩)
 have cq:=ax.LN (ah.LN bq) (λe=>by omega)
 have fK:=congrArg List.length pu
 rw[List.length_append] at fK
 refine LM rfl (qV (NO (v:= .agg #[I ((Mg g v).length:Int),I (Mq g E v:Int)]) rfl rfl) (qV (NO (v:=I 0) rfl rfl) (LV rfl rfl (O9 (cs:=[_,_]) OE rfl) ?_)))
 rintro _ w5 ⟨b11,rfl,iN,aT,aH⟩
 refine M1 rfl (MD (news:=[I ((Mg g v).length:Int),I (Mq g E v:Int)]) OE rfl rfl rfl rfl aH (by simp)) ?_
 rintro w6 ⟨ns,aR⟩
 replace ns:LX w6 b11 [I ((Mg g v).length:Int),I (Mq g E v:Int)] 239:=ns
 have cJ:Ext w4 w6:=aT.LJ aR (λj e=>by omega)
 have h6:=h4.ext cJ
 have kN:Qc w6 b s (a+(Mf (N7 p.list (Mg g v).length (Mq g E v))).length):=⟨cJ.LN gq.1,gq.2⟩
 refine LU rfl (Mn.qb (e:=[(4,_),(5,_),(6,_),(7,_),(8,_),(9,_),(10,_),(11,_)]) ?_)
 refine run_seq (qN rfl (LM rfl (MY rfl rfl (MC (M4 rfl rfl (Mb Uy rfl (Qy kN) ?_))))))
 rintro _ w6 ⟨rfl,rfl⟩
 refine LM rfl (Nc rfl rfl (MC (ME rfl rfl (LO (An rfl (py (qN rfl (qV (Mk (news:=[I ((Mg g v).length:Int),I (Mq g E v:Int)]) z0K rfl OE rfl (LX.cells (n:=2) ns rfl) rfl) (M4 rfl rfl ?_)))))))))
 have bP:=cJ.LN cq
 refine M1 rfl (MD (news:=[I ((Mg g v).length:Int),I (Mq g E v:Int)]) OE rfl rfl rfl rfl bP (by simp)) ?_
 rintro w7 ⟨bc,aA⟩
 replace bc:LX w7 b4 [I ((Mg g v).length:Int),I (Mq g E v:Int)] 239:=bc
 have h7:=(h6.own aA (λj e=>⟨.inl (.inr e),λe'=>aC k h.xk (e'▸e),λe'=>aC x h.xx (e'▸e),λe'=>aC 1 h.x1 (e'▸e),λe'=>aC 2 h.x2 (e'▸e)⟩)).less (X:=λj=>X j\/j=b) (λj hj=>hj.imp .inl id) (.inl h.xk) (.inl h.xx) (.inl h.x1) (.inl h.x2)
 have IB:Qc w7 b s (a+(Mf (N7 p.list (Mg g v).length (Mq g E v))).length):=⟨aA.LN kN.1 (by omega),kN.2⟩
 refine M6 rfl (M6 rfl (LU rfl (Mj Tryz.func130 (.cell z0K rfl OE rfl (LX.cells (n:=2) bc (news:=[_,_]) rfl) rfl (.tmp rfl (.tmp rfl (.tmp rfl .nil)))) (⟨_,rfl,b,a+(Mf (N7 p.list (Mg g v).length (Mq g E v))).length,s,rest,?_,IB,Fz,by have:=ad.size;omega,h7,?_⟩))))
 ·rw[show a+(Mf (N7 p.list (Mg g v).length (Mq g E v))).length+(Mf (PZ p g E v)).length=e by omega]
  rfl
 ·have oa:Kp (λj=>¬X j) w w4:=((ad.kp.trans (ao.LZ λj e e'=>e (.inl e'))).trans ah.kp).LJ ax (λj e=> .inl (by have:=ad.size;omega));exact(oa.trans cJ.kp).LJ aA (λj e=> .inl (by omega))
end
section
variable {t:TypeId}{u:Value}{p:MZ}{g:List (List Nat)}{E:List (Nat×Nat)}{R:Src t u (TL p g E)}{k x gb pb fb:Nat}{X Y S:Nat->Prop}{w w':World}
abbrev z1w (w:World)(vv:Value)(l:List Nat):Prop:=Sl w vv 46 1 l.length (l.map Ms)
def Qf (E:List (Nat×Nat))(v:Nat):Nat:=((E[v]?).getD (0,0)).2
structure TdM (R:Src t u (TL p g E))(k x gb pb fb:Nat)(X:Nat->Prop)(w:World):Prop where
 gw:R7 R k x X w
 bg:LX w gb [ptr k 0] 28
 bp:LX w pb [I (p.Mh:Int),I (p.chain:Int),I (p.interval:Int),I (p.zeta:Int),I (p.most:Int)] 77
 bf:LX w fb [.func (.func 129) #[] #[ptr gb 0,ptr pb 0,ptr fb 0]] 237
 xg:X gb
 xp:X pb
 xf:X fb
theorem TdM.step (h:TdM R k x gb pb fb X w)(hk:Kp S w w')(hS:∀j,S j->X j->False)(h2:R7 R k x Y w')(bH:∀j,X j->Y j):TdM R k x gb pb fb Y w':=
 ⟨h2,hk.LN h.bg (λe=>hS _ e h.xg),hk.LN h.bp (λe=>hS _ e h.xp),hk.LN h.bf (λe=>hS _ e h.xf),bH _ h.xg,bH _ h.xp,bH _ h.xf⟩
def Tk (R:Src t u (TL p g E))(k x gb pb fb v behind:Nat)(X:Nat->Prop)(w:World):Prop:=
 Mm Tryz.prog 129 [I (v:Int),I (behind:Int),ptr gb 0,ptr pb 0,ptr fb 0] w λr w'=>∃vv,r= .tuple #[vv,I 0]/\z1w w' vv (Mg g v)/\(∀b,vv.ownBlock=some b->w.heap.size<=b)/\R7 R k x (λj=>X j\/vv.ownBlock=some j) w'/\Kp (λj=>¬X j) w w'
theorem Pm.back (h:Pm p g E){v:Nat}(hv:v<g.length)(hq:0<Mq g E v):Mq g E v<=v/\Qf E v=Qf E (v-Mq g E v)+1/\Na g v (Mq g E v)=Mg g (v-Mq g E v)/\0<(Mg g (v-Mq g E v)).length/\(Mg g (v-Mq g E v)).length<=p.most/\(Mg g v).length<=p.most/\Mg g v≠[]/\Qf E v<=p.chain:=by
 have bI:Mg g v≠[]:=λe=>by unfold Mq at hq;rw[if_pos e] at hq;omega
 have hb:Mq g E v=((E[v]?).getD (0,0)).1:=by unfold Mq;rw[if_neg bI]
 rcases h.ent hv with e|⟨h1,h2,h3,l,e',h4,h5,h6,h7⟩
 ·rw[hb,e] at hq;cases hq
 ·rw[<-hb] at h1 h2 h3 h4 h5;have IC:=of_decide_eq_true h7;have hs:Mg g (v-Mq g E v)=l:=by unfold Mg;rw[h4];rfl
  refine⟨h3,?_,?_,by rw[hs];omega,by rw[hs];omega,by omega,bI,?_⟩
  ·unfold Qf;rw[h5];exact h6
  ·unfold Na;rw[if_neg (by omega)];rfl
  ·show((E[v]?).getD (0,0)).2<=_;omega
theorem z5F (au:Pm p g E)(iV:g.length<50){v:Nat}(hv:v<g.length){b a:Nat}{s:Bytes}{rest:List Bool}(hR:Qc w b s a)(hd:(Md s).drop a=Mf (PZ p g E v)++rest)(hG:LX w 1 (OU .gamma) 298)(hU:LX w 2 (OU .unary) 298)(h1:¬1=b)(h2:¬2=b)
  {vb:Value} (dc:Mq g E v=0->vb= .slice none 0 0) (hS:0<Mq g E v->z1w w vb (Mg g (v-Mq g E v))) (zr:∀j,vb.ownBlock=some j->j≠b):
  Mm Tryz.prog 131 [ptr b 0,I (v:Int),I (g.length:Int),.agg #[I ((Mg g v).length:Int),I (Mq g E v:Int)],vb,lpV p.list] w λr w'=>∃vv,r= .tuple #[vv,I 0]/\z1w w' vv (Mg g v)/\(∀j,vv.ownBlock=some j->w.heap.size<=j)/\Qc w' b s (a+(Mf (PZ p g E v)).length)/\Kp (λj=>j=b) w w':=by
 obtain⟨dP,cS,od⟩:=au.suc hv
 have gd:=au.Zf hv
 by_cases bI:Mg g v=[]
 ·have qK:Mq g E v=0:=by unfold Mq;rw[if_pos bI]
  have CY:PZ p g E v=[]:=by unfold PZ;rw[if_pos bI]
  rw[qK,dc qK,CY,bI];refine(Zm p.list au.N4.1 v (by omega) g.length (by omega)).mono λr w' hr=>?_;obtain⟨rfl,hx⟩:=hr;exact⟨_,rfl,Sl.nil _ _ _,λj e=>(by cases e),⟨hx.LN hR.1,hR.2⟩,hx.kp⟩
 ·have CY:PZ p g E v=QO p.list v (Mg g v) (Na g v (Mq g E v)) (Mq g E v):=by unfold PZ;rw[if_neg bI]
  have jp:Mw (Na g v (Mq g E v))/\(Na g v (Mq g E v)).length<=60:=by
   have hn:=au.gr.n;rcases T0 g v (Mq g E v) with e| e
   ·rw[e];exact⟨⟨List.Pairwise.nil,λy hy=>(by cases hy)⟩,by simp⟩
   ·exact⟨au.gr.ok _ e,by have:=au.gr.len e;omega⟩
  have GP:=Vb au.N4.1 (x:=v) (by omega) dP jp.1 gd.1 (by omega) jp.2;rw[CY] at hd⊢;rcases Nat.eq_zero_or_pos (Mq g E v) with h0|h0
  ·have lh:Na g v (Mq g E v)=[]:=by unfold Na;rw[if_pos h0]
   rw[dc h0];have:=VQ hR p.list au.N4.1 v (by omega) g.length (by omega) (ra:=none) (rc:=0) (Mg g v) (Na g v (Mq g E v)) dP bI (by omega) od jp.1 (Mq g E v) gd.1 (λ_=>lh) hG hU h1 h2 (λw2 ao=>by rw[lh];exact(Sl.nil _ 46 1).rd) (by rw[lh];exact Nat.le_refl _) (by omega) rest hd;rw[lh] at this⊢;exact this
  ·obtain⟨q1,q2,q3,q4,q5,q6,q7,q8⟩:=au.back hv h0;have CZ:=hS h0;rw[<-q3] at CZ
   obtain⟨ga,gc,rfl,jy⟩:∃a c,vb= .slice a (Na g v (Mq g E v)).length c/\(Na g v (Mq g E v)).length<=c:=by
    rcases CZ.shape with⟨-,e⟩|⟨b,c,e,hc⟩
    ·rw[q3] at e;omega
    ·exact⟨_,c,e,hc⟩
   exact VQ hR p.list au.N4.1 v (by omega) g.length (by omega) (ra:=ga) (rc:=gc) (Mg g v) (Na g v (Mq g E v)) dP bI (by omega) od jp.1 (Mq g E v) gd.1 (λe=>by omega) hG hU h1 h2 (λw2 ao=>(CZ.kp ao λj e=>zr j e).rd) jy (by omega) rest hd
end
section
variable {t:TypeId}{u:Value}{p:MZ}{g:List (List Nat)}{E:List (Nat×Nat)}{R:Src t u (TL p g E)}{k x gb pb fb:Nat}{X Y S:Nat->Prop}{w w':World}
theorem W8 (iV:g.length<50){v behind:Nat}(hv:v<g.length)(zP:behind+Qf E v<=p.chain)(ht:TdM R k x gb pb fb X w)
  (ih:0<Mq g E v->∀(X':Nat->Prop) (w':World),TdM R k x gb pb fb X' w'->Tk R k x gb pb fb (v-Mq g E v) (behind+1) X' w'):Tk R k x gb pb fb v behind X w:=by
 have au:=ht.gw.ok
 have hn:=au.gr.n
 have Lc:p.chain<=1000000:=by have:=au.N4.2.1;omega
 obtain⟨dP,cS,od⟩:=au.suc hv
 have gd:=au.Zf hv
 have wu:=ht.bg
 unfold Tk
 refine It (e:=[(0,_),(1,_),(2,_),(3,_),(4,_)]) Tryz.func129 rfl Tryz.ntmps129 rfl rfl (qN rfl (M6 rfl (M6 rfl (qM rfl (qV (LR YS rfl rfl wu rfl) (LM rfl (Mb zdl rfl (z2z ht.gw hv) ?_)))))))
 rintro _ w1 ⟨b,a,s,rest,rfl,ma,og,bR,h1,aK⟩
 have lb1:=ma.1.lt
 have lQ:∀j,X j->j≠b:=λj hj e=>by have:=ht.gw.lt j hj;omega
 refine LM rfl (qV (NO (v:= .agg #[I ((Mg g v).length:Int),I (Mq g E v:Int)]) rfl rfl) (qV (NO (v:=ptr b 0) rfl rfl) (qV (NO (v:=I ((a+(Mf (PZ p g E v)).length:Nat):Int)) rfl rfl) (qV (NO (v:=I 0) rfl rfl) (LV rfl rfl (O9 (cs:=[_,_]) OE rfl) ?_)))))
 rintro _ w2 ⟨b9,rfl,o8,af,cB⟩
 refine M1 rfl (MD (news:=[I ((Mg g v).length:Int),I (Mq g E v:Int)]) OE rfl rfl rfl rfl cB (by simp)) ?_
 rintro w3 ⟨ci,ar⟩
 replace ci:LX w3 b9 [I ((Mg g v).length:Int),I (Mq g E v:Int)] 239:=ci
 have aO:Ext w1 w3:=af.LJ ar (λj e=>by omega)
 have l93:=ci.lt
 have z13:=aO.size
 have h3:R7 R k x (λj=>(X j\/j=b)\/j=b9) w3:=h1.grow aO (λj hj=>hj.imp id λe=>by omega) (λj hj=> .inl hj)
 have cw:Kp (λj=>¬X j) w w3:=aK.trans aO.kp
 have ph:TdM R k x gb pb fb (λj=>(X j\/j=b)\/j=b9) w3:=ht.step cw (λj e e'=>e e') h3 (λj hj=> .inl (.inl hj))
 have ou:Qc w3 b s a:=⟨aO.LN ma.1,ma.2⟩
 refine M6 rfl (M6 rfl (LU rfl (run_seq (qN rfl (LM rfl (MY rfl rfl (LO (An rfl (py (qN rfl (LU rfl (run_seq (qN rfl ?_)))))))))))))
 refine M0 OT rfl (qV (LR U3 rfl rfl ci rfl) (Nc rfl rfl (LO (Mn.qb (e:=[(0,_),(1,_),(2,_),(3,_),(4,_),(7,_),(8,_),(9,_),(10,_),(11,_),(12,_),(13,_),(28,_)]) ?_))))
 refine MA (λe' w'=>∃vb,e'=[(0,I (v:Int)),(2,ptr gb 0),(3,ptr pb 0),(9,ptr b9 0),(10,ptr b 0),(11,I ((a+(Mf (PZ p g E v)).length:Nat):Int)),(13,vb)]/\R7 R k x (λj=>(X j\/j=b)\/j=b9) w'/\Kp (λj=>¬((X j\/j=b)\/j=b9)) w3 w'/\(Mq g E v=0->vb= .slice none 0 0)/\(0<Mq g E v->z1w w' vb (Mg g (v-Mq g E v)))/\(∀j,vb.ownBlock=some j->j≠b)) ?cu (λcu=>?cM)
 case cu=>
  rintro e' w4 ⟨vb,rfl,h4,ax,qi,eM,D2⟩;have vC:TdM R k x gb pb fb (λj=>(X j\/j=b)\/j=b9) w4:=ph.step ax (λj e e'=>e e') h4 (λj hj=>hj);have kg:=ax.LN ci (λe=>e (.inr rfl));have gq:Qc w4 b s a:=⟨ax.LN ou.1 (λe=>e (.inl (.inr rfl))),ou.2⟩;have xz:=vC.bg;have j3:=vC.bp;have xA:=vC.gw.cells;have ae:=Ext.Ma w4;refine run_seq ?_;have ngb:gb≠b:=lQ gb ht.xg;have nk:k≠b:=lQ k ht.gw.xk;have npb:pb≠b:=lQ pb ht.xp;have n9:b9≠b:=by omega
  refine NF (λw'=>Kp (λj=>j=b) w4 w') rfl (M9 0 rfl rfl (ae.kp) (M9 1 rfl rfl (ae.kp) (qT 2 rfl (λ_ h=>(by first|exact LR YS rfl rfl (h.LN xz ngb) rfl|exact LR YS rfl rfl (h.LN xA nk) rfl)) (ae.kp) ?_)));refine LS 3 rfl (MS rfl) (ae.kp) (LS 4 rfl (Mo Tl rfl) (ae.kp) (LS 5 rfl (Mo Qw rfl) (ae.kp) (qT 6 rfl (λ_ h=>(by first|exact LR U3 rfl rfl (h.LN xz ngb) rfl|exact LR U3 rfl rfl (h.LN xA nk) rfl)) (ae.kp) ?_)));refine M9 8 rfl rfl (ae.kp) (qT 7 rfl (λ_ hS=>Mk (news:=[I ((Mg g v).length:Int),I (Mq g E v:Int)]) z0K rfl OE rfl (LX.cells (n:=2) (hS.LN kg n9) rfl) rfl) (ae.kp) (qT 9 rfl (λ_ h=>Mk (news:=Rz p) Xi rfl O3 rfl (LX.cells (n:=5) (h.LN j3 npb) rfl) rfl) (ae.kp) (Pw 10 rfl Xk rfl (Pk p w4.drew) ?_)));rintro _ w5 ⟨rfl,aT⟩;refine⟨(ae.trans aT).kp,?_⟩;have di:=ae.trans aT;have h5:=h4.ext di;have ry:Qc w5 b s a:=⟨di.LN gq.1,gq.2⟩;have D3:¬1=b:=λe=>lQ 1 ht.gw.x1 e;have D4:¬2=b:=λe=>lQ 2 ht.gw.x2 e;refine Pw 11 rfl zcq rfl (z5F au iV hv ry og h5.gam h5.una D3 D4 qi (λe=>(eM e).ext di) D2) ?_;rintro _ w6 ⟨vv,rfl,iW,mB,kN,aR⟩;refine⟨di.kp.trans aR,?_⟩;refine M9 12 rfl rfl (di.kp.trans aR) (LS 13 rfl (NO (v:=vv) rfl rfl) (di.kp.trans aR) (LS 15 rfl (NK rfl) (di.kp.trans aR) (LS 14 rfl (NO (v:=I 0) rfl rfl) (di.kp.trans aR) (LS 16 rfl (NK rfl) (di.kp.trans aR) (qE (run_seq (qN rfl (LM rfl (MY rfl rfl (M4 rfl rfl (Mb Uy rfl (Qy kN) ?_)))))))))));rintro _ w6 ⟨rfl,rfl⟩;refine LM rfl (MY rfl rfl (MC (ME rfl rfl (LO (Mn.qb (e:=[(14,_),(92,_)]) ?_)))));refine An rfl (py (qN rfl (LM rfl (M6 rfl (LU rfl (LP Tryz.func129 rfl ?_))))));have z34:=ax.size;have z45:=di.size;have z03:=cw.size;have h6:=(h5.step (Y:=λj=>((X j\/j=b)\/j=b9)\/vv.ownBlock=some j) aR (λj e=>⟨.inl (.inr e),λe'=>lQ k ht.gw.xk (e'▸e),λe'=>lQ x ht.gw.xx (e'▸e),λe'=>lQ 1 ht.gw.x1 (e'▸e),λe'=>lQ 2 ht.gw.x2 (e'▸e)⟩) (λj hj=>hj.imp id λe=>⟨mB j e,iW.lt e⟩) (λj hj=> .inl hj)).less (X:=λj=>X j\/vv.ownBlock=some j) (λj hj=>hj.imp (λe=> .inl (.inl e)) id) (.inl ht.gw.xk) (.inl ht.gw.xx) (.inl ht.gw.x1) (.inl ht.gw.x2);exact⟨_,rfl,vv,rfl,iW,λj e=>by have:=mB j e;omega,h6,((cw.trans (ax.LZ λj e e'=>e (.inl (.inl e')))).trans di.kp).trans (aR.LZ λj e e'=>lQ j e' e)⟩
 case cM=>
  refine LY rfl (λh0=>?_) (λh0=>?_)
  ·have un:0<Mq g E v:=by omega
   obtain⟨q1,q2,q3,q4,q5,q6,q7,q8⟩:=au.back hv un;have lS:=ph.bp;have lT:=ph.bf;refine run_seq (qN rfl (M0 OT rfl (qV ((by first|exact LR U3 rfl rfl ci rfl|exact LR U3 rfl rfl lS rfl|exact LR U3 rfl rfl lT rfl)) ?_)));refine LM rfl (Nc rfl rfl (MC (M4 rfl rfl (M0 Vj rfl (qV ((by first|exact LR U3 rfl rfl ci rfl|exact LR U3 rfl rfl lS rfl|exact LR U3 rfl rfl lT rfl)) ?_)))));refine PQ rfl rfl (MC (ME rfl rfl (LM rfl (M0 PE rfl (qV ((by first|exact LR U3 rfl rfl ci rfl|exact LR U3 rfl rfl lS rfl|exact LR U3 rfl rfl lT rfl)) ?_)))));refine M0 PS rfl (qV ((by first|exact LR U3 rfl rfl ci rfl|exact LR U3 rfl rfl lS rfl|exact LR U3 rfl rfl lT rfl)) ?_);refine Nc rfl rfl (MC (ME rfl rfl (LO (Mn.qb (e:=[(0,_),(1,_),(2,_),(3,_),(4,_),(7,_),(8,_),(9,_),(10,_),(11,_),(12,_),(13,_),(45,_)]) ?_))));refine An rfl (py (run_seq (qN rfl (qV ((by first|exact LR z9a rfl rfl ci rfl|exact LR z9a rfl rfl lS rfl|exact LR z9a rfl rfl lT rfl)) ?_))));refine LM rfl (M0 OT rfl (qV ((by first|exact LR U3 rfl rfl ci rfl|exact LR U3 rfl rfl lS rfl|exact LR U3 rfl rfl lT rfl)) ?_));refine NP rfl rfl ?_;rw[show(v:Int)-(Mq g E v:Int)=((v-Mq g E v:Nat):Int) by omega];refine LM rfl (MK rfl rfl ?_);rw[show(behind:Int)+1=((behind+1:Nat):Int) by omega];have FX:=ih un _ w3 ph;unfold Tk at FX;refine Nj rfl rfl (OC z9V rfl rfl) (FX) ?_;rintro _ w4 ⟨vb,rfl,ee,oW,h4,ax⟩
   obtain⟨vo,vc,rfl,zu⟩:∃o c,vb= .slice (some ⟨o,0,none⟩) (Mg g (v-Mq g E v)).length c/\w3.heap.size<=o:=by
    rcases ee.shape with⟨-,e⟩|⟨o,c,e,hc⟩
    ·omega
    ·exact⟨o,c,e,oW o (by rw[e];rfl)⟩
   refine LM rfl (qV (NO (v:= .slice (some ⟨vo,0,none⟩) (Mg g (v-Mq g E v)).length vc) rfl rfl) (qV (NO (v:=I 0) rfl rfl) (M6 rfl (M6 rfl (qM rfl (LM rfl (MY rfl rfl ?_)))))));have j3:=(ph.step ax (λj e e'=>e e') h4 (λj hj=> .inl hj)).bp;refine LO (Mn.qb (e:=[(0,_),(2,_),(3,_),(7,_),(8,_),(9,_),(10,_),(11,_),(12,_),(13,_),(58,_)]) ?_);refine An rfl (py (qN rfl (LM rfl (NX Ml rfl (NS rfl rfl (MC (M4 rfl rfl (NX Ml rfl (M0 PS rfl (qV (LR U3 rfl rfl j3 rfl) (Nc rfl rfl (MC (ME rfl rfl ?_)))))))))))));refine LO (An rfl (py ?_));exact(cu _ _ ⟨_,rfl,h4.less (λj hj=> .inl hj) h3.xk h3.xx h3.x1 h3.x2,ax,λe=>by omega,λ_=>ee,λj e=>by have e':vo=j:=NV e;omega⟩).qb
  ·refine py ?_;exact(cu _ _ ⟨_,rfl,h3,Kp.refl _ _,λ_=>rfl,λe=>by omega,λj e=>by cases e⟩).qb
theorem Xf (iV:g.length<50):∀(d:Nat) {v behind:Nat} {X:Nat->Prop} {w:World},Qf E v<=d->v<g.length->behind+Qf E v<=p.chain->TdM R k x gb pb fb X w->Tk R k x gb pb fb v behind X w
 | 0, v, behind, X, w, hd, hv, zP, ht => W8 iV hv zP ht λh0 => by
   obtain⟨q1,q2,-⟩:=ht.gw.ok.back hv h0
   omega
 | d + 1, v, behind, X, w, hd, hv, zP, ht => W8 iV hv zP ht λh0 X' w' ID => by
   obtain⟨q1,q2,-⟩:=ht.gw.ok.back hv h0;exact Xf iV d (by omega) (by omega) (by omega) ID
theorem Pm.z6Y (h:Pm p g E){v:Nat}(hv:v<g.length):Qf E v<=p.chain:=by
 rcases h.ent hv with e|⟨h1,h2,h3,l,e',h4,h5,h6,h7⟩
 ·unfold Qf;rw[e];exact Nat.zero_le _
 ·have IC:=of_decide_eq_true h7;unfold Qf;omega
theorem z1D (iV:g.length<50){v:Nat}(hv:v<g.length)(h:R7 R k x X w):Mm Tryz.prog 94 [ptr k 0,I (v:Int)] w λr w'=>∃vv,r= .tuple #[vv,I 0]/\z1w w' vv (Mg g v)/\(∀b,vv.ownBlock=some b->w.heap.size<=b)/\R7 R k x (λj=>X j\/vv.ownBlock=some j) w'/\Kp (λj=>¬X j) w w':=by
 refine It (e:=[(0,_),(1,_)]) Tryz.func94 rfl Tryz.ntmps94 rfl rfl (qN rfl (LV rfl rfl (NN rfl (cs:=[ptr k 0]) rfl) ?_))
 rintro _ w1 ⟨gb,rfl,IE,ad,wu⟩
 refine M6 rfl (LU rfl (run_seq (qN rfl (qV (LR YS rfl rfl wu rfl) (LM rfl (LV rfl rfl (Uu (cs:=[_]) (zs:=[Value.int .i64 0]) NQ MO rfl (by kernel_rfl) rfl rfl rfl (by decide)) ?_))))))
 rintro _ w2 ⟨vb,rfl,⟨dc,af,Ld⟩,IF⟩
 have h2:=(h.ext ad).ext af
 have sV:=af.LN wu
 have D5:=h2.cells
 have z1:=ad.size
 have z2:=af.size
 refine Mb zbP rfl (z36 h2 hv IF.rd) ?_
 rintro _ w2 ⟨rfl,rfl⟩
 refine M6 rfl (qM rfl (LM rfl (MY rfl rfl (LO (An rfl (py (qN rfl (qV (LR YS rfl rfl sV rfl) (Mp rfl (M0 Tl rfl (M0 Us rfl (qV (Mk (news:=Rz p) Xi rfl O3 rfl (LX.cells (i:=2) (n:=5) D5 rfl) rfl) (LV rfl rfl (O9 (cs:=[_,_,_,_,_]) O3 rfl) ?_)))))))))))))
 rintro _ w3 ⟨pb,rfl,qn,ah,oV⟩
 refine M1 rfl (MD (news:=Rz p) O3 rfl rfl rfl rfl oV (by simp)) ?_
 rintro w4 ⟨j3,ax⟩
 replace j3:LX w4 pb [I (p.Mh:Int),I (p.chain:Int),I (p.interval:Int),I (p.zeta:Int),I (p.most:Int)] 77:=j3
 have cZ:Ext w2 w4:=ah.LJ ax (λj e=>by omega)
 refine qM rfl (LV rfl rfl (O9 (cs:=[_]) z9F rfl) ?_)
 rintro _ w5 ⟨fb,rfl,Le,aT,cW⟩
 refine qM rfl (qV (ZU (first:=[]) (caps:=[.tmp 2,.tmp 7,.tmp 8]) rfl rfl) (M1 rfl (NC z9F rfl rfl rfl cW (by simp)) ?_))
 rintro w6 ⟨xB,aR⟩
 have cJ:Ext w4 w6:=aT.LJ aR (λj e=>by omega)
 have ie:=cZ.trans cJ
 have z6:=ie.size
 have lg:=sV.lt
 have lp:=j3.lt
 have lf:=xB.lt
 have z24:=cZ.size
 have z3:=ah.size
 have z46:=cJ.size
 have ii:=(ad.trans af).trans ie
 have h6:R7 R k x (λj=>X j\/j=gb\/j=pb\/j=fb) w6:=h.grow ii (λj hj=>hj.imp id λe=>by omega) (λj hj=> .inl hj)
 have rY:TdM R k x gb pb fb (λj=>X j\/j=gb\/j=pb\/j=fb) w6:=⟨h6,ie.LN sV,cJ.LN j3,xB,.inr (.inl rfl),.inr (.inr (.inl rfl)),.inr (.inr (.inr rfl))⟩
 have xC:=rY.bf
 have eD:=Xf iV _ (behind:=0) (Nat.le_refl _) hv (by have:=h.ok.z6Y hv;omega) rY
 unfold Tk at eD
 refine qM rfl (qV (LR z9a rfl rfl xC rfl) (LM rfl (Nj rfl rfl (OC z9V rfl rfl) (eD) ?_)))
 rintro _ w7 ⟨vv,rfl,gV,o3,h7,aA⟩
 refine qV (NO (v:=vv) rfl rfl) (qV (NO (v:=I 0) rfl rfl) (M6 rfl (LU rfl (Mn.qb (e:=[(4,_),(5,_)]) ?_))))
 refine LP Tryz.func94 rfl ?_
 exact⟨_,rfl,vv,rfl,gV,λj e=>by have:=o3 j e;omega,h7.less (λj hj=>hj.imp .inl id) (.inl h.xk) (.inl h.xx) (.inl h.x1) (.inl h.x2),ii.kp.trans (aA.LZ λj e e'=>e (.inl e'))⟩
end
def stV (b:Bool):Value:= .int .u8 (if b then 1 else 0)
structure Tv (w:World)(m gi:Nat)(L:List Bool):Prop where
 LN:LX w m [I 2,.slice (some ⟨gi,0,none⟩) L.length L.length,.slice none 0 0,.bool false] 110
 sl:Sl w (.slice (some ⟨gi,0,none⟩) L.length L.length) 154 1 L.length (L.map stV)
 ne:gi≠m
 n:L.length<=4096
 n2:2<=L.length
section
variable {w w':World}{m gi:Nat}{L:List Bool}{S:Nat->Prop}
theorem Tv.kp (h:Tv w m gi L)(hk:Kp S w w')(h1:¬S m)(h2:¬S gi):Tv w' m gi L:=
 ⟨hk.LN h.LN h1,h.sl.kp hk λg e=>by cases e;exact h2,h.ne,h.n,h.n2⟩
theorem Tv.ext (h:Tv w m gi L)(hx:Ext w w'):Tv w' m gi L:=h.kp (S:=λ_=>False) hx id id
theorem Tv.ltm (h:Tv w m gi L):m<w.heap.size:=h.LN.lt
theorem Tv.ltg (h:Tv w m gi L):gi<w.heap.size:=h.sl.lt rfl
theorem Tv.get (h:Tv w m gi L){i:Nat}{b:Bool}(hi:L[i]? =some b):w.cell? ⟨gi,0+i*1,none⟩=some (stV b):=
 MX h.sl.rd (by rw[List.getElem?_map,hi];rfl)
theorem z5B (B:Nat)(hB:2<=B/\B<=4096)(w:World):Mm Tryz.prog 22 [I 2,I (B:Int)] w λv w'=>∃m gi,v= .tuple #[ptr m 0,I 0]/\Tv w' m gi (List.replicate B false)/\w.heap.size<=m/\w.heap.size<=gi/\Ext w w':=by
 refine It (e:=[(0,_),(1,_)]) Tryz.func22 rfl Tryz.ntmps22 rfl rfl (qN rfl (M6 rfl (LU rfl (run_seq (qN rfl (LM rfl (Nr rfl rfl (MC (M4 rfl rfl (LM rfl (Nc rfl rfl (MC (ME rfl rfl ?_)))))))))))))
 refine M4 rfl rfl (Nc rfl rfl (MC (ME rfl rfl (LO (An rfl (py (qN rfl (M4 rfl rfl (LV rfl rfl (pmk (c:=B) (n:=B) PR YV rfl rfl rfl (Nat.le_refl _) (by omega) (by simp only[maxLen];omega)) ?_)))))))))
 rintro _ w1 ⟨gi,rfl,⟨sH,ad,ai⟩,jq⟩
 refine qV (OJ (cs:=[_,_,_,_]) zbK rfl zbq rfl rfl) (LV rfl rfl (NN rfl (cs:=[I 2,.slice (some ⟨gi,0,none⟩) B B,.slice none 0 0,.bool false]) rfl) ?_)
 rintro _ w2 ⟨m,rfl,hm,af,am⟩
 refine M6 rfl (LU rfl (LP Tryz.func22 rfl ?_))
 have:=ad.size
 have lg:=jq.lt (g:=gi) rfl
 refine⟨_,rfl,m,gi,rfl,⟨by rw[List.length_replicate];exact am,?_,by omega,by rw[List.length_replicate];omega,by rw[List.length_replicate];omega⟩,by omega,by omega,ad.trans af⟩
 rw[List.length_replicate,List.map_replicate]
 exact jq.ext af
def NI (L:List Bool)(s n:Nat)(b:Bool):List Bool:=L.take s++(List.replicate n b++L.drop (s+n))
theorem Nv {L:List Bool}{s n:Nat}{b:Bool}(h:s+n<=L.length):(NI L s n b).length=L.length:=by
 unfold NI
 rw[List.length_append,List.length_append,List.length_take,List.length_replicate,List.length_drop];omega
theorem z4q (L:List Bool)(s:Nat)(b:Bool):NI L s 0 b=L:=by simp[NI]
theorem z4V {L:List Bool}{s n:Nat}{b:Bool}(h:s+n<L.length):(NI L s n b).set (s+n) b=NI L s (n+1) b:=by
 have h1:(L.take s++List.replicate n b).length=s+n:=by rw[List.length_append,List.length_take,List.length_replicate];omega
 unfold NI
 rw[<-List.append_assoc,List.set_append_right _ _ (by omega),h1,Nat.sub_self,List.drop_eq_getElem_cons h,List.set_cons_zero,List.replicate_succ',List.append_assoc,List.append_assoc]
 rfl
theorem YQ (h:Tv w m gi L)(s n:Nat)(b:Bool)(hs:s+n<=L.length):Mm Tryz.prog 108 [ptr m 0,.agg #[I (s:Int),I (n:Int)],stV b] w λv w'=>v= .tuple #[]/\Tv w' m gi (NI L s n b)/\Kp (λk=>k=gi) w w':=by
 have hn:=h.n
 refine It (e:=[(0,_),(1,_),(2,_)]) Tryz.func108 rfl Tryz.ntmps108 rfl rfl (qN rfl (LV rfl rfl (NN rfl (cs:=[I (s:Int),I (n:Int)]) rfl) ?_))
 rintro _ w1 ⟨b4,rfl,eA,ad,aM⟩
 have lg:=h.ltg
 have l4:=aM.lt
 have h1:=h.ext ad
 refine qM rfl (M0 O5 rfl (qV (LR U3 rfl rfl aM rfl) (LM rfl (LO (LK (Oe (α:=Nat) (0) (λi=>[(0,ptr m 0),(2,stV b),(4,ptr b4 0),(8,I (n:Int)),(9,I (i:Int))]) (λi w'=>Tv w' m gi (NI L s i b)/\Kp (λk=>k=gi) w1 w'/\i<=n) (λi=>n-i) ?hI ?hround))))))
 case hI=>exact⟨by rw[z4q];exact h1,Kp.refl _ _,Nat.zero_le _⟩
 case hround=>
  rintro i w2 ⟨h2,ao,hi⟩ ih
  try dsimp only
  refine qN rfl (Nr rfl rfl (LO (run_seq (LY rfl (λh0=>?_) (λh0=>?_)))))
  ·have aY:i<n:=by omega
   have hl:=Nv (L:=L) (s:=s) (n:=i) (b:=b) (by omega);have am:=h2.LN;have bq:=ao.LN aM (by omega);have hg:=Ext.Ma w2;refine py (run_seq (LK (qN rfl (LM rfl (LU rfl (Me [10] (λw'=>Ext w2 w') (by kernel_rfl) rfl (qL [1,2,3,9,10] 0 rfl (λ_ h=>My rfl) hg (qL [2,3,9,10] 1 rfl (λ_ h=>MS rfl) hg (qL [3,9,10] 2 rfl (λ_ h=>Mo Rs rfl) hg (qL [9,10] 3 rfl (λ_ h=>(by first|exact LR PR rfl rfl (h.LN am) rfl|exact LR PR rfl rfl (h.LN bq) rfl)) hg ?_))))))))));refine qL [5,7,9,10] 4 rfl (λ_ h=>Mo NR rfl) hg (qL [7,9,10] 5 rfl (λ_ h=>(by first|exact LR U3 rfl rfl (h.LN am) rfl|exact LR U3 rfl rfl (h.LN bq) rfl)) hg ?_);refine qL [7,9,10] 6 rfl (λ_ h=>My rfl) hg (qL [9,10] 7 rfl (λ_ h=>R9 rfl rfl (by omega)) hg (qL [9,10] 8 rfl (λ_ h=>My rfl) hg (qL [10] 9 rfl (λ_ h=>MN PR YV rfl rfl (by omega)) hg (Pv [10] (qO 10 (Mx (i:=10) rfl rfl (Of YV rfl rfl rfl (h2.ext hg).sl (by rw[List.length_map,hl];omega)) ?_))))));rintro w3 ⟨cO,ar⟩;refine⟨trivial,?_⟩
   have h3:Tv w3 m gi (NI L s (i+1) b):=by
    refine⟨?_,?_,h2.ne,by rw[Nv (by omega)];exact h.n,by rw[Nv (by omega)];exact h.n2⟩
    ·rw[Nv (by omega),<-hl];exact ar.LN (hg.LN am) (λe=>h2.ne e.symm)
    ·rw[show 0+(s+i)*1=s+i by omega,<-List.map_set,z4V (by omega)] at cO;rw[Nv (by omega),<-hl];exact cO
   refine qE (LL (LQ rfl (MK rfl rfl (LM rfl (LO ?_)))));exact(ih (i+1) _ ⟨h3,ao.trans (hg.kp.trans ar),by omega⟩ (by omega)).qb
  ·have aY:i=n:=by omega
   subst aY;refine LW rfl (N9 Tryz.func108 rfl ?_);exact⟨_,rfl,rfl,h2,ad.kp.trans ao⟩
end
structure Pre (L:List Bool)(a:Nat):Prop where
 a2:2<=a
 le:a<=L.length
 tk:∀i,2<=i->i<a->L[i]? =some true
 fr:∀i,a<=i->i<L.length->L[i]? =some false
section
variable {w w':World}{m gi a:Nat}{L:List Bool}{S:Nat->Prop}
theorem UE {l bm : Nat}(hm : Tv w m gi L)(hp : Pre L a)(ha : a < L.length)(kw : LX w bm [ptr m 0] 55)(J : World -> Prop)(hJ : ∀ w w', J w -> Ext w w' -> J w')
  (hround:∀w',Ext w w'->Z8 Tryz.prog l [.agg #[I (a:Int),I ((L.length-a:Nat):Int)]] w' λv w''=>(v= .bool true/\J w''/\LX w'' bm [ptr m 0] 55/\Tv w'' m gi L)\/(v= .bool false/\J w'')):
  Mm Tryz.prog 63 [.func (.yield l) #[] #[],ptr bm 0] w λv w'=>v= .tuple #[]/\J w':=by
 have hn:=hm.n
 have rV:=hp.a2
 have hB:=hm.LN
 refine It (e:=[(0,_),(1,_)]) Tryz.func63 rfl Tryz.ntmps63 rfl rfl (qN rfl (qV ((by first|exact LR Ya rfl rfl kw rfl|exact LR Ya rfl rfl hB rfl)) ?_))
 refine Mp rfl (M0 z3E rfl (qV ((by first|exact LR U3 rfl rfl kw rfl|exact LR U3 rfl rfl hB rfl)) ?_))
 refine LU rfl (LK (Oe (α:=Nat) (2) (λi=>[(0,.func (.yield l) #[] #[]),(1,ptr bm 0),(3,I (i:Int))]) (λi w'=>LX w' bm [ptr m 0] 55/\Tv w' m gi L/\((2<=i/\i<=a/\Ext w w')\/(i=L.length+1/\J w'))) (λi=>L.length+1-i) ?hI ?hround))
 case hI=>exact⟨kw,hm,.inl ⟨Nat.le_refl _,rV,Ext.refl _⟩⟩
 case hround=>
  rintro i w1 ⟨pD,oq,fR⟩ ih;have ai:=oq.LN
  try dsimp only
  refine run_seq (qN rfl (LM rfl (qV ((by first|exact LR Ya rfl rfl pD rfl|exact LR Ya rfl rfl ai rfl)) ?_)));refine Mp rfl (M0 Rs rfl (qV ((by first|exact LR PR rfl rfl pD rfl|exact LR PR rfl rfl ai rfl)) ?_));refine NX PR rfl (Nr rfl rfl (LO (LY rfl (λh0=>?_) (λh0=>?_))))
  ·have sW : 2 <= i /\ i <= a /\ Ext w w1 := by
    rcases fR with h| h
    ·exact h
    ·omega
   obtain⟨dv,Lf,ad⟩:=sW;refine py (run_seq (LK (qN rfl (LM rfl (qV (OJ (cs:=[_,_]) Ox rfl zeM rfl rfl) (LV rfl rfl (O9 (cs:=[_,_]) Ox rfl) ?_))))));rintro _ w2 ⟨b4,rfl,eA,af,aM⟩;refine M1 rfl (MD (news:=[I (i:Int),I 0]) Ox rfl rfl rfl rfl aM (by simp)) ?_;rintro w3 ⟨dL,ar⟩;replace dL:LX w3 b4 [I (i:Int),I 0] 97:=dL;have aO:Ext w1 w3:=af.LJ ar (λj e=>by omega);have lU:=aO.LN pD;have kQ:=oq.ext aO;have aq:=kQ.LN;refine LO (run_seq (LK (Oe (α:=Nat) (i) (λj=>[(0,.func (.yield l) #[] #[]),(1,ptr bm 0),(3,I (j:Int)),(4,ptr b4 0)]) (λj w'=>w'=w3/\i<=j/\j<=L.length/\(i<j->i=a)) (λj=>L.length-j) ?hI ?hround)))
   case hI=>exact⟨rfl,Nat.le_refl _,by omega,λh=>absurd h (by omega)⟩
   case hround =>
    rintro j w4 ⟨rfl,gT,Lg,D6⟩ ih2
    try dsimp only
    rcases Nat.lt_or_ge j L.length with hj|hj
    ·obtain⟨b,hb⟩:∃b,L[j]? =some b:=⟨_,List.getElem?_eq_getElem hj⟩;have bh:=kQ.get hb;refine run_seq (qN rfl (LM rfl (qV ((by first|exact LR Ya rfl rfl lU rfl|exact LR Ya rfl rfl aq rfl)) ?_)));refine Mp rfl (M0 Rs rfl (qV ((by first|exact LR PR rfl rfl lU rfl|exact LR PR rfl rfl aq rfl)) ?_));refine NX PR rfl (Nr rfl rfl (O8 (LM rfl (qV ((by first|exact LR Ya rfl rfl lU rfl|exact LR Ya rfl rfl aq rfl)) ?_))));refine Mp rfl (M0 Rs rfl (qV ((by first|exact LR PR rfl rfl lU rfl|exact LR PR rfl rfl aq rfl)) ?_));refine LM rfl (qV (MN PR YV rfl rfl (by omega)) ?_)
     cases b with
     | true =>
       refine qV (Mt (v:= .int .u8 1) z6l rfl rfl bh) ?_
       have IG:i<a:=by
        rcases Nat.lt_or_ge i a with h| h
        ·exact h
        ·have:=hp.fr j (by omega) hj;rw[this] at hb;cases hb
       have qB:j=i:=by
        rcases Nat.lt_or_ge i j with h| h
        ·have:=D6 h;omega
        ·omega
       subst qB;refine NS rfl rfl (MC (NB rfl rfl (LO (An rfl (LW rfl (qN rfl (LM rfl (M0 NR rfl (qV (LR U3 rfl rfl dL rfl) (NP rfl rfl (M0 O5 rfl (M1 rfl (NC MO rfl rfl rfl dL (by simp)) ?_))))))))))));rintro w5 ⟨aJ,aj⟩;rw[show(j:Int)-(j:Int)=0 by omega] at aJ;replace aJ:LX w5 b4 [I (j:Int),I 0] 97:=aJ;have cm:Ext w1 w5:=aO.LJ aj (λq e=>by have:=af.size;omega);refine qM rfl (M0 O5 rfl (qV (LR U3 rfl rfl aJ rfl) (Nc rfl rfl (LM rfl (qS (qS (qS (qS (ME rfl rfl (LO (An rfl (py (LL ?_)))))))))))));refine LQ rfl (LM rfl (MK rfl rfl (LU rfl ?_)))
       exact(ih (j+1) w5 ⟨cm.LN pD,oq.ext cm,.inl ⟨by omega,by omega,ad.trans cm⟩⟩ (by omega)).qb
     | false =>
       refine qV (Mt (v:= .int .u8 0) z6l rfl rfl bh) (NS rfl rfl (O8 (NB rfl rfl ?_)))
       have sX:i=a:=by
        rcases Nat.lt_or_ge i a with h| h
        ·rcases Nat.lt_or_ge i j with h2|h2
         ·exact D6 h2
         ·have e:j=i:=by omega
          subst e;have:=hp.tk j dv h;rw[this] at hb;cases hb
        ·omega
       refine LO (M3 rfl (py (LK (LQ rfl (LM rfl (MK rfl rfl (LU rfl (LL ?_))))))));exact(ih2 (j+1) _ ⟨rfl,by omega,by omega,λ_=>sX⟩ (by omega)).qb
    ·have IH:j=L.length:=by omega
     subst IH;have sX:=D6 (by omega);subst sX;refine run_seq (qN rfl (LM rfl (qV ((by first|exact LR Ya rfl rfl lU rfl|exact LR Ya rfl rfl aq rfl)) ?_)));refine Mp rfl (M0 Rs rfl (qV ((by first|exact LR PR rfl rfl lU rfl|exact LR PR rfl rfl aq rfl)) ?_));refine NX PR rfl (Nr rfl rfl (MC (LM rfl (qS (qS (qS (qS (qS (qS (qS (qS (ME rfl rfl (LO ?_)))))))))))));refine An rfl (LW rfl (qN rfl (LM rfl (M0 NR rfl (qV (LR U3 rfl rfl dL rfl) (NP rfl rfl (M0 O5 rfl (M1 rfl (NC MO rfl rfl rfl dL (by simp)) ?_))))))));rintro w5 ⟨aJ,aj⟩;rw[show(L.length:Int)-(i:Int)=((L.length-i:Nat):Int) by omega] at aJ;replace aJ:LX w5 b4 [I (i:Int),I ((L.length-i:Nat):Int)] 97:=aJ;have cm:Ext w1 w5:=aO.LJ aj (λq e=>by have:=af.size;omega);refine qM rfl (M0 O5 rfl (qV (LR U3 rfl rfl aJ rfl) (Nc rfl rfl (O8 (M4 rfl rfl (qV (Mk (news:=[I (i:Int),I ((L.length-i:Nat):Int)]) U97 rfl Ox rfl (LX.cells (n:=2) aJ rfl) rfl) (z2D rfl rfl (yy rfl rfl) (hround w5 (ad.trans cm)) ?_)))))));rintro v w6 hv;rcases hv with⟨rfl,xD,D7,II⟩|⟨rfl,xD⟩
     ·refine qV ((by first|exact ML rfl|exact Oh rfl)) ?_;refine NB rfl rfl (LO (An rfl (py (LL (LQ rfl (LM rfl (MK rfl rfl (LU rfl ?_))))))));exact(ih (L.length+1) w6 ⟨D7,II,.inr ⟨rfl,xD⟩⟩ (by omega)).qb
     ·refine qV ((by first|exact ML rfl|exact Oh rfl)) ?_;refine NB rfl rfl (LO (M3 rfl (LP Tryz.func63 rfl ?_)));exact⟨_,rfl,rfl,xD⟩
  ·rcases fR with⟨-,h,-⟩|⟨-,xD⟩
   ·omega
   ·refine LW rfl (N9 Tryz.func63 rfl ?_);exact⟨_,rfl,rfl,xD⟩
theorem UF (w:World)(m:Nat):Mm Tryz.prog 35 [ptr m 0] w λv w'=>∃bm,v= .func (.func 63) #[] #[ptr bm 0]/\LX w' bm [ptr m 0] 55/\w.heap.size<=bm/\Ext w w':=by
 refine It (e:=[(0,_)]) Tryz.func35 rfl Tryz.ntmps35 rfl rfl (qN rfl (LV rfl rfl (NN rfl (cs:=[ptr m 0]) rfl) ?_))
 rintro _ w1 ⟨bm,rfl,kw,ad,ai⟩
 refine M6 rfl (qM rfl (qV (ZU (first:=[]) (caps:=[.tmp 1]) rfl rfl) (LU rfl (LP Tryz.func35 rfl ?_))))
 exact⟨_,rfl,bm,rfl,ai,by omega,ad⟩
theorem z2N (h:Tv w m gi L)(hp:Pre L a)(ha:a<L.length):Mm Tryz.prog 18 [ptr m 0] w λv w'=>v=I ((L.length-a:Nat):Int)/\Ext w w':=by
 have hn:=h.n
 refine It (e:=[(0,_)]) Tryz.func18 rfl Tryz.ntmps18 rfl rfl (qN rfl (M6 rfl (qM rfl (LV rfl rfl (O9 (cs:=[_]) MO rfl) ?_))))
 rintro _ w1 ⟨b3,rfl,en,ad,aq⟩
 refine M1 rfl (NC MO rfl rfl rfl aq (by simp)) ?_
 rintro w2 ⟨cX,ao⟩
 replace cX:LX w2 b3 [I 0] 3:=cX
 have af:Ext w w2:=ad.LJ ao (λj e=>by omega)
 refine LO (run_seq (qN rfl (LM rfl (qV (z0j Ya rfl rfl) (LO (M3 rfl (qN rfl (LM rfl (Mb zd1 rfl (UF w2 m) ?_)))))))))
 rintro _ w3 ⟨bm,rfl,kw,lR,ah⟩
 have cI:=af.trans ah
 have df:=ah.LN cX
 have kQ:=h.ext cI
 have l3:=df.lt
 have l32:=cX.lt
 have lm:=kw.lt
 have lmm:=h.ltm
 have lmg:=h.ltg
 have z1:=ad.size
 refine LO (LK (Qb (ps:=[9]) (p:=[]) (q:=[_]) rfl zdI ?_))
 rintro l wl du eT cz hD Rc dj eO
 have D8:=z6y dj eO
 have zl:=du.size
 refine Mm.mono (UE (kQ.ext du) hp ha (du.LN kw)
  (λw'=>Rc .ready none w'/\LX w' b3 [I ((L.length-a:Nat):Int)] 3/\Kp (λk=>k=l\/k=b3) wl w')
  (λw w' h hx=>⟨hx.kp.rc (S:=λ_=>False) dj h.1 id,hx.LN h.2.1,h.2.2.trans hx.kp⟩) ?_) ?_
 ·intro w4 aC;have iC:=Kp.rc (S:=λ_=>False) aC dj eO id;have cG:=aC.LN (du.LN df);have z4:=aC.size;refine Rj dj iC rfl rfl (LQ rfl (LV rfl rfl (O9 (cs:=[_,_]) Ox rfl) ?_));rintro _ w5 ⟨b4,rfl,eA,aT,aM⟩;refine M1 rfl (MD (news:=[I (a:Int),I ((L.length-a:Nat):Int)]) Ox rfl rfl rfl rfl aM (by simp)) ?_;rintro w6 ⟨bP,aR⟩;replace bP:LX w6 b4 [I (a:Int),I ((L.length-a:Nat):Int)] 97:=bP;have cJ:Ext w4 w6:=aT.LJ aR (λj e=>by omega);have IJ:=Kp.rc (S:=λ_=>False) cJ dj iC id;have z46:=cJ.size;have l4:=bP.lt;refine LO (run_beginRound rfl dj IJ ?_);rintro w7 h7 aA;have iK:=aA.LN (cJ.LN cG) (by omega);have bc:=aA.LN bP (by omega);refine LK (LQ rfl (qV ((by first|exact LR U3 rfl rfl iK rfl|exact LR U3 rfl rfl bc rfl)) ?_));refine M0 O5 rfl (qV ((by first|exact LR U3 rfl rfl iK rfl|exact LR U3 rfl rfl bc rfl)) ?_);refine MK rfl rfl ?_;rw[show(0:Int)+((L.length-a:Nat):Int)=((L.length-a:Nat):Int) by omega];refine M1 rfl (NC MO rfl rfl rfl iK (by simp)) ?_;rintro w8 ⟨mD,bj⟩;have h8:=Kp.rc bj dj h7 (by omega);refine LO (LL (Qu dj h8 ?_));intro w9 h9 aL;have nt:Kp (λk=>k=l\/k=b3) w4 w9:=((cJ.kp.trans (aA.LZ λk e=> .inl e)).trans (bj.LZ λk e=> .inr e)).trans (aL.LZ λk e=> .inl e);exact .inl ⟨rfl,⟨h9,aL.LN mD (by omega),aC.kp.trans nt⟩,nt.LN (aC.LN (du.LN kw)) (by omega),((kQ.ext du).ext aC).kp nt (by omega) (by omega)⟩
 ·rintro v wz ⟨rfl,iC,IK,eV⟩;refine⟨_,_,iC,by simp,λwy iF=>?_⟩;have zz:=eV.size;have zy:=iF.size;have IL:=iF.LN IK (by omega);have xE:=iF.heap (eV.heap hD (by omega)) (by omega);refine LL (qN rfl (qV (LR U3 rfl rfl IL rfl) (LU rfl (z6C (by simp) (Wt xE) Tryz.func18 rfl ?_))));have z3:=ah.size;have dh:Kp (λk=>k=w3.heap.size) wy (PN [.mk w3.heap.size] wy):=Ng wy w3.heap.size (.deferred none);have D9:Kp (λk=>k=l\/k=b3\/k=w3.heap.size) w3 (PN [.mk w3.heap.size] wy):=((du.kp.trans (eV.LZ λk e=>by omega)).trans (iF.LZ λk e=>by omega)).trans (dh.LZ λk e=>by omega);exact⟨_,rfl,rfl,cI.LJ D9 (λk e=>by omega)⟩
end
section
variable {w w':World}{m gi a:Nat}{L:List Bool}{S:Nat->Prop}
theorem z1k (h:Tv w m gi L)(hp:Pre L a){n:Nat}(cK:1<=n)(oy:a+n<=L.length):Mm Tryz.prog 72 [ptr m 0,I (n:Int)] w λv w'=>v= .tuple #[.agg #[I (a:Int),I (n:Int)],I 0]/\Tv w' m gi (NI L a n true)/\Kp (λk=>k=gi) w w':=by
 have hn:=h.n
 refine It (e:=[(0,_),(1,_)]) Tryz.func72 rfl Tryz.ntmps72 rfl rfl (qN rfl (LV rfl rfl (NN rfl (cs:=[ptr m 0]) rfl) ?_))
 rintro _ w1 ⟨b2,rfl,bY,ad,am⟩
 refine LV rfl rfl (NN rfl (cs:=[I (n:Int)]) rfl) ?_
 rintro _ w2 ⟨b3,rfl,en,af,aq⟩
 refine LV rfl rfl (O9 (cs:=[_,_]) Ox rfl) ?_
 rintro _ w3 ⟨b4,rfl,eA,ah,aM⟩
 refine LV rfl rfl (O9 (cs:=[_]) z4Z rfl) ?_
 rintro _ w4 ⟨b5,rfl,gN,aC,aF⟩
 have l2:=am.lt
 have l3:=aq.lt
 have l4:=aM.lt
 have l5:=aF.lt
 have z1:=ad.size
 have z2:=af.size
 have z3:=ah.size
 have z4:=aC.size
 have ep:=aC.LN (ah.LN (af.LN am))
 have cG:=aC.LN (ah.LN aq)
 have cq:=aC.LN aM
 refine LO (run_seq (LK (qN rfl (qV ((by first|exact LR Ya rfl rfl ep rfl|exact LR Ya rfl rfl cG rfl)) ?_))))
 refine qV (MU Ya rfl rfl) (LU rfl (An rfl (qN rfl (qV ((by first|exact LR U3 rfl rfl ep rfl|exact LR U3 rfl rfl cG rfl)) ?_))))
 refine Nr rfl rfl (MC (LU rfl (An rfl (py (LL (run_seq (qN rfl (qV ((by first|exact LR Ya rfl rfl ep rfl|exact LR Ya rfl rfl cG rfl)) ?_))))))))
 refine Mb zd1 rfl (UF w4 m) ?_
 rintro _ w5 ⟨bm,rfl,kw,lR,aT⟩
 have bC:=(((ad.trans af).trans ah).trans aC).trans aT
 have qP:=h.ext bC
 have lm:=kw.lt
 have lmm:=h.ltm
 have lmg:=h.ltg
 have z5:=aT.size
 refine LO (LK (Qb (ps:=[17]) (p:=[]) (q:=[_]) rfl zdI ?_))
 rintro l wl du eT cz hD Rc dj eO
 have D8:=z6y dj eO
 have zl:=du.size
 have wm:=aT.trans du
 refine Mm.mono (UE (qP.ext du) hp (by omega) (du.LN kw)
  (λw'=>Rc .done (some .ret) w'/\LX w' b4 [I (a:Int),I (n:Int)] 97/\LX w' b5 [I 0] 35/\Tv w' m gi (NI L a n true)/\Kp (λk=>k=l\/k=b4\/k=b5\/k=gi) wl w')
  (λw w' h hx=>⟨hx.kp.rc (S:=λ_=>False) dj h.1 id,hx.LN h.2.1,hx.LN h.2.2.1,h.2.2.2.1.ext hx,h.2.2.2.2.trans hx.kp⟩) ?_) ?_
 ·intro w6 aN;have iC:=Kp.rc (S:=λ_=>False) aN dj eO id;have z6:=aN.size;refine Rj dj iC rfl rfl (LQ rfl (LV rfl rfl (O9 (cs:=[_,_]) Ox rfl) ?_));rintro _ w7 ⟨b6,rfl,nY,bQ,aX⟩;refine M1 rfl (MD (news:=[I (a:Int),I ((L.length-a:Nat):Int)]) Ox rfl rfl rfl rfl aX (by simp)) ?_;rintro w8 ⟨ip,bj⟩;replace ip:LX w8 b6 [I (a:Int),I ((L.length-a:Nat):Int)] 97:=ip;have ig:Ext w6 w8:=bQ.LJ bj (λj e=>by omega);have Da:=Kp.rc (S:=λ_=>False) ig dj iC id;have z8:=ig.size;have l6:=ip.lt;refine LO (run_beginRound rfl dj Da ?_);rintro w9 h9 aL;have pE:=(wm.trans aN).trans ig;have lV:=aL.LN (pE.LN cG) (by omega);have kh:=aL.LN (pE.LN ep) (by omega);have iq:=aL.LN ip (by omega);have IM:=((((qP.ext du).ext aN).ext ig).kp aL (by omega) (by omega));refine LK (qN rfl (M0 O5 rfl (qV ((by first|exact LR U3 rfl rfl lV rfl|exact LR U3 rfl rfl kh rfl|exact LR U3 rfl rfl iq rfl)) ?_)));refine qV ((by first|exact LR U3 rfl rfl lV rfl|exact LR U3 rfl rfl kh rfl|exact LR U3 rfl rfl iq rfl)) ?_;refine PQ rfl rfl (O8 (LO (M3 rfl (qN rfl (qV ((by first|exact LR U3 rfl rfl lV rfl|exact LR U3 rfl rfl kh rfl|exact LR U3 rfl rfl iq rfl)) ?_)))));refine M0 O5 rfl (M1 rfl (NC MO rfl rfl rfl iq (by simp)) ?_);rintro w10 ⟨gQ,aw⟩;replace gQ:LX w10 b6 [I (a:Int),I (n:Int)] 97:=gQ;have nu:=aw.LN kh (by omega);have Db:=IM.kp aw (by omega) (by omega);have eK:=Kp.rc aw dj h9 (by omega);refine qM rfl (qV (LR Ya rfl rfl nu rfl) (qV (Mk (news:=[I (a:Int),I (n:Int)]) U97 rfl Ox rfl (LX.cells (n:=2) gQ rfl) rfl) (Mb za1 rfl (YQ Db a n true oy) ?_)));rintro _ w11 ⟨rfl,Dc,aU⟩;have xF:=aU.LN gQ (by omega);have xG:=aU.LN (aw.LN (aL.LN (pE.LN cq) (by omega)) (by omega)) (by omega);have xH:=aU.LN (aw.LN (aL.LN (pE.LN aF) (by omega)) (by omega)) (by omega);have mA:=Kp.rc aU dj eK (by omega);refine LO (Mn.qb (e:=[(4,_),(5,_),(6,_)]) ?_);refine qN rfl (qV (Mk (news:=[I (a:Int),I (n:Int)]) U97 rfl Ox rfl (LX.cells (n:=2) xF rfl) rfl) (M1 rfl (MD (news:=[I (a:Int),I (n:Int)]) Ox rfl rfl rfl rfl xG (by simp)) ?_));rintro w12 ⟨xI,aV⟩;refine M1 rfl (NC z4Z rfl rfl rfl (aV.LN xH (by omega)) (by simp)) ?_;rintro w13 ⟨xJ,da⟩;have Dd:=Kp.rc da dj (Kp.rc aV dj mA (by omega)) (by omega);refine LO ?_
  -- AT: Code.ret
  refine UX dj Dd ?_;intro w14 IN pF
  exact .inr ⟨rfl,IN,pF.LN (da.LN xI (by omega)) (by omega),pF.LN xJ (by omega),((Dc.kp aV (by omega) (by omega)).kp da (by omega) (by omega)).kp pF (by omega) (by omega),
   (((((((aN.kp.trans ig.kp).trans (aL.LZ λk e=>by omega)).LJ aw (λk e=>by omega)).trans (aU.LZ λk e=>by omega)).trans (aV.LZ λk e=>by omega)).trans (da.LZ λk e=>by omega)).trans (pF.LZ λk e=>by omega))⟩
 ·rintro v wz ⟨rfl,iC,De,Df,IP,eV⟩;refine⟨_,_,iC,by simp,λwy iF=>?_⟩;have zz:=eV.size;have zy:=iF.size;have Dg:=iF.LN De (by omega);have Dh:=iF.LN Df (by omega);have xE:=iF.heap (eV.heap hD (by omega)) (by omega);have dh:=Ng wy w5.heap.size (.deferred none);have IQ:=dh.LN Dg (by omega);have IR:=dh.LN Dh (by omega);refine Ti (by simp) (Wt xE) Tryz.func72 (.cell U97 rfl Ox rfl (LX.cells (n:=2) IQ (news:=[_,_]) rfl) rfl (.cell1 U35 rfl rfl ((IR).cell _) .nil)) ?_;have Di:Kp (λk=>k=gi) w (PN [.mk w5.heap.size] wy):=((((bC.kp.trans du.kp).LJ eV (λk e=>by omega)).LJ iF (λk e=>by omega)).LJ dh (λk e=>by omega));exact⟨_,rfl,rfl,(IP.kp iF (by omega) (by omega)).kp dh (by omega) (by omega),Di⟩
end
section
variable {w w':World}{m gi a:Nat}{L:List Bool}{S:Nat->Prop}
theorem z4s (h:Tv w m gi L)(s n:Nat)(cK:1<=n)(cS:2<=s)(i8:s+n<=L.length):Mm Tryz.prog 117 [ptr m 0,.agg #[I (s:Int),I (n:Int)]] w λv w'=>v= .bool true/\Ext w w':=by
 have hn:=h.n
 refine It (e:=[(0,_),(1,_)]) Tryz.func117 rfl Tryz.ntmps117 rfl rfl (qN rfl (LV rfl rfl (NN rfl (cs:=[I (s:Int),I (n:Int)]) rfl) ?_))
 rintro _ w1 ⟨b3,rfl,en,ad,aq⟩
 have hg:=Ext.Ma w1
 have ki:=(h.ext ad).LN
 refine LU rfl (run_seq (NF (λw'=>Ext w1 w') rfl (LS 0 rfl (Mo O5 rfl) hg (qT 1 rfl (λ_ h=>(by first|exact LR U3 rfl rfl (h.LN aq) rfl|exact LR U3 rfl rfl (h.LN ki) rfl)) hg ?_))))
 refine LS 2 rfl (yge rfl rfl) hg (Qq (M9 3 rfl rfl (hg) (LS 4 rfl (Mo NR rfl) hg (qT 5 rfl (λ_ h=>(by first|exact LR U3 rfl rfl (h.LN aq) rfl|exact LR U3 rfl rfl (h.LN ki) rfl)) hg ?_))))
 refine M9 6 rfl rfl (hg) (LS 7 rfl (MS rfl) hg (LS 8 rfl (Mo z3E rfl) hg (qT 9 rfl (λ_ h=>(by first|exact LR U3 rfl rfl (h.LN aq) rfl|exact LR U3 rfl rfl (h.LN ki) rfl)) hg ?_)))
 refine LS 10 rfl (yge rfl rfl) hg (Qq (LS 11 rfl (Rx rfl rfl) hg (M9 12 rfl rfl (hg) (LS 13 rfl (Mo NR rfl) hg (qT 14 rfl (λ_ h=>(by first|exact LR U3 rfl rfl (h.LN aq) rfl|exact LR U3 rfl rfl (h.LN ki) rfl)) hg ?_)))))
 refine M9 15 rfl rfl (hg) (LS 16 rfl (MS rfl) hg (LS 17 rfl (Mo Rs rfl) hg (qT 18 rfl (λ_ h=>(by first|exact LR PR rfl rfl (h.LN aq) rfl|exact LR PR rfl rfl (h.LN ki) rfl)) hg ?_)))
 refine LS 19 rfl (OZ PR rfl) hg (LS 20 rfl (XF rfl rfl) hg (Qq (LS 21 rfl (Rx rfl rfl) hg (M9 22 rfl rfl (hg) (LS 23 rfl (Mo O5 rfl) hg (qT 24 rfl (λ_ h=>(by first|exact LR U3 rfl rfl (h.LN aq) rfl|exact LR U3 rfl rfl (h.LN ki) rfl)) hg ?_))))))
 refine M9 25 rfl rfl (hg) (LS 26 rfl (MS rfl) hg (LS 27 rfl (Mo Rs rfl) hg (qT 28 rfl (λ_ h=>(by first|exact LR PR rfl rfl (h.LN aq) rfl|exact LR PR rfl rfl (h.LN ki) rfl)) hg ?_)))
 refine LS 29 rfl (OZ PR rfl) hg (LS 30 rfl (Mo NR rfl) hg (qT 31 rfl (λ_ h=>(by first|exact LR U3 rfl rfl (h.LN aq) rfl|exact LR U3 rfl rfl (h.LN ki) rfl)) hg ?_))
 refine LS 32 rfl (TF rfl rfl (by omega)) hg (LS 33 rfl (V7 rfl rfl) hg (Qq (LS 34 rfl (Rx rfl rfl) hg (LS 35 rfl (NK rfl) hg (qE (Mn.qb (e:=[(4,_)]) ?_))))))
 refine LP Tryz.func117 rfl ?_
 exact⟨_,rfl,rfl,ad.trans hg⟩
theorem z2P {b5:Nat}(c d:Bool)(hB:LX w b5 [stV d] 154)(Ai:c=d):Mm Tryz.prog 155 [stV c,ptr b5 0] w λv w'=>v= .bool false/\w'=w:=by
 subst Ai
 cases c with
 | true =>
   replace hB:LX w b5 [.int .u8 1] 154:=hB;show Mm Tryz.prog 155 [.int .u8 1,ptr b5 0] w _;refine It (e:=[(0,_),(1,_)]) Tryz.func155 rfl Tryz.ntmps155 rfl rfl (qN rfl (M6 rfl (qM rfl (LM rfl (qV (LR z6l rfl rfl hB rfl) (MY rfl rfl (MC (LU rfl (LP Tryz.func155 rfl ?_)))))))))
   exact⟨_,rfl,rfl,rfl⟩
 | false =>
   replace hB:LX w b5 [.int .u8 0] 154:=hB;show Mm Tryz.prog 155 [.int .u8 0,ptr b5 0] w _;refine It (e:=[(0,_),(1,_)]) Tryz.func155 rfl Tryz.ntmps155 rfl rfl (qN rfl (M6 rfl (qM rfl (LM rfl (qV (LR z6l rfl rfl hB rfl) (MY rfl rfl (MC (LU rfl (LP Tryz.func155 rfl ?_)))))))));exact⟨_,rfl,rfl,rfl⟩
theorem z4Q {b5 b o n cap:Nat}(hn:n<=4096)(c:Bool)(hB:LX w b5 [stV c] 154)(hR:Rd w (.slice (some ⟨b,o,none⟩) n cap) 1 n (List.replicate n (stV c))):
  Mm Tryz.prog 184 [.slice (some ⟨b,o,none⟩) n cap,.func (.func 155) #[] #[ptr b5 0]] w λv w'=>v=I (-1)/\w'=w:=by
 refine It (e:=[(0,_),(1,_)]) Tryz.func184 rfl Tryz.ntmps184 rfl rfl (qN rfl (LU rfl (run_seq (qN rfl (LM rfl (NX PR rfl (LM rfl (LO (LK (Oe (α:=Nat) (0) (λi=>[(0,.slice (some ⟨b,o,none⟩) n cap),(1,.func (.func 155) #[] #[ptr b5 0]),(7,I (n:Int)),(8,I (i:Int))]) (λi w'=>w'=w/\i<=n) (λi=>n-i) ?hI ?hround))))))))))
 case hI=>exact⟨rfl,Nat.zero_le _⟩
 case hround=>
  rintro i w1 ⟨rfl,hi⟩ ih
  try dsimp only
  refine qN rfl (Nr rfl rfl (LO (run_seq (LY rfl (λh0=>?_) (λh0=>?_)))))
  ·refine py (run_seq (LK (qN rfl (LM rfl (M6 rfl (qM rfl (M4 rfl rfl (LM rfl (qV (MN PR YV rfl rfl (by omega)) (qV (Mt (v:=stV c) z6l rfl rfl (MX hR (by rw[List.getElem?_replicate,if_pos (by omega)]))) ?_))))))))));refine Nj rfl rfl (OC zdR rfl rfl) (z2P c c hB rfl) ?_;rintro _ w1 ⟨rfl,rfl⟩;refine LO (An rfl (py (LL (LQ rfl (MK rfl rfl (LM rfl (LO ?_)))))));exact(ih (i+1) _ ⟨rfl,by omega⟩ (by omega)).qb
  ·refine LW rfl (qN rfl (LU rfl (LP Tryz.func184 rfl ?_)));exact⟨_,rfl,rfl,rfl⟩
theorem z4x {b5 b o n cap:Nat}(hn:n<=4096)(c:Bool)(hB:LX w b5 [stV c] 154)(hR:Rd w (.slice (some ⟨b,o,none⟩) n cap) 1 n (List.replicate n (stV c))):
  Mm Tryz.prog 154 [.slice (some ⟨b,o,none⟩) n cap,.func (.func 155) #[] #[ptr b5 0]] w λv w'=>v= .bool false/\w'=w:=by
 refine It (e:=[(0,_),(1,_)]) Tryz.func154 rfl Tryz.ntmps154 rfl rfl (qN rfl (M6 rfl (qM rfl (M4 rfl rfl (Mb zdi rfl (z4Q hn c hB hR) ?_)))))
 rintro _ w ⟨rfl,rfl⟩
 refine PQ rfl rfl (MC (LU rfl (LP Tryz.func154 rfl ?_)))
 exact⟨_,rfl,rfl,rfl⟩
theorem z4I (h:Tv w m gi L)(s n:Nat)(c:Bool)(cK:1<=n)(i8:s+n<=L.length)(hc:∀i,s<=i->i<s+n->L[i]? =some c):Mm Tryz.prog 118 [ptr m 0,.agg #[I (s:Int),I (n:Int)],stV c] w λv w'=>v= .bool true/\Ext w w':=by
 have hn:=h.n
 refine It (e:=[(0,_),(1,_),(2,_)]) Tryz.func118 rfl Tryz.ntmps118 rfl rfl (qN rfl (LV rfl rfl (NN rfl (cs:=[I (s:Int),I (n:Int)]) rfl) ?_))
 rintro _ w1 ⟨b4,rfl,eA,ad,aM⟩
 refine LV rfl rfl (NN rfl (cs:=[stV c]) (by cases c<;>rfl)) ?_
 rintro _ w2 ⟨b5,rfl,gN,af,aF⟩
 have hg:=Ext.Ma w2
 have aI:=ad.trans af
 have ki:=(h.ext aI).LN
 have bq:=af.LN aM
 have dz:=(h.ext aI).ext hg
 refine LU rfl (run_seq (NF (λw'=>Ext w2 w') rfl (M9 0 rfl rfl (hg) (LS 1 rfl (MS rfl) hg (LS 2 rfl (Mo Rs rfl) hg (qT 3 rfl (λ_ h=>(by first|exact LR PR rfl rfl (h.LN bq) rfl|exact LR PR rfl rfl (h.LN ki) rfl)) hg ?_))))))
 refine LS 4 rfl (Mo NR rfl) hg (qT 5 rfl (λ_ h=>(by first|exact LR U3 rfl rfl (h.LN bq) rfl|exact LR U3 rfl rfl (h.LN ki) rfl)) hg ?_)
 refine LS 6 rfl (Mo NR rfl) hg (qT 7 rfl (λ_ h=>(by first|exact LR U3 rfl rfl (h.LN bq) rfl|exact LR U3 rfl rfl (h.LN ki) rfl)) hg ?_)
 refine LS 8 rfl (Mo O5 rfl) hg (qT 9 rfl (λ_ h=>(by first|exact LR U3 rfl rfl (h.LN bq) rfl|exact LR U3 rfl rfl (h.LN ki) rfl)) hg ?_)
 refine LS 10 rfl (R9 rfl rfl (by omega)) hg (LS 12 rfl (ZU (first:=[]) (caps:=[.tmp 5]) rfl rfl) hg ?_)
 rw[show(s:Int)+(n:Int)=((s+n:Nat):Int) by omega]
 refine LS 11 rfl (zbh (i:=s) (j:=s+n) PR YV rfl rfl rfl (by omega) (by omega)) hg ?_
 rw[show s+n-s=n by omega]
 have hR:Rd w2.drew (.slice (some ⟨gi,0+s*1,none⟩) n (L.length-s)) 1 n (List.replicate n (stV c)):=by
  have h1:=Rk (Q7 dz.sl.rd (i:=s) (by omega) (Nat.le_refl _)) (i:=n) (by omega);rw[if_neg (by omega)] at h1
  have e:((L.map stV).drop s).take n=List.replicate n (stV c):=by
   apply List.ext_getElem?;intro i;rw[List.getElem?_take,List.getElem?_drop,List.getElem?_map,List.getElem?_replicate];by_cases hi:i<n
   ·rw[if_pos hi,if_pos hi,hc (s+i) (by omega) (by omega)];rfl
   ·rw[if_neg hi,if_neg hi]
  rw[e] at h1
  have e2:(some (⟨gi,0,none⟩:Addr)).map (λx=>x.add (s*1))=some ⟨gi,0+s*1,none⟩:=by
   show some (Addr.add _ _)=_;unfold Addr.add;split
   ·rename_i h0;rw[h0]
   ·rfl
  rw[e2] at h1;exact h1
 refine Pw 13 rfl zdW rfl (z4x (by omega) c ((hg.LN aF)) hR) ?_
 rintro _ w3 ⟨rfl,rfl⟩
 refine⟨hg,?_⟩
 refine LS 14 rfl ((by first|exact ML rfl|exact Oh rfl)) hg ?_
 refine LS 15 rfl (NK rfl) hg (qE (LP Tryz.func118 rfl ?_))
 exact⟨_,rfl,rfl,aI.trans hg⟩
theorem z2k (h:Tv w m gi L)(s n:Nat)(cK:1<=n)(cS:2<=s)(i8:s+n<=L.length)(hc:∀i,s<=i->i<s+n->L[i]? =some true):Mm Tryz.prog 84 [ptr m 0,.agg #[I (s:Int),I (n:Int)]] w λv w'=>v=I 0/\Tv w' m gi (NI L s n false)/\Kp (λk=>k=gi) w w':=by
 refine It (e:=[(0,_),(1,_)]) Tryz.func84 rfl Tryz.ntmps84 rfl rfl (qN rfl (LV rfl rfl (NN rfl (cs:=[I (s:Int),I (n:Int)]) rfl) ?_))
 rintro _ w1 ⟨b3,rfl,en,ad,aq⟩
 have h1:=h.ext ad
 have l3:=aq.lt
 have lg:=h.ltg
 refine LU rfl (run_seq (LK (qN rfl (LM rfl (qV (MU Ya rfl rfl) (LU rfl (An rfl (qN rfl (LM rfl (qV (Mk (news:=[I (s:Int),I (n:Int)]) U97 rfl Ox rfl (LX.cells (n:=2) aq rfl) rfl) (Mb zep rfl (z4s h1 s n cK cS i8) ?_)))))))))))
 rintro _ w2 ⟨rfl,af⟩
 have h2:=h1.ext af
 have cX:=af.LN aq
 refine qV ((by first|exact ML rfl|exact Oh rfl)) ?_
 refine M4 rfl rfl (qV (Mk (news:=[I (s:Int),I (n:Int)]) U97 rfl Ox rfl (LX.cells (n:=2) cX rfl) rfl) (Mb zd2 rfl (z4I h2 s n true cK i8 hc) ?_))
 rintro _ w3 ⟨rfl,ah⟩
 have h3:=h2.ext ah
 have df:=ah.LN cX
 have ki:=h3.LN
 refine qV ((by first|exact ML rfl|exact Oh rfl)) ?_
 refine ME rfl rfl (LU rfl (An rfl (qN rfl (LM rfl (Mp rfl (M0 z9p rfl (qV (LR U4 rfl rfl ki rfl) (LU rfl (An rfl ?_)))))))))
 have df:=ah.LN cX
 refine LQ rfl (LM rfl (qV (Mk (news:=[I (s:Int),I (n:Int)]) U97 rfl Ox rfl (LX.cells (n:=2) df rfl) rfl) (Mb za1 rfl (YQ h3 s n false i8) ?_)))
 rintro _ w4 ⟨rfl,h4,ax⟩
 refine LO (Mn.qb (e:=[(4,_)]) ?_)
 refine LL (qN rfl (LU rfl (LP Tryz.func84 rfl ?_)))
 exact⟨_,rfl,rfl,h4,((ad.trans af).trans ah).kp.trans ax⟩
end
structure Dev where
 due:Int
 OM:List Int
 z8H:Int
 mask:UInt8
 B:Nat
 N:Nat
 sf:Int->Option Bytes
 cache:List (Int×Bytes)
 down:Bool
 calls:Int
 reads:Int
def zeros (n:Nat):Bytes:=List.replicate n 0
def Dev.kept (D:Dev)(n:Int):Bytes:=(D.sf n).getD (zeros (512*D.N))
def SA (l:List (Int×Bytes))(n:Int):Option Bytes:=(l.reverse.find? λx=>x.1==n).map (·.2)
def Dev.now (D:Dev)(n:Int):Bytes:=(SA D.cache n).getD (D.kept n)
def Dev.has (D:Dev)(n:Int):Bool:=decide (0<=n/\n<(D.B:Int))
def Dev.count (D:Dev):Dev:={D with calls:=D.calls+1,due:=if D.due=0 then 0 else D.due-1}
structure Dev.Ok (D:Dev):Prop where
 hB:16<=D.B/\D.B<=4096
 hN:1<=D.N/\D.N<=8
 due:0<=D.due/\D.due<=9223372036854775807
 sf:∀n s,D.sf n=some s->0<=n/\n<(D.B:Int)/\s.length=512*D.N
 cache:∀x∈D.cache,0<=x.1/\x.1<(D.B:Int)/\x.2.length=512*D.N
 len:0<=D.calls
 reads:True
def Dev.Bd (D:Dev):Prop:=D.calls<1000000000000/\D.cache.length<1000000000000/\True
def wr (x:Int×Bytes):List Value:=[I x.1,S x.2]
def wrs (l:List (Int×Bytes)):List Value:=l.flatMap wr
@[simp] theorem wrs_length (l:List (Int×Bytes)):(wrs l).length=l.length*2:=by
 induction l with
 |nil=>rfl
 |cons x r ih=>simp[wrs,wr,List.flatMap_cons] at ih⊢;omega
def Uo (kp ca:Value)(m:Nat)(D:Dev):List Value:=[I D.due,kp,I D.z8H,Px D.mask,I (D.B:Int),I (D.N:Int),.map (some m),ca,.bool D.down,I D.calls,I D.reads]
@[simp] theorem devCs_length (kp ca:Value) (m:Nat) (D:Dev):(Uo kp ca m D).length=11:=rfl
abbrev KI:Int->Value:=λz=> .int .i64 z
structure Oj (w:World)(p m:Nat)(kp ca:Value)(D:Dev):Prop where
 LN:LX w p (Uo kp ca m D) 107
 map:∃kv,Ts KI w m kv/\∀n,getL kv n=(D.sf n).map S
 cache:Sl w ca 308 2 D.cache.length (wrs D.cache)
 OM:Sl w kp 3 1 D.OM.length (D.OM.map I)
 ok:D.Ok
def fpD (p m:Nat)(kp ca:Value):Nat->Prop:=λk=>k=p\/k=m\/ca.ownBlock=some k\/kp.ownBlock=some k
def Sq (w:World)(p:Nat)(D:Dev)(F:Nat->Prop):Prop:=∃m kp ca,Oj w p m kp ca D/\∀k,F k↔fpD p m kp ca k
def Upd (F F':Nat->Prop)(w w':World):Prop:=Kp F w w'/\∀k,F' k->F k\/w.heap.size<=k
theorem Upd.trans {F F' F'':Nat->Prop}{a b c:World}(h:Upd F F' a b)(k:Upd F' F'' b c):Upd F F'' a c:=
 ⟨h.1.LJ k.1 λi hi=>(h.2 i hi).symm,λi hi=>by
  rcases k.2 i hi with h'|h'
  ·exact h.2 i h'
  ·exact .inr (Nat.le_trans h.1.size h')⟩
theorem Ext.Xe {F:Nat->Prop}{w w':World}(h:Ext w w'):Upd F F w w':=⟨h.kp,λ_ h=> .inl h⟩
theorem Oj.pm {w:World}{p m:Nat}{kp ca:Value}{D:Dev}(h:Oj w p m kp ca D):¬p=m:=λe=>by
 obtain⟨kv,⟨⟨es,c,hh,-⟩,-⟩,-⟩:=h.map
 obtain⟨fz,hb,-⟩:=h.LN
 rw[e] at hb;rw[hb] at hh;cases hh
theorem PH {w:World}{v:Value}{e size n:Nat}{cs:List Value}{b:Nat}(h:Sl w v e size n cs)(hb:v.ownBlock=some b):∃xs fz,w.heap[b]? =some (.cells xs e fz):=by
 rcases h.2 with⟨hz,-⟩|⟨g,cap,cur,hv,-,hg,-⟩
 ·rw[hz] at hb;cases hb
 ·rw[hv] at hb;cases hb;exact⟨_,_,hg⟩
theorem Oj.kp {S:Nat->Prop}{w w':World}{p m:Nat}{kp ca:Value}{D:Dev}(h:Oj w p m kp ca D)(k:Kp S w w')(hn:∀i,fpD p m kp ca i->¬S i):Oj w' p m kp ca D:=
 ⟨k.LN h.LN (hn p (.inl rfl)),let ⟨kv,h1,h2⟩:=h.map;⟨kv,k.map h1 (hn m (.inr (.inl rfl))),h2⟩,h.cache.kp k λg hg=>hn g (.inr (.inr (.inl hg))),h.OM.kp k λg hg=>hn g (.inr (.inr (.inr hg))),h.ok⟩
theorem Oj.ext {w w':World}{p m:Nat}{kp ca:Value}{D:Dev}(h:Oj w p m kp ca D)(k:Ext w w'):Oj w' p m kp ca D:=h.kp k λ_ _=>id
theorem Dev.Ok.count {D:Dev}(h:D.Ok):D.count.Ok:=by
 have:=h.due
 have:=h.len
 refine⟨h.hB,h.hN,?_,h.sf,h.cache,?_,h.reads⟩
 ·simp only[Dev.count];split<;>omega
 ·simp only[Dev.count];omega
theorem Oj.turn {w w':World}{p m:Nat}{kp ca:Value}{D D':Dev}(h:Oj w p m kp ca D)(hb:LX w' p (Uo kp ca m D') 107)(k:Kp (λi=>i=p) w w')(h1:D'.sf=D.sf)(h2:D'.cache=D.cache)(h3:D'.OM=D.OM)(h4:D'.N=D.N)(au:D'.Ok):Oj w' p m kp ca D':=by
 obtain⟨fz,hp,-⟩:=h.LN
 refine⟨hb,let ⟨kv,hm,hs⟩:=h.map;⟨kv,k.map hm λe=>h.pm e.symm,by rw[h1];exact hs⟩,?_,?_,au⟩
 ·rw[h2];refine h.cache.kp k λg hg pG=>?_;obtain⟨xs,fz',hx⟩:=PH h.cache hg;rw[pG,hp] at hx;cases hx
 ·rw[h3];refine h.OM.kp k λg hg pG=>?_;obtain⟨xs,fz',hx⟩:=PH h.OM hg;rw[pG,hp] at hx;cases hx
def Xe (f:Int->Option Bytes)(n:Int)(s:Bytes):Int->Option Bytes:=λx=>if x=n then some s else f x
def z4L (c:Bytes)(i:Nat)(x:Bytes):Bytes:=c.take i++x++c.drop (i+x.length)
def mixN (mask:UInt8)(a b:Bytes):Nat->Bytes
 |0=>a
 |s+1=>if mask.toNat / 2^s%2=1 then z4L (mixN mask a b s) (512*s) ((b.drop (512*s)).take 512) else mixN mask a b s
theorem z0i (c x:Bytes)(i:Nat)(h:i+x.length<=c.length):(z4L c i x).length=c.length:=by
 simp[z4L];omega
theorem Sx (mask:UInt8)(a b:Bytes)(N:Nat)(ha:a.length=512*N)(hb:b.length=512*N):∀s,s<=N->(mixN mask a b s).length=512*N
 |0,_=>ha
 | s + 1, h => by
   have ih:=Sx mask a b N ha hb s (by omega);simp only[mixN];split
   ·rw[z0i _ _ _ (by simp[ih];omega),ih]
   ·exact ih
def Dev.fallTo (D:Dev)(l:List Int)(tn:Int)(mk:UInt8):Nat->(Int->Option Bytes)
 |0=>D.sf
 | i + 1 => match D.cache[i]? with
   |none=>D.fallTo l tn mk i
   | some x => if (i : Int) = tn then Xe (D.fallTo l tn mk i) x.1 (mixN mk (((D.fallTo l tn mk i) x.1).getD (zeros (512 * D.N))) x.2 D.N)
     else if(i:Int)∈l then Xe (D.fallTo l tn mk i) x.1 x.2 else D.fallTo l tn mk i
def Dev.z8c (D:Dev)(l:List Int)(tn:Int)(mk:UInt8):Dev:=
 {D with sf:=D.fallTo l tn mk D.cache.length,cache:=[],due:=0,OM:=[],z8H:=0,mask:=0,down:=true}
theorem Dev.Ok.put {D:Dev}(h:D.Ok){n:Int}{s:Bytes}(hn:0<=n/\n<(D.B:Int))(hs:s.length=512*D.N):Dev.Ok {D with sf:=Xe D.sf n s}:=
 ⟨h.hB,h.hN,h.due,λx t hx=>by
  simp only[Xe] at hx;split at hx
  ·rename_i e
   cases hx;exact⟨by omega,by rw[e];exact hn.2,hs⟩
  ·exact h.sf x t hx,h.cache,h.len,h.reads⟩
theorem Dev.Ok.kept {D:Dev}(h:D.Ok)(n:Int):(D.kept n).length=512*D.N:=by
 unfold Dev.kept
 cases hs:D.sf n with
 |none=>simp[zeros]
 |some s=>exact(h.sf n s hs).2.2
theorem Oj.put {w w':World}{p m:Nat}{kp ca:Value}{D:Dev}{kv:List (Int×Value)}{n:Int}{s:Bytes}(h:Oj w p m kp ca D)(hs:∀n,getL kv n=(D.sf n).map S)(hm:Ts KI w' m (putL kv n (S s)))(k:Kp (λi=>i=m) w w')
  (au:Dev.Ok {D with sf:=Xe D.sf n s}):Oj w' p m kp ca {D with sf:=Xe D.sf n s}:=by
 obtain⟨kv0,⟨⟨es,c,hh,-⟩,-⟩,-⟩:=h.map
 refine⟨k.LN h.LN h.pm,⟨_,hm,λx=>?_⟩,?_,?_,au⟩
 ·rw[z7i,hs x];simp only[Xe];split<;>rfl
 ·refine h.cache.kp k λg hg pG=>?_;obtain⟨xs,fz',hx⟩:=PH h.cache hg;rw[pG,hh] at hx;cases hx
 ·refine h.OM.kp k λg hg pG=>?_;obtain⟨xs,fz',hx⟩:=PH h.OM hg;rw[pG,hh] at hx;cases hx
theorem Rd.kpm {w w':World}{v:Value}{size n m:Nat}{cs:List Value}{kv:List (Int×Value)}(h:Rd w v size n cs)(hm:Ts KI w m kv)(k:Kp (λi=>i=m) w w'):Rd w' v size n cs:=by
 obtain⟨h1,h2⟩:=h
 refine⟨h1,h2.imp id λ⟨b,off,cap,hv,hc⟩=>⟨b,off,cap,hv,λj u hj=>?_⟩⟩
 have zQ:=hc j u hj
 obtain⟨⟨es,c,hh,-⟩,-⟩:=hm
 have bI:¬b=m:=λe=>by
  rw[e] at zQ;simp[World.cell?,hh] at zQ
 have aP:b<w.heap.size:=by
  rcases Nat.lt_or_ge b w.heap.size with h'|h'
  ·exact h'
  ·simp[World.cell?,Array.getElem?_eq_none h'] at zQ
 rw[<-zQ]
 simp only[World.cell?,k.block b aP bI]
theorem Oj.zds {w:World}{p m:Nat}{kp ca:Value}{D:Dev}(h:Oj w p m kp ca D){g:Nat}(hg:ca.ownBlock=some g):¬g=p/\¬g=m/\¬kp.ownBlock=some g:=by
 obtain⟨xs,fz',hx⟩:=PH h.cache hg
 refine⟨λe=>?_,λe=>?_,λe=>?_⟩
 ·obtain⟨fz,hb,-⟩:=h.LN;rw[e,hb] at hx;cases hx
 ·obtain⟨kv,⟨⟨es,c,hh,-⟩,-⟩,-⟩:=h.map;rw[e,hh] at hx;cases hx
 ·obtain⟨ys,fy,hy⟩:=PH h.OM e;rw[hx] at hy;cases hy
theorem Oj.zdF {w:World}{p m:Nat}{kp ca:Value}{D:Dev}(h:Oj w p m kp ca D){g:Nat}(hg:kp.ownBlock=some g):¬g=p/\¬g=m/\¬ca.ownBlock=some g:=by
 obtain⟨xs,fz',hx⟩:=PH h.OM hg
 refine⟨λe=>?_,λe=>?_,λe=>?_⟩
 ·obtain⟨fz,hb,-⟩:=h.LN;rw[e,hb] at hx;cases hx
 ·obtain⟨kv,⟨⟨es,c,hh,-⟩,-⟩,-⟩:=h.map;rw[e,hh] at hx;cases hx
 ·obtain⟨ys,fy,hy⟩:=PH h.cache e;rw[hx] at hy;cases hy
theorem Oj.lt {w:World}{p m:Nat}{kp ca:Value}{D:Dev}(h:Oj w p m kp ca D):∀k,fpD p m kp ca k->k<w.heap.size:=by
 intro k hk
 rcases hk with rfl|rfl|hc|hc
 ·exact h.LN.lt
 ·obtain⟨kv,hm,-⟩:=h.map;exact hm.lt
 ·exact h.cache.lt hc
 ·exact h.OM.lt hc
theorem Sq.kp {S F:Nat->Prop}{w w':World}{p:Nat}{D:Dev}(h:Sq w p D F)(k:Kp S w w')(hn:∀i,F i->¬S i):Sq w' p D F:=by
 obtain⟨m,kp,ca,h1,h2⟩:=h
 exact⟨m,kp,ca,h1.kp k λi hi=>hn i ((h2 i).2 hi),h2⟩
theorem Sq.ext {F:Nat->Prop}{w w':World}{p:Nat}{D:Dev}(h:Sq w p D F)(k:Ext w w'):Sq w' p D F:=h.kp k λ_ _=>id
theorem Sq.lt {F:Nat->Prop}{w:World}{p:Nat}{D:Dev}(h:Sq w p D F):∀k,F k->k<w.heap.size:=by
 obtain⟨m,kp,ca,h1,h2⟩:=h
 intro k hk
 rcases (h2 k).1 hk with rfl|rfl|hc|hc
 ·exact h1.LN.lt
 ·obtain⟨kv,hm,-⟩:=h1.map;exact hm.lt
 ·exact h1.cache.lt hc
 ·exact h1.OM.lt hc
theorem VV (n:Nat):((List.replicate n (Value.int .u8 0)).drop 0).take n=(zeros n).map Px:=by
 simp[zeros,Px]
section
variable {w:World}{p m:Nat}{kp ca:Value}{D:Dev}
theorem z1Y (h:Oj w p m kp ca D):Mm Tryz.prog 110 [ptr p 0] w λv w'=>v=I (D.B:Int)/\w'=w:=by
 have hM:=h.LN
 refine It (e:=[(0,_)]) Tryz.func110 rfl Tryz.ntmps110 rfl rfl (qN rfl (LU rfl (run_seq (qN rfl (LM rfl (qV (MU U26 rfl rfl) (LO (An rfl (py (qN rfl (LM rfl (Mp rfl (M0 Wl rfl ?_)))))))))))))
 refine M0 Vw rfl (qV (LR U3 rfl rfl hM rfl) (LU rfl (LP Tryz.func110 rfl ?_)))
 exact⟨_,rfl,rfl,rfl⟩
theorem XP (h:Oj w p m kp ca D):Mm Tryz.prog 71 [ptr p 0] w λv w'=>v=I ((512*D.N:Nat):Int)/\w'=w:=by
 have hM:=h.LN
 have hN:=h.ok.hN
 refine It (e:=[(0,_)]) Tryz.func71 rfl Tryz.ntmps71 rfl rfl (qN rfl (LU rfl (run_seq (qN rfl (LM rfl (qV (MU U26 rfl rfl) (LO (An rfl (py (qN rfl (LM rfl (Mp rfl (M0 Wl rfl ?_)))))))))))))
 refine M0 Vo rfl (qV (LR U3 rfl rfl hM rfl) (qV (SV rfl rfl (by omega)) (LU rfl (LP Tryz.func71 rfl (⟨_,rfl,?_,rfl⟩)))))
 show I _=I _
 congr 1;omega
theorem YT (h:Oj w p m kp ca D):Mm Tryz.prog 163 [ptr p 0] w λv w'=>v=I (if D.down then 8 else 0)/\w'=w:=by
 have hM:=h.LN
 refine It (e:=[(0,_)]) Tryz.func163 rfl Tryz.ntmps163 rfl rfl (qN rfl (LU rfl (run_seq (LK (qN rfl (LM rfl (qV (MU U26 rfl rfl) (LU rfl (An rfl (qN rfl (LM rfl (Mp rfl (M0 Z4 rfl ?_)))))))))))))
 refine qV (LR U4 rfl rfl hM rfl) (LU rfl (MR rfl (λhd=>?_) (λhd=>?_)))
 ·refine qN rfl (LU rfl (LP Tryz.func163 rfl ?_));exact⟨_,rfl,by simp[hd,resVal],rfl⟩
 ·refine py (LL (qN rfl (LU rfl (LP Tryz.func163 rfl ?_))));exact⟨_,rfl,by simp[hd,resVal],rfl⟩
theorem z3i (n:Int)(h:Oj w p m kp ca D):Mm Tryz.prog 164 [ptr p 0,I n] w λv w'=>v= .bool (D.has n)/\w'=w:=by
 have hM:=h.LN
 refine It (e:=[(0,_),(1,_)]) Tryz.func164 rfl Tryz.ntmps164 rfl rfl (qN rfl (M6 rfl (qM rfl (LM rfl (PQ rfl rfl (OS (λh1=>?_) (λh1=>?_)))))))
 ·refine M4 rfl rfl (LM rfl (Mp rfl (M0 Wl rfl (M0 Vw rfl (qV (LR U3 rfl rfl hM rfl) (Nr rfl rfl (NB rfl rfl (LU rfl (LP Tryz.func164 rfl (⟨_,rfl,?_,rfl⟩))))))))));simp[Dev.has,h1,resVal]
 ·refine LM rfl (qS (qS (qS (qS (qS (qS (qS (ME rfl rfl (LU rfl (LP Tryz.func164 rfl (⟨_,rfl,?_,rfl⟩)))))))))));simp[Dev.has,h1,resVal]
theorem z1m (n:Int)(h:Oj w p m kp ca D):Mm Tryz.prog 188 [ptr p 0,I n] w λv w'=>v=S (D.kept n)/\Ext w w':=by
 have hM:=h.LN
 have hN:=h.ok.hN
 have f7:maxLen=9223372036854775807:=rfl
 obtain⟨kv,nw,mJ⟩:=h.map
 refine It (e:=[(0,_),(1,_)]) Tryz.func188 rfl Tryz.ntmps188 rfl rfl (qN rfl (LU rfl (run_seq (qN rfl (LM rfl (Mp rfl (M0 Z5 rfl (qV (LR z0f rfl rfl hM rfl) (LM rfl (qV (zeQ (k:=n) (K:=KI) z0f (Oy U3) YZ rfl rfl nw) ?_))))))))))
 rw[mJ n]
 cases hs:D.sf n with
 | some s =>
   refine LM rfl (MW rfl rfl (MW rfl rfl (M6 rfl (M6 rfl (qM rfl (LM rfl (LO (M3 rfl (qN rfl (LM rfl (LU rfl (LP Tryz.func188 rfl ?_))))))))))))
   exact⟨_,rfl,by simp[Dev.kept,hs,resVal],Ext.refl w⟩
 | none =>
   refine LM rfl (MW rfl rfl (MW rfl rfl (M6 rfl (M6 rfl (qM rfl (LM rfl (LO (An rfl (py (qN rfl (LM rfl (Mb zb2 rfl (XP h) ?_))))))))))));rintro _ w1 ⟨rfl,rfl⟩;refine LV rfl rfl (pmk (c:=512*D.N) (n:=512*D.N) N1 TQ rfl rfl rfl (by omega) (by omega) (by omega)) ?_;rintro _ w1 ⟨b1,rfl,⟨bR,ad,ai⟩,-⟩;refine qV (z2l (l:=zeros (512*D.N)) N1 U5 U9 rfl ai (VV _) (by simp[zeros])) ?_;refine LU rfl (LP Tryz.func188 rfl ?_);exact⟨_,rfl,by simp[Dev.kept,hs,resVal],ad⟩
theorem z1y (h:Oj w p m kp ca D)(hc:D.calls<1000000000000):Mm Tryz.prog 185 [ptr p 0] w λv w'=>v= .bool (decide (D.due=1))/\Oj w' p m kp ca D.count/\Kp (λk=>k=p) w w':=by
 have hM:=h.LN
 have pH:=h.ok.due
 have aB:=h.ok.len
 refine It (e:=[(0,_)]) Tryz.func185 rfl Tryz.ntmps185 rfl rfl (qN rfl (M6 rfl (qM rfl (LM rfl (Mp rfl (M0 z41 rfl (qV (LR U3 rfl rfl hM rfl) (MK rfl rfl (Mp rfl (M0 z41 rfl (M1 rfl (NC MO rfl rfl rfl hM (by simp)) ?_)))))))))))
 rintro w1 ⟨dG,aK⟩
 refine LO (run_seq (qN rfl (LM rfl (Mp rfl (M0 Ta rfl (M0 WH rfl (qV (LR U3 rfl rfl dG rfl) (NS rfl rfl (LO (LY rfl (λh0=>?_) (λh0=>?_)))))))))))
 ·refine qN rfl (LU rfl (LP Tryz.func185 rfl ?_));have e0:(Uo kp ca m D).set (0+9) (I (D.calls+1))=Uo kp ca m D.count:=by simp[Uo,Dev.count,h0]
  rw[e0] at dG;exact⟨_,rfl,by simp[resVal];omega,h.turn dG aK rfl rfl rfl rfl h.ok.count,aK⟩
 ·refine py (qN rfl (LM rfl (Mp rfl (M0 Ta rfl (M0 WH rfl (qV (LR U3 rfl rfl dG rfl) (NP rfl rfl (Mp rfl (M0 Ta rfl (M0 WH rfl (M1 rfl (NC MO rfl rfl rfl dG (by simp)) ?_)))))))))));rintro w2 ⟨mh,ao⟩;refine qM rfl (LM rfl (Mp rfl (M0 Ta rfl (M0 WH rfl (qV (LR U3 rfl rfl mh rfl) (NS rfl rfl (LU rfl (Mn.qb (e:=[(2,_)]) ?_))))))));refine LP Tryz.func185 rfl ?_;have e0:((Uo kp ca m D).set (0+9) (I (D.calls+1))).set (0+0+0) (I (D.due-1))=Uo kp ca m D.count:=by simp[Uo,Dev.count,h0]
  rw[e0] at mh;exact⟨_,rfl,by simp[resVal];omega,h.turn mh (aK.trans ao) rfl rfl rfl rfl h.ok.count,aK.trans ao⟩
end
theorem z3s (xs:List (Int×Bytes))(j:Nat)(h:j<xs.length):((wrs xs).drop (j*2)).take 2=wr xs[j]:=by
 induction xs generalizing j with
 |nil=>simp at h
 | cons x r ih =>
   cases j with
   |zero=>simp[wrs,wr,List.flatMap_cons]
   | succ j =>
     have e:(wrs (x::r))=I x.1::S x.2::wrs r:=by simp[wrs,wr,List.flatMap_cons]
     rw[e,show(j+1)*2=(j*2)+1+1 by omega]
     simpa using ih j (by simpa using h)
theorem X8 (a:Option Addr)(n cap:Nat)(w:World):Mm Tryz.prog 187 [.slice a n cap] w λv w'=>∃b,v= .func (.func 204) #[] #[ptr b 0]/\Wh w b [.slice a n cap] 105 w':=by
 refine It (e:=[(0,_)]) Tryz.func187 rfl Tryz.ntmps187 rfl rfl (qN rfl (LV rfl rfl (NN rfl rfl) ?_))
 rintro _ w1 ⟨b1,rfl,hN⟩
 refine M6 rfl (qM rfl (qV (ZU (first:=[]) (caps:=[.tmp 1]) rfl rfl) (LU rfl (LP Tryz.func187 rfl ?_))))
 exact⟨_,rfl,_,rfl,hN⟩
theorem Zb (l bx:Nat)(ca:Value)(xs:List (Int×Bytes))(J:Nat->World->Prop)(Jx:World->Prop)(w:World)(hn:xs.length<4611686018427387904)
  (hJ:∀i w,J i w->(∃T,LX w bx [ca] T)/\Sl w ca 308 2 xs.length (wrs xs))
  (hround:∀i w x,xs.reverse[i]? =some x->J i w->Z8 Tryz.prog l [I ((xs.length:Int)-1-i),.agg (wr x).toArray] w λv w'=>(v= .bool true/\J (i+1) w')\/(v= .bool false/\Jx w')) (h0:J 0 w):
  Mm Tryz.prog 204 [.func (.yield l) #[] #[],ptr bx 0] w λv w'=>v= .tuple #[]/\(J xs.length w'\/Jx w'):=by
 obtain⟨⟨T,hM⟩,hS⟩:=hJ 0 w h0
 obtain⟨a,cap,rfl,ha⟩:=hS.rd.shape
 refine It (e:=[(0,_),(1,_)]) Tryz.func204 rfl Tryz.ntmps204 rfl rfl (qN rfl (qV (LR XO rfl rfl hM rfl) (NX XO rfl (NP rfl rfl (LU rfl (LK ?_))))))
 rw[show(xs.length:Int)-1=(xs.length:Int)-1-((0:Nat):Int) by omega]
 refine Oe (α:=Nat) (0) (λi=>[(0,.func (.yield l) #[] #[]),(1,ptr bx 0),(3,I ((xs.length:Int)-1-i))]) (λi w=>i<=xs.length/\J i w) (λi=>xs.length-i) ?hI ?hround
 case hI=>exact⟨by omega,h0⟩
 case hround=>
  rintro i w1 ⟨hi,hj⟩ ih
  try dsimp only
  obtain⟨⟨T1,dG⟩,jq⟩:=hJ i w1 hj;refine run_seq (qN rfl (LM rfl (PQ rfl rfl (LO (LY rfl (λkW=>?_) (λkW=>?_))))))
  ·have aP:i<xs.length:=by omega
   have zO:=jq.shape;rcases zO with⟨-,h⟩|⟨gb,cap',ld,jy⟩
   ·omega
   cases ld;obtain⟨x,hx⟩:∃x,xs.reverse[i]? =some x:=⟨_,List.getElem?_eq_getElem (by simpa using aP)⟩
   have gK:((wrs xs).drop ((xs.length-1-i)*2)).take 2=wr x:=by
    rw[z3s xs _ (by omega)]
    congr 1
    rw[List.getElem?_reverse aP,List.getElem?_eq_getElem (by omega)] at hx;exact NV hx
   have hz:((xs.length:Int)-1-i)=((xs.length-1-i:Nat):Int):=by omega
   have hy:=hround i w1 x hx hj;rw[hz] at hy⊢;refine py (run_seq (LK (qN rfl (M4 rfl rfl (qV (LR XO rfl rfl dG rfl) (LM rfl (qV (MN XO Sz rfl rfl (by omega)) (qV (Mk zcE rfl Sz rfl (jq.part gK) rfl) (z2D rfl rfl (yy rfl rfl) (hy) ?_)))))))));rintro v w2 hv;rcases hv with⟨rfl,kD⟩|⟨rfl,af⟩
   ·refine qV ((by first|exact ML rfl|exact Oh rfl)) ?_;refine LO (An rfl (py (LL (LQ rfl (LM rfl (NP rfl rfl (LU rfl ?_)))))));rw[show((xs.length-1-i:Nat):Int)-1=(xs.length:Int)-1-((i+1:Nat):Int) by omega];exact(ih (i+1) w2 ⟨by omega,kD⟩ (by omega)).qb
   ·refine qV ((by first|exact ML rfl|exact Oh rfl)) ?_;refine LO (M3 rfl (LP Tryz.func204 rfl ?_));exact⟨_,rfl,rfl,.inr af⟩
  ·refine LW rfl (N9 Tryz.func204 rfl ?_);have:i=xs.length:=by omega
   subst this;exact⟨_,rfl,rfl,.inl hj⟩
theorem z1H (xs:List (Int×Bytes))(n:Int)(i:Nat):(∀j x,j<i->xs.reverse[j]? =some x->x.1≠n)->∀x,xs.reverse[i]? =some x->x.1=n->SA xs n=some x.2:=by
 intro fS x hx he
 have aP:i<xs.reverse.length:=by
  rcases Nat.lt_or_ge i xs.reverse.length with h| h
  ·exact h
  ·rw[List.getElem?_eq_none h] at hx;cases hx
 have:xs.reverse.find? (λx=>x.1==n)=some x:=by
  rw[List.find?_eq_some_iff_getElem];refine⟨by simp[he],i,aP,?_,λj hj=>?_⟩
  ·rw[List.getElem?_eq_getElem aP] at hx;exact NV hx
  ·have:=fS j _ hj (List.getElem?_eq_getElem (by omega))
   simpa using this
 simp[SA,this]
theorem z2v (xs:List (Int×Bytes))(n:Int):(∀j x,j<xs.length->xs.reverse[j]? =some x->x.1≠n)->SA xs n=none:=by
 intro fS
 have:xs.reverse.find? (λx=>x.1==n)=none:=by
  rw[List.find?_eq_none];intro x hx;obtain⟨j,hj,rfl⟩:=List.getElem_of_mem hx;have:=fS j _ (by simpa using hj) (List.getElem?_eq_getElem hj)
  simpa using this
 simp[SA,this]
theorem z8W {w:World}{p m:Nat}{kp ca:Value}{D:Dev}(n:Int)(h:Oj w p m kp ca D)(hc:D.cache.length<1000000000000):
  Mm Tryz.prog 165 [ptr p 0,I n] w λv w'=>v=S (D.now n)/\Ext w w':=by
 have hM:=h.LN
 have aB:=h.ok.len
 have eI:=hc
 obtain⟨a,cap,rfl,ha⟩:=h.cache.rd.shape
 refine It (e:=[(0,_),(1,_)]) Tryz.func165 rfl Tryz.ntmps165 rfl rfl (qN rfl (LV rfl rfl (NN rfl rfl) ?_))
 rintro _ w1 ⟨b3,rfl,en,ad,aq⟩
 refine LV rfl rfl (O9 (cs:=[_]) YZ rfl) ?_
 rintro _ w2 ⟨b4,rfl,eA,af,aM⟩
 replace h:=(h.ext ad).ext af
 have mh:=h.LN
 refine LO (run_seq (qN rfl (LM rfl (Mp rfl (M0 Ud rfl (qV (LR XO rfl rfl mh rfl) (Mb zdS rfl (X8 a D.cache.length cap _) ?_)))))))
 rintro _ w3 ⟨bx,rfl,eR,ah,gl⟩
 replace h:=h.ext ah
 replace aq:=ah.LN (af.LN aq)
 replace aM:=ah.LN aM
 refine LO (LK (Qb (ps:=[12,13]) (p:=[]) (q:=[_]) rfl zdy ?_))
 rintro l w4 aC hl cz hD Rc dj eO
 have Lh:=z6y dj eO
 have h3:=h
 replace h:=h.ext aC
 replace aq:=aC.LN aq
 replace aM:=aC.LN aM
 have kj:=gl.lt
 have mj:=aq.lt
 have dP:=ad.size
 have cS:=af.size
 have od:=ah.size
 have IS:bx<w3.heap.size:=gl.lt
 replace gl:=aC.LN gl
 refine Mm.mono (Zb l bx (.slice a D.cache.length cap) D.cache
  (λi w'=>Rc .ready none w'/\Kp (λk=>k=l) w4 w'/\∀j x,j<i->D.cache.reverse[j]? =some x->x.1≠n)
  (λw'=>Rc .done (some .ret) w'/\Kp (λk=>k=l\/k=b4) w4 w'/\LX w' b4 [S (D.now n)] 9) w4 (by omega) ?_ ?_ ⟨eO,Kp.refl _ _,by omega⟩) ?_
 ·rintro i w' ⟨h1,h2,-⟩;refine⟨⟨_,h2.LN gl (by omega)⟩,h.cache.kp h2 λg hg eE=>?_⟩;have:=h3.cache.lt hg;omega
 ·rintro i w' x hx ⟨h1,h2,fS⟩;refine Rj dj h1 rfl rfl ?_;have wq:=h2.size;refine LQ rfl (LV rfl rfl (O9 (cs:=[_,_]) Sz rfl) ?_);rintro _ w5 ⟨b6,rfl,nY,aT,aX⟩;refine M1 rfl (MD Sz rfl rfl rfl rfl aX (by simp)) ?_;rintro w6 ⟨mC,aR⟩;have aN:=aT.LJ aR (λi hi=>by omega);replace h1:=aN.rc dj h1 id;replace h2:=h2.trans aN.kp;have Dj:=aT.size;have IT:=mC.lt;refine LO (run_beginRound rfl dj h1 ?_);rintro w7 h7 aA;have bN:=aA.LN mC (by omega);have ir:=(h2.trans aA).LN aq (by omega);refine LK (qN rfl (M0 WI rfl (qV ((by first|exact LR U3 rfl rfl bN rfl|exact LR U3 rfl rfl ir rfl)) ?_)));refine qV ((by first|exact LR U3 rfl rfl bN rfl|exact LR U3 rfl rfl ir rfl)) ?_;refine NS rfl rfl (LO (LY rfl (λdH=>?_) (λdH=>?_)))
  ·have ew:=(h2.trans aA).LN aM (by omega);refine qN rfl (M0 Ze rfl (qV ((by first|exact LR U9 rfl rfl bN rfl|exact LR U9 rfl rfl ir rfl)) ?_));refine M1 rfl (NC YZ rfl rfl rfl ew (by simp)) ?_;rintro w8 ⟨ce,bj⟩;refine LO (UX dj (bj.rc dj h7 (by omega)) ?_);intro w9 h9 aL;refine .inr ⟨rfl,h9,((h2.trans aA).LZ λ_ h=> .inl h).trans ((bj.LZ λ_ h=> .inr h).trans (aL.LZ λ_ h=> .inl h)),?_⟩
   have Dk:D.now n=x.2:=by
    unfold Dev.now;rw[z1H D.cache n i fS x hx dH]
    rfl
   rw[Dk];exact aL.LN ce (by omega)
  ·refine py (LL (Qu dj h7 ?_));intro w9 h9 aL;refine .inl ⟨rfl,h9,(h2.trans aA).trans aL,λj y hj hy=>?_⟩;rcases Nat.lt_or_ge j i with qB|qB
   ·exact fS j y qB hy
   ·have:j=i:=by omega
    subst this;rw[hx] at hy;cases hy;exact dH
 ·rintro v w' ⟨rfl,⟨h1,h2,fS⟩|⟨h1,h2,hB⟩⟩
  ·refine⟨_,_,h1,by simp,λw5 h5=>?_⟩;have aj:=h2.trans h5;have aT:Ext w3 w5:=aC.LJ aj (λi hi=>by omega);replace h3:=h3.ext aT;have ir:=aj.LN aq (by omega);have ew:=aj.LN aM (by omega);have sY:=aj.heap hD (by omega);refine LL (qN rfl (LM rfl (qV (LR U3 rfl rfl ir rfl) (Mb z9G rfl (z1m n h3) ?_))));rintro _ w6 ⟨rfl,aN⟩;replace ew:=aN.LN ew;replace sY:=aN.heap sY id;refine M1 rfl (NC YZ rfl rfl rfl ew (by simp)) ?_;rintro w7 ⟨bN,aA⟩;replace sY:=aA.heap sY (by omega);have ce:=(Ng w7 w3.heap.size (.deferred none)).LN bN (by omega);refine LO (Ti (by simp) (Wt sY) Tryz.func165 (.cell1 U9 rfl rfl ((ce).cell _) .nil) ?_);refine⟨_,rfl,?_,?_⟩
   ·simp[Dev.now,z2v D.cache n fS,resVal]
   ·exact((((ad.trans (af.trans ah)).trans aT).trans aN).LJ aA (λi hi=>by omega)).LJ (Ng w7 w3.heap.size (.deferred none)) (λi hi=>by omega)
  ·refine⟨_,_,h1,by simp,λw5 h5=>?_⟩;have sY:=(h2.trans (h5.LZ λ_ h=> .inl h)).heap hD (by omega);have aF:=h5.LN hB (by omega);have ce:=(Ng w5 w3.heap.size (.deferred none)).LN aF (by omega);refine Ti (by simp) (Wt sY) Tryz.func165 (.cell1 U9 rfl rfl ((ce).cell _) .nil) ?_;refine⟨_,rfl,rfl,?_⟩;exact(((ad.trans (af.trans (ah.trans aC))).LJ h2 (λi hi=>by omega)).LJ h5 (λi hi=>by omega)).LJ (Ng w5 w3.heap.size (.deferred none)) (λi hi=>by omega)
section
variable {w:World}{p m:Nat}{kp ca:Value}{D:Dev}
theorem z7A (h:Oj w p m kp ca D):Mm Tryz.prog 123 [ptr p 0] w λv w'=>v= .bool D.down/\w'=w:=by
 have hM:=h.LN
 refine It (e:=[(0,_)]) Tryz.func123 rfl Tryz.ntmps123 rfl rfl (qN rfl (M6 rfl (qM rfl (LM rfl (qV (MU U26 rfl rfl) (M4 rfl rfl (Mp rfl (M0 Z4 rfl (qV (LR U4 rfl rfl hM rfl) (ME rfl rfl (LU rfl (LP Tryz.func123 rfl ?_))))))))))))
 exact⟨_,rfl,rfl,rfl⟩
end
theorem z4R (v:Value)(l:List Int)(x:Int)(w:World)(hl:l.length<=17592186044416)(hr:Rd w v 1 l.length (l.map I)):
  Mm Tryz.prog 182 [v,I x] w λu w'=>(∃k,u=I k/\(0<=k↔x∈l))/\w'=w:=by
 obtain⟨a,cap,rfl,ha⟩:=hr.shape
 refine It (e:=[(0,_),(1,_)]) Tryz.func182 rfl Tryz.ntmps182 rfl rfl (qN rfl (LU rfl (run_seq (qN rfl (LM rfl (NX NQ rfl (LM rfl (LO (LK (Oe (α:=Nat) (0) (λi=>[(0,.slice a l.length cap),(1,I x),(7,I (l.length:Int)),(8,I (i:Int))]) (λi w'=>w'=w/\i<=l.length/\∀j,j<i->l[j]?≠some x) (λi=>l.length-i) ?hI ?hround))))))))))
 case hI=>exact⟨rfl,by omega,by omega⟩
 case hround =>
  rintro i _ ⟨rfl,hi,fS⟩ ih
  try dsimp only
  refine qN rfl (Nr rfl rfl (LO (run_seq (LY rfl (λaP=>?_) (λaP=>?_)))))
  ·have fw:i<l.length:=by omega
   rcases hr.2 with⟨c,-,h⟩|⟨b,off,cap',ld,bh⟩
   ·omega
   cases ld;refine py (run_seq (LK (qN rfl (LM rfl (M6 rfl (qM rfl (M4 rfl rfl (LM rfl (qV (MN NQ MO rfl rfl (by omega)) (qV (Mt U3 rfl rfl (bh (i*1) (I l[i]) (by simp[fw]))) ?_))))))))));refine NS rfl rfl (LO (LY rfl (λdH=>?_) (λdH=>?_)))
   ·refine qN rfl (LM rfl (LU rfl (LP Tryz.func182 rfl (⟨_,rfl,⟨(i:Int),rfl,?_⟩,rfl⟩))));constructor
    ·intro _;rw[dH];exact List.getElem_mem fw
    ·intro _;omega
   ·refine py (LL (LQ rfl (MK rfl rfl (LM rfl (LO ?_)))))
    exact(ih (i+1) _ ⟨rfl,by omega,λj hj=>by
     rcases Nat.lt_or_ge j i with h| h
     ·exact fS j h
     ·have:j=i:=by omega
      subst this;rw[List.getElem?_eq_getElem fw]
      exact λh=>dH (NV h).symm⟩ (by omega)).qb
  ·refine LW rfl (qN rfl (LU rfl (LP Tryz.func182 rfl (⟨_,rfl,⟨-1,rfl,?_⟩,rfl⟩))));constructor
   ·intro h;omega
   ·intro h;obtain⟨j,hj,e⟩:=List.getElem_of_mem h;exact absurd (by rw[List.getElem?_eq_getElem hj,e]) (fS j (by omega))
theorem ZL (v:Value)(l:List Int)(x:Int)(w:World)(hl:l.length<=17592186044416)(hr:Rd w v 1 l.length (l.map I)):
  Mm Tryz.prog 203 [v,I x] w λu w'=>u= .bool (decide (x∈l))/\w'=w:=by
 refine It (e:=[(0,_),(1,_)]) Tryz.func203 rfl Tryz.ntmps203 rfl rfl (qN rfl (M6 rfl (qM rfl (M4 rfl rfl (Mb z9T rfl (z4R v l x w hl hr) ?_)))))
 rintro _ w1 ⟨⟨k,rfl,hk⟩,rfl⟩
 refine PQ rfl rfl (LU rfl (LP Tryz.func203 rfl (⟨_,rfl,?_,rfl⟩)))
 simp only[resVal,hk]
theorem z1Q (c x:Bytes)(rest:List Value)(i:Nat)(h:i+x.length<=c.length):Nh (c.map Px++rest) i (x.map Px)=(z4L c i x).map Px++rest:=by
 unfold Nh z4L
 rw[List.take_append_of_le_length (by simp;omega),List.drop_append_of_le_length (by simp;omega)]
 simp
theorem VC {D:Dev}{l:List Int}{tn:Int}{mk:UInt8}{i:Nat}{x:Int×Bytes}(hx:D.cache[i]? =some x):D.fallTo l tn mk (i+1)=
  if(i:Int)=tn then Xe (D.fallTo l tn mk i) x.1 (mixN mk (((D.fallTo l tn mk i) x.1).getD (zeros (512*D.N))) x.2 D.N)
   else if(i:Int)∈l then Xe (D.fallTo l tn mk i) x.1 x.2 else D.fallTo l tn mk i:=by
 simp only[Dev.fallTo,hx]
theorem z62 {w : World}{p m : Nat}{kp ca cv : Value}{D : Dev}(h : Oj w p m kp ca D)(l : List Int)(tn : Int)(mk : UInt8)(hl : l.length <= 17592186044416)(hr : Rd w cv 1 l.length (l.map I))(eI : D.cache.length < 2000000000000) :
  Mm Tryz.prog 186 [ptr p 0,.agg #[cv,I tn,Px mk]] w λv w'=>v= .tuple #[]/\Oj w' p m (.slice none 0 0) (.slice none 0 0) (D.z8c l tn mk)/\Kp (λk=>k=p\/k=m) w w':=by
 have aB:=h.ok.len
 have hN:=h.ok.hN
 have IU:=mk.toNat_lt
 have IV:=h.pm
 have zR:=h.lt m (.inr (.inl rfl))
 have FY:∀{w':World},Ext w w'->w.heap.size<=w'.heap.size:=λh=>h.size
 obtain⟨a,cap,rfl,ha⟩:=h.cache.rd.shape
 obtain⟨ac,capc,rfl,Li⟩:=hr.shape
 refine It (e:=[(0,_),(1,_)]) Tryz.func186 rfl Tryz.ntmps186 rfl rfl (qN rfl (LV rfl rfl (NN rfl rfl) ?_))
 rintro _ w1 ⟨b3,rfl,en,ad,aq⟩
 have h0:=h.ext ad
 have dP:=ad.size
 replace hr:=hr.ext ad
 have kj:=aq.lt
 have hM:=h0.LN
 refine LO (run_seq (qN rfl (LM rfl (Mp rfl (M0 Ud rfl (qV (LR XO rfl rfl hM rfl) (NX XO rfl (LM rfl (LO (LK (Oe (α:=Nat) (0) (λi=>[(0,ptr p 0),(3,ptr b3 0),(11,.slice a D.cache.length cap),(12,I (D.cache.length:Int)),(13,I (i:Int))]) (λi wi=>i<=D.cache.length/\Oj wi p m kp (.slice a D.cache.length cap) {D with sf:=D.fallTo l tn mk i}/\Rd wi (.slice ac l.length capc) 1 l.length (l.map I)/\LX wi b3 [.slice ac l.length capc,I tn,Px mk] 102/\Kp (λk=>k=m) w1 wi) (λi=>D.cache.length-i) ?hI ?hround)))))))))))
 case hI=>exact⟨by omega,h0,hr,aq,Kp.refl _ _⟩
 case hround =>
  rintro i wi ⟨hi,hd,lM,fk,rG⟩ ih
  try dsimp only
  have IW:=rG.size;refine qN rfl (Nr rfl rfl (LO (run_seq (LY rfl (λaP=>?_) (λaP=>?_)))))
  ·have fw : i < D.cache.length := by omega
   have nx:=hd.cache;rcases nx.shape with⟨-,h⟩|⟨gb,cap',ld,jy⟩
   ·exact absurd h (by show ¬D.cache.length=0;omega)
   cases ld;obtain⟨x,hx⟩:∃x,D.cache[i]? =some x:=⟨_,List.getElem?_eq_getElem fw⟩;have ES:D.cache[i]=x:=by rw[List.getElem?_eq_getElem fw] at hx;exact NV hx
   have gK:((wrs D.cache).drop (i*2)).take 2=wr x:=by rw[z3s _ _ fw,ES]
   have iu:=hd.ok.cache x (List.mem_of_getElem? hx);simp only at iu;have kL:=nx.part gK;refine py (run_seq (LK (qN rfl (LM rfl (qV (MN XO Sz rfl rfl (by omega)) (qV (Mk zcE rfl Sz rfl kL rfl) (LV rfl rfl (O9 (cs:=[_,_]) Sz rfl) ?_)))))));rintro _ w2 ⟨b5,rfl,gN,af,aF⟩;refine M6 rfl (M1 rfl (MD Sz rfl rfl rfl rfl aF (by simp)) ?_);rintro w3 ⟨dt,ar⟩;replace dt:LX w3 b5 [I x.1,S x.2] 308:=dt;have ah:Ext wi w3:=af.LJ ar (λj hj=>by omega);have gF:=dt.lt;replace hd:=hd.ext ah;have jo:=hd.lt;replace lM:=lM.ext ah;have pI:=lM;replace fk:=ah.LN fk;have mj:=fk.lt;have cw:Kp (λk=>k=m) w1 w3:=rG.trans ah.kp;have IX:=ah.size;have FZ:¬b3=b5:=by have:=af.size;have:=fk;omega
   refine LO (LK (qN rfl (LM rfl (M0 z9f rfl (qV ((by first|exact LR U3 rfl rfl fk rfl|exact LR U3 rfl rfl dt rfl)) ?_)))));refine NS rfl rfl (LU rfl (LY rfl (λsZ=>?_) (λsZ=>?_)))
   ·refine qN rfl (LM rfl (M0 WI rfl (qV ((by first|exact LR U3 rfl rfl fk rfl|exact LR U3 rfl rfl dt rfl)) ?_)));refine Mb z9G rfl (z1m x.1 hd) ?_;rintro _ w4 ⟨rfl,aC⟩;obtain⟨k0,gL⟩:∃k0,Dev.kept {D with sf:=D.fallTo l tn mk i} x.1=k0:=⟨_,rfl⟩;have xK:k0.length=512*D.N:=by rw[<-gL];exact hd.ok.kept x.1
    rw[gL];refine LV rfl rfl (z7Z U9 N1 U5 rfl) ?_;rintro _ w5 ⟨bb,capb,rest,rfl,⟨u7,aT,uo⟩,G0⟩;have di:=aC.trans aT;replace hd:=hd.ext di;replace lM:=lM.ext di;replace fk:=di.LN fk;replace dt:=di.LN dt;have IY:=uo.lt;have ny:=hd.LN;have G4:=di.size;have IZ:=aC.size;have J0:=hd.LN.lt;refine LU rfl (run_seq (qN rfl (LM rfl (Mp rfl (M0 Wl rfl (M0 Vo rfl (qV (LR U3 rfl rfl ny rfl) (LM rfl (LO (LK (Oe (α:=Nat) (0) (λs=>[(0,ptr p 0),(3,ptr b3 0),(5,ptr b5 0),(6,.slice (some ⟨bb,0,none⟩) k0.length capb),(11,.slice (some ⟨gb,0,none⟩) D.cache.length cap),(12,I (D.cache.length:Int)),(13,I (i:Int)),(32,I (D.N:Int)),(33,I (s:Int))]) (λs ws=>s<=D.N/\LX ws bb ((mixN mk k0 x.2 s).map Px++rest) 5/\Kp (λk=>k=bb) w5 ws) (λs=>D.N-s) ?hI ?hround)))))))))))
    case hI=>exact⟨by omega,uo,Kp.refl _ _⟩
    case hround=>
     rintro s ws ⟨hs,gR,eC⟩ ihs
     try dsimp only
     have xL:=eC.LN fk (by omega);have t8:=eC.LN dt (by omega);have f7:=Sx mk k0 x.2 D.N xK iu.2.2 s hs;refine qN rfl (Nr rfl rfl (LO (run_seq (LY rfl (λge=>?_) (λge=>?_)))))
     ·have J1:s<D.N:=by omega
      obtain⟨q,hq⟩:∃q,mk.toNat / 2^s=q:=⟨_,rfl⟩;have Lj:q<256:=by rw[<-hq];exact Nat.lt_of_le_of_lt (Nat.div_le_self _ _) IU
      refine py (run_seq (LK (qN rfl (LM rfl (M6 rfl (qM rfl (M0 z8v rfl (qV (LR U5 rfl rfl xL rfl) (LM rfl (qV (Qm s (2^s) rfl rfl (by simp only[IntKind.bits];omega) rfl) ?_))))))))));rw[hq];refine qV (zfj rfl rfl (by omega) (by omega)) ?_;rw[Nat.and_one_is_mod];refine NS rfl rfl (LO (LY rfl (λng=>?_) (λng=>?_)))
      ·have nz:q%2=1:=by omega
       refine NF (λw'=>Kp (λk=>k=bb) ws w') rfl (M9 0 rfl rfl ((Kp.refl _ ws).drew) (M9 1 rfl rfl ((Kp.refl _ ws).drew) (LS 2 rfl (SV rfl rfl (by omega)) ((Kp.refl _ ws).drew) (M9 3 rfl rfl ((Kp.refl _ ws).drew) (LS 4 rfl (R9 rfl rfl (by omega)) ((Kp.refl _ ws).drew) (LS 5 rfl (SV rfl rfl (by omega)) ((Kp.refl _ ws).drew) (LS 7 rfl (Mo Ze rfl) ((Kp.refl _ ws).drew) (qT 8 rfl (λ_ h=>LR U9 rfl rfl (h.LN t8 (by omega)) rfl) ((Kp.refl _ ws).drew) (M9 9 rfl rfl ((Kp.refl _ ws).drew) (LS 10 rfl (SV rfl rfl (by omega)) ((Kp.refl _ ws).drew) (LS 11 rfl (VU U9 rfl rfl (by omega)) ((Kp.refl _ ws).drew) (LS 6 rfl (zbh (i:=s*512) (j:=(s+1)*512) N1 TQ rfl rfl rfl (by omega) (by omega)) ((Kp.refl _ ws).drew) (qO 12 ?_)))))))))))));refine VP (i:=12) rfl rfl rfl (zfD N1 TQ rfl rfl ((Ext.Ma ws).LN gR) (by simp[f7];omega)) ?_;rintro _ w6 ⟨rfl,aX,aR⟩;refine⟨(Kp.refl _ ws).drew.trans aR,?_⟩
       have e6:((x.2.drop (s*512)).take ((s+1)*512-s*512)).map Px=((x.2.drop (512*s)).take 512).map Px:=by
        rw[show(s+1)*512-s*512=512 by omega,Nat.mul_comm]
       rw[e6,show 0+s*512*1=512*s by omega,z1Q _ _ _ _ (by simp[f7,iu.2.2];omega)] at aX
       have em:mixN mk k0 x.2 (s+1)=z4L (mixN mk k0 x.2 s) (512*s) ((x.2.drop (512*s)).take 512):=by
        simp only[mixN,hq,nz,if_true]
       rw[<-em] at aX;refine qE (LL (LQ rfl (MK rfl rfl (LM rfl (LO ?_)))));exact(ihs (s+1) w6 ⟨by omega,aX,eC.trans ((Kp.refl _ ws).drew.trans aR)⟩ (by omega)).qb
      ·have nz:¬q%2=1:=by omega
       have em:mixN mk k0 x.2 (s+1)=mixN mk k0 x.2 s:=by simp only[mixN,hq,nz,if_false]
       rw[<-em] at gR;refine py (LL (LQ rfl (MK rfl rfl (LM rfl (LO ?_)))));exact(ihs (s+1) ws ⟨by omega,gR,eC⟩ (by omega)).qb
     ·have BE:s=D.N:=by omega
      subst BE;have uq:=hd.kp eC λk hk dJ=>by have:=jo k hk;omega
      obtain⟨kv,nw,mJ⟩:=uq.map;have G5:=uq.LN;have G6:Ext w3 ws:=di.LJ eC (λj hj=>by omega);have ta:=pI.ext G6;refine LW rfl (NF (λw'=>Kp (λk=>k=m) ws w') rfl (M9 0 rfl rfl ((Kp.refl _ ws).drew) (LS 1 rfl (MS rfl) ((Kp.refl _ ws).drew) (LS 2 rfl (Mo Z5 rfl) ((Kp.refl _ ws).drew) (qT 3 rfl (λ_ hS=>(by first|exact LR z0f rfl rfl (hS.LN G5 uq.pm) rfl|exact LR z0f rfl rfl (hS.LN t8 (by omega)) rfl)) ((Kp.refl _ ws).drew) ?_)))));refine LS 4 rfl (Mo WI rfl) ((Kp.refl _ ws).drew) (qT 5 rfl (λ_ hS=>(by first|exact LR U3 rfl rfl (hS.LN G5 uq.pm) rfl|exact LR U3 rfl rfl (hS.LN t8 (by omega)) rfl)) ((Kp.refl _ ws).drew) ?_);refine M9 6 rfl rfl ((Kp.refl _ ws).drew) (qT 7 rfl (λ_ h=>z2l (l:=mixN mk k0 x.2 D.N) N1 U5 U9 rfl (h.LN gR (by omega)) (z0S _ _ _ (by omega)) (by omega)) ((Kp.refl _ ws).drew) (qO 8 (Mx (i:=8) rfl rfl (zmu (k:=x.1) (K:=KI) z0f (Oy U3) rfl rfl rfl (Ext.map (Ext.Ma ws) nw)) ?_)));rintro w7 ⟨fT,aA⟩;refine⟨(Kp.refl _ ws).drew.trans aA,?_⟩;have iv:=(Kp.refl (λi=>i=m) ws).drew.trans aA;have qQ:=uq.put mJ fT iv (uq.ok.put ⟨iu.1,iu.2.1⟩ (Sx mk k0 x.2 D.N xK iu.2.2 D.N (Nat.le_refl _)))
      have ef:Xe (D.fallTo l tn mk i) x.1 (mixN mk k0 x.2 D.N)=D.fallTo l tn mk (i+1):=by
       rw[VC hx,if_pos sZ,<-gL];rfl
      simp only[ef] at qQ;refine qE (LL (LL (LQ rfl (MK rfl rfl (LM rfl (LO ?_))))));exact(ih (i+1) w7 ⟨by omega,qQ,ta.kpm nw iv,iv.LN xL (by omega),cw.trans (G6.kp.trans iv)⟩ (by omega)).qb
   ·have xM:=hd.LN;refine qN rfl (M0 z9n rfl (qV ((by first|exact LR NQ rfl rfl fk rfl|exact LR NQ rfl rfl dt rfl)) ?_));refine LM rfl (Mb zd3 rfl (ZL (.slice ac l.length capc) l (i:Int) w3 hl pI) ?_);rintro _ w4 ⟨rfl,rfl⟩;refine LU rfl (LY rfl (λaY=>?_) (λaY=>?_))
    ·obtain⟨kv,nw,mJ⟩:=hd.map;refine NF (λw'=>Kp (λk=>k=m) w4 w') rfl (M9 0 rfl rfl ((Kp.refl _ w4).drew) (LS 1 rfl (MS rfl) ((Kp.refl _ w4).drew) (LS 2 rfl (Mo Z5 rfl) ((Kp.refl _ w4).drew) (qT 3 rfl (λ_ hS=>(by first|exact LR z0f rfl rfl (hS.LN xM hd.pm) rfl|exact LR z0f rfl rfl (hS.LN dt (by omega)) rfl)) ((Kp.refl _ w4).drew) ?_))));refine LS 4 rfl (Mo WI rfl) ((Kp.refl _ w4).drew) (qT 5 rfl (λ_ hS=>(by first|exact LR U3 rfl rfl (hS.LN xM hd.pm) rfl|exact LR U3 rfl rfl (hS.LN dt (by omega)) rfl)) ((Kp.refl _ w4).drew) ?_);refine LS 6 rfl (Mo Ze rfl) ((Kp.refl _ w4).drew) (qT 7 rfl (λ_ hS=>(by first|exact LR U9 rfl rfl (hS.LN xM hd.pm) rfl|exact LR U9 rfl rfl (hS.LN dt (by omega)) rfl)) ((Kp.refl _ w4).drew) ?_);refine qO 8 (Mx (i:=8) rfl rfl (zmu (k:=x.1) (K:=KI) z0f (Oy U3) rfl rfl rfl (Ext.map (Ext.Ma w4) nw)) ?_);rintro w7 ⟨fT,aA⟩;refine⟨(Kp.refl _ w4).drew.trans aA,?_⟩;have iv:=(Kp.refl (λi=>i=m) w4).drew.trans aA;have qQ:=hd.put mJ fT iv (hd.ok.put ⟨iu.1,iu.2.1⟩ iu.2.2)
     have ef:Xe (D.fallTo l tn mk i) x.1 x.2=D.fallTo l tn mk (i+1):=by
      rw[VC hx,if_neg sZ,if_pos aY]
     simp only[ef] at qQ;refine qE (LL (LL (LQ rfl (MK rfl rfl (LM rfl (LO ?_))))));exact(ih (i+1) w7 ⟨by omega,qQ,pI.kpm nw iv,iv.LN fk (by omega),cw.trans iv⟩ (by omega)).qb
    ·have ef:D.fallTo l tn mk i=D.fallTo l tn mk (i+1):=by
      rw[VC hx,if_neg sZ,if_neg aY]
     rw[ef] at hd;refine py (LL (LL (LQ rfl (MK rfl rfl (LM rfl (LO ?_))))));exact(ih (i+1) w4 ⟨by omega,hd,pI,fk,cw⟩ (by omega)).qb
  ·have aY:i=D.cache.length:=by omega
   subst aY;have xM:=hd.LN;refine LW rfl (qN rfl (LM rfl (Mp rfl (M0 Ud rfl (M1 rfl (NC z3O rfl rfl rfl xM (by simp)) ?_)))));rintro w5 ⟨aF,aj⟩;refine qM rfl (LM rfl (qV (OJ (cs:=[_,_,_,_]) z3R rfl zdw rfl rfl) (Mp rfl (M0 Ta rfl (M1 rfl (MD z3R rfl rfl rfl rfl aF (by simp)) ?_)))));rintro w6 ⟨aX,aR⟩;replace aX:LX w6 p [I 0,.slice none 0 0,I 0,Px 0,I (D.B:Int),I (D.N:Int),.map (some m),.slice none 0 0,.bool D.down,I D.calls,I D.reads] 107:=aX;refine LO (LQ rfl (LM rfl (Mp rfl (M0 Z4 rfl (M1 rfl (NC RX rfl rfl rfl aX (by simp)) ?_)))));rintro w7 ⟨bN,aA⟩;refine LO (N9 Tryz.func186 rfl ?_);have iw:=(aj.trans aR).trans aA;obtain⟨kv,nw,mJ⟩:=hd.map;refine⟨_,rfl,rfl,⟨bN,⟨kv,iw.map nw λe=>hd.pm e.symm,mJ⟩,Sl.nil w7 _ _,Sl.nil w7 _ _,?_⟩,?_⟩
   ·exact⟨hd.ok.hB,hd.ok.hN,by simp[Dev.z8c],hd.ok.sf,λx hx=>by simp[Dev.z8c] at hx,by have:=aB;simp[Dev.z8c];omega,hd.ok.reads⟩
   ·exact((Ext.kp ad).trans (rG.LZ λ_ h=> .inr h)).trans (iw.LZ λ_ h=> .inl h)
def Dev.push (D:Dev)(n:Int)(s:Bytes):Dev:={D with cache:=D.cache++[(n,s)]}
theorem z88 {P:Program}{e:Env}{d:Option Nat}{ty t t':TypeId}{pos:String}{aft:Array Edge}{g:Option (Nat×Bool)}{x y:Operand}{w:World}{a b:Int}(hx:look e x=some (I a))(hy:look e y=some (I b)):Y P e ⟨d,.binOp .add t x y t',ty,pos,aft,g⟩ (I (IntKind.i64.wrap (a+b))) w w:=fun ρ hρ=>by simp[execOp,go_sem,hρ _ _ hx,hρ _ _ hy]
def Dev.za0 (D:Dev):Dev:=D.z8c D.OM D.z8H D.mask
def Dev.write (D:Dev)(n:Int)(s:Bytes):Dev×Int:=
 if D.down then(D,8)
 else if D.has n=false\/s.length≠512*D.N then(D,1)
 else if D.due=1 then(((D.push n s).count).za0,8) else((D.push n s).count,0)
def Dev.read (D:Dev)(n:Int):Dev×Bytes×Int:=
 if D.down then(D,[],8) else if D.has n=false then(D,[],1) else({D with reads:=IntKind.i64.wrap (D.reads+1)},D.now n,0)
def Xv (w:World)(p m:Nat)(kp ca:Value)(D':Dev)(w':World):Prop:=∃kp' ca',Oj w' p m kp' ca' D'/\Upd (fpD p m kp ca) (fpD p m kp' ca') w w'
theorem Xv.same {w w':World}{p m:Nat}{kp ca:Value}{D:Dev}(h:Oj w' p m kp ca D)(k:Ext w w'):Xv w p m kp ca D w':=⟨kp,ca,h,k.Xe⟩
theorem z6n {w w':World}{p m:Nat}{kp ca:Value}(k:Kp (λi=>i=p\/i=m) w w'):Upd (fpD p m kp ca) (fpD p m (.slice none 0 0) (.slice none 0 0)) w w':=
 ⟨k.LZ λi hi=>hi.elim .inl λh=> .inr (.inl h),λi hi=>by
  rcases hi with h|h|h| h
  ·exact .inl (.inl h)
  ·exact .inl (.inr (.inl h))
  ·cases h
  ·cases h⟩
section
variable {w:World}{p m:Nat}{kp ca:Value}{D:Dev}
theorem z78 (n:Int)(h:Oj w p m kp ca D)(hc:D.Bd):
  Mm Tryz.prog 127 [ptr p 0,I n] w λv w'=>v= .tuple #[S (D.read n).2.1,I (D.read n).2.2]/\Xv w p m kp ca (D.read n).1 w':=by
 refine It (e:=[(0,_),(1,_)]) Tryz.func127 rfl Tryz.ntmps127 rfl rfl (qN rfl (M6 rfl (LU rfl (run_seq (qN rfl (LM rfl (Mb z9U rfl (YT h) ?_)))))))
 rintro _ w1 ⟨rfl,rfl⟩
 cases hd:D.down with
 | true =>
   refine M6 rfl (qM rfl (LM rfl (MY rfl rfl (LO (LY rfl (λhz=>?_) (λhz=>?_))))))
   ·refine qN rfl (LM rfl (M6 rfl (LU rfl (LP Tryz.func127 rfl ?_))));have e:D.read n=(D,[],8):=by simp[Dev.read,hd]
    rw[e];exact⟨_,rfl,rfl,Xv.same h (Ext.refl _)⟩
   ·exact absurd (by decide) hz
 | false =>
   refine M6 rfl (qM rfl (LM rfl (MY rfl rfl (LO (LY rfl (λhz=>?_) (λhz=>?_))))))
   ·exact absurd hz (by decide)
   ·refine py (run_seq (qN rfl (M4 rfl rfl (Mb zab rfl (z3i n h) ?_))));rintro _ w2 ⟨rfl,rfl⟩
    cases hh:D.has n with
    | false =>
      refine qV ((by first|exact ML rfl|exact Oh rfl)) ?_;refine LO (M3 rfl (qN rfl (M6 rfl (LU rfl (LP Tryz.func127 rfl ?_)))));have e:D.read n=(D,[],1):=by simp[Dev.read,hd,hh]
      rw[e]
      exact⟨_,rfl,rfl,Xv.same h (Ext.refl _)⟩
    | true =>
      refine qV ((by first|exact ML rfl|exact Oh rfl)) ?_;refine LO (An rfl ?_);have hM:=h.LN;refine py (qN rfl (LM rfl (Mp rfl (M0 z3t rfl (qV (LR U3 rfl rfl hM rfl) (qV (z88 rfl rfl) (Mp rfl (M0 z3t rfl (M1 rfl (NC MO rfl rfl rfl hM (by simp)) ?_)))))))));rintro w3 ⟨Dl,ar⟩;have h3:=h.turn (D':={D with reads:=IntKind.i64.wrap (D.reads+1)}) Dl ar rfl rfl rfl rfl ⟨h.ok.hB,h.ok.hN,h.ok.due,h.ok.sf,h.ok.cache,h.ok.len,trivial⟩;refine qM rfl (M4 rfl rfl (Mb zc5 rfl (z8W n h3 hc.2.1) ?_));rintro _ w4 ⟨rfl,aC⟩;refine M6 rfl (LU rfl (LP Tryz.func127 rfl ?_));have e:D.read n=({D with reads:=IntKind.i64.wrap (D.reads+1)},D.now n,0):=by simp[Dev.read,hd,hh]
      rw[e];exact⟨_,rfl,rfl,kp,ca,h3.ext aC,(ar.LZ λ_ h=> .inl h).trans aC.kp,λ_ h=> .inl h⟩
theorem z5H (n : Int)(s : Bytes)(h : Oj w p m kp ca D)(hc : D.Bd)(hk : D.OM.length <= 17592186044416) :
  Mm Tryz.prog 162 [ptr p 0,I n,S s] w λv w'=>v=I (D.write n s).2/\Xv w p m kp ca (D.write n s).1 w':=by
 have f7:maxLen=9223372036854775807:=rfl
 obtain⟨fx,eI,lH⟩:=hc
 have J2:=h.ok.len
 refine It (e:=[(0,_),(1,_),(2,_)]) Tryz.func162 rfl Tryz.ntmps162 rfl rfl (qN rfl (LU rfl (run_seq (qN rfl (LM rfl (Mb z9U rfl (YT h) ?_))))))
 rintro _ w1 ⟨rfl,rfl⟩
 cases hd:D.down with
 | true =>
   refine M6 rfl (qM rfl (LM rfl (MY rfl rfl (LO (LY rfl (λhz=>?_) (λhz=>?_))))))
   ·refine qN rfl (LM rfl (LU rfl (LP Tryz.func162 rfl ?_)));have e:D.write n s=(D,8):=by simp[Dev.write,hd]
    rw[e];exact⟨_,rfl,rfl,Xv.same h (Ext.refl _)⟩
   ·exact absurd (by decide) hz
 | false =>
   refine M6 rfl (qM rfl (LM rfl (MY rfl rfl (LO (LY rfl (λhz=>?_) (λhz=>?_))))))
   ·exact absurd hz (by decide)
   ·refine py (run_seq (qN rfl (M4 rfl rfl (Mb zab rfl (z3i n h) ?_))));rintro _ w2 ⟨rfl,rfl⟩
    cases hh:D.has n with
    | false =>
      refine qV ((by first|exact ML rfl|exact Oh rfl)) ?_;refine LM rfl (qS (qS (qS (qS (qS (NB rfl rfl (LO (M3 rfl (qN rfl (LU rfl (LP Tryz.func162 rfl ?_)))))))))));have e:D.write n s=(D,1):=by simp[Dev.write,hd,hh]
      rw[e]
      exact⟨_,rfl,rfl,Xv.same h (Ext.refl _)⟩
    | true =>
      have hn:0<=n/\n<(D.B:Int):=by simpa[Dev.has] using hh
      refine qV ((by first|exact ML rfl|exact Oh rfl)) ?_;refine M4 rfl rfl (qV (Ra U9 rfl) (LM rfl (Mb zb2 rfl (XP h) ?_)));rintro _ w3 ⟨rfl,rfl⟩;refine MY rfl rfl (ME rfl rfl (LO (LY rfl (λcz=>?_) (λcz=>?_))))
      ·refine qN rfl (LU rfl (LP Tryz.func162 rfl ?_))
       have e:D.write n s=(D,1):=by
        have:s.length≠512*D.N:=by omega
        simp[Dev.write,hd,hh,this]
       rw[e];exact⟨_,rfl,rfl,Xv.same h (Ext.refl _)⟩
      ·have fK:s.length=512*D.N:=by omega
       obtain⟨a,cap,rfl,ha⟩:=h.cache.rd.shape;have hM:=h.LN;refine py (qN rfl (M4 rfl rfl (Mp rfl (M0 Ud rfl (qV (LR XO rfl rfl hM rfl) (M4 rfl rfl (qV (OJ (cs:=[_,_]) Sz rfl zc2 rfl rfl) (LV rfl rfl (Uu (cs:=[_,_]) (zs:=[Value.int .i64 0,Value.string ⟨#[]⟩]) XO Sz rfl (by kernel_rfl) rfl rfl rfl (by decide)) ?_))))))));rintro _ w4 ⟨b4,rfl,⟨eA,aC,aM⟩,ee⟩;have nA:=h.cache.ext aC;refine LV rfl rfl (pap XO Sz rfl (by decide) rfl rfl nA ee.rd (by intro c hc;simp at hc;rcases hc with rfl|rfl<;>rfl) (by omega) (by omega)) ?_;rintro v' w5 ⟨gp,aj,qR,-⟩;have D2:oneV v'=true:=by rcases gp.shape with⟨rfl,-⟩|⟨g,cap,rfl,-⟩<;>rfl
       have h4:=h.ext aC
       have jg:∀g,(Value.slice a D.cache.length cap).ownBlock=some g->¬g=p:=λg hg pG=>by
        obtain⟨xs,fz',hx⟩:=PH h4.cache hg;obtain⟨fz,hb,-⟩:=h4.LN;rw[pG,hb] at hx;cases hx
       have ny:=aj.LN h4.LN (λhg=>jg p hg rfl);refine Mp rfl (M0 Ud rfl (M1 rfl (NC z3O rfl rfl D2 ny (by simp)) ?_));rintro w6 ⟨aX,aR⟩;have dZ:=h.LN.lt
       have h6:Oj w6 p m kp v' (D.push n s):=by
        refine⟨aX,?_,?_,?_,?_⟩
        ·obtain⟨kv,nw,mJ⟩:=h4.map;exact⟨kv,aR.map (aj.map nw λhg=>(h4.zds hg).2.1 rfl) λe=>h4.pm e.symm,mJ⟩
        ·have e:wrs (D.push n s).cache=wrs D.cache++[I n,S s]:=by simp[Dev.push,wrs,wr]
         have e2:(D.push n s).cache.length=D.cache.length+1:=by simp[Dev.push]
         rw[e,e2];refine gp.kp aR λg hg=>?_;rcases qR g hg with h'|h'
         ·exact(h4.zds h').1
         ·have:=aC.size;omega
        ·refine(h4.OM.kp aj λg hg hc=>(h4.zdF hg).2.2 hc).kp aR λg hg=>(h4.zdF hg).1
        ·refine⟨h.ok.hB,h.ok.hN,h.ok.due,h.ok.sf,λx hx=>?_,h.ok.len,h.ok.reads⟩;simp only[Dev.push,List.mem_append,List.mem_singleton] at hx;rcases hx with hx|rfl
         ·exact h.ok.cache x hx
         ·exact⟨hn.1,hn.2,fK⟩
       refine LO (Mn.qb (e:=[(0,_),(6,_)]) ?_);refine run_seq (qN rfl (LM rfl (Mb zbk rfl (z1y h6 fx) ?_)));rintro _ w7 ⟨rfl,h7,aA⟩
       have hu:Upd (fpD p m kp (.slice a D.cache.length cap)) (fpD p m kp v') w3 w7:=by
        refine⟨(aC.kp.trans (aj.LZ λi hi=> .inr (.inr (.inl hi)))).trans ((aR.LZ λi hi=> .inl hi).trans (aA.LZ λi hi=> .inl hi)),λi hi=>?_⟩;rcases hi with h'|h'|h'|h'
        ·exact .inl (.inl h')
        ·exact .inl (.inr (.inl h'))
        ·rcases qR i h' with G7|G7
         ·exact .inl (.inr (.inr (.inl G7)))
         ·have:=aC.size;exact .inr (by omega)
        ·exact .inl (.inr (.inr (.inr h')))
       refine LO (LY rfl (λpH=>?_) (λpH=>?_))
       ·have Dm:=h7.LN;refine qN rfl (M4 rfl rfl (Mp rfl (M0 Ta rfl (M0 z8L rfl (qV (Mk zf8 rfl z7l rfl (LX.cells (n:=3) Dm (news:=[_,_,_]) rfl) rfl) (Mb ze0 rfl (z62 h7 D.OM D.z8H D.mask hk (h7.OM.rd) (by show(D.cache++[(n,s)]).length<2000000000000;simp;omega)) ?_))))));rintro _ w8 ⟨rfl,h8,bj⟩;refine qM rfl (LU rfl (LP Tryz.func162 rfl ?_))
        have e:D.write n s=(((D.push n s).count).za0,8):=by
         have nB:D.due=1:=pH;simp[Dev.write,hd,hh,fK,nB]
        rw[e];exact⟨_,rfl,rfl,_,_,h8,hu.trans (z6n bj)⟩
       ·refine py (qN rfl (LU rfl (LP Tryz.func162 rfl ?_)))
        have e:D.write n s=((D.push n s).count,0):=by
         have nB:¬D.due=1:=pH;simp[Dev.write,hd,hh,fK,nB]
        rw[e];exact⟨_,rfl,rfl,_,_,h7,hu⟩
end
section
variable {w:World}{p m:Nat}{kp ca:Value}{D:Dev}
def Dev.z4g (D:Dev)(n:Nat):List Bytes:=(List.range n).map λj:Nat=>D.now (j:Int)
@[simp] theorem imageTo_length (D:Dev) (n:Nat):(D.z4g n).length=n:=by simp[Dev.z4g]
theorem z7p {w:World}{v:Value}{e size n:Nat}{cs:List Value}(h:Sl w v e size n cs):oneV v=true:=by
 rcases h.shape with⟨rfl,-⟩|⟨g,cap,rfl,-⟩<;>rfl
end
def VX (b n:Int):Prop:=16<=b/\b<=4096/\1<=n/\n<=8
instance (b n:Int):Decidable (VX b n):=by unfold VX;infer_instance
def Dev.fresh (B N:Nat):Dev:=⟨0,[],0,0,B,N,λ_=>none,[],false,0,0⟩
theorem z4G (b n:Int)(w:World):Mm Tryz.prog 40 [.agg #[I b,I n]] w λv w'=>v=I (if VX b n then 0 else 1)/\Ext w w':=by
 refine It (e:=[(0,_)]) Tryz.func40 rfl Tryz.ntmps40 rfl rfl (qN rfl (LV rfl rfl (NN rfl rfl) ?_))
 rintro _ w1 ⟨b1,rfl,bR,ad,ai⟩
 by_cases hg:VX b n
 ·obtain⟨g1,g2,g3,g4⟩:=hg;refine LU rfl (run_seq (qN rfl (M0 Vw rfl (qV (LR U3 rfl rfl ai rfl) (Nr rfl rfl (MC (LM rfl (M0 Vw rfl (qV (LR U3 rfl rfl ai rfl) (Nc rfl rfl (MC (ME rfl rfl (LM rfl ?_)))))))))))));refine M0 Vo rfl (qV (LR U3 rfl rfl ai rfl) (Nr rfl rfl (MC (ME rfl rfl (LM rfl (M0 Vo rfl (qV (LR U3 rfl rfl ai rfl) (Nc rfl rfl (MC (ME rfl rfl (LO (An rfl (py ?_)))))))))))));refine qN rfl (LU rfl (LP Tryz.func40 rfl ?_));exact⟨_,rfl,by rw[if_pos ⟨g1,g2,g3,g4⟩];rfl,ad⟩
 ·refine LU rfl (run_seq (qN rfl (M0 Vw rfl (qV (LR U3 rfl rfl ai rfl) (Nr rfl rfl (OS (λh1=>?_) (λh1=>?_)))))))
  ·refine LM rfl (qS (qS (qS (NB rfl rfl (LM rfl (qS (qS (qS (NB rfl rfl (LM rfl (qS (qS (qS ?_)))))))))))));refine NB rfl rfl (LO (M3 rfl (qN rfl (LU rfl (LP Tryz.func40 rfl ?_)))));exact⟨_,rfl,by rw[if_neg hg];rfl,ad⟩
  ·refine LM rfl (M0 Vw rfl (qV (LR U3 rfl rfl ai rfl) (Nc rfl rfl (ME rfl rfl (OS (λh2=>?_) (λh2=>?_))))))
   ·refine LM rfl (qS (qS (qS (NB rfl rfl (LM rfl (qS (qS (qS (NB rfl rfl (LO (M3 rfl (qN rfl (LU rfl ?_)))))))))))));refine LP Tryz.func40 rfl ?_;exact⟨_,rfl,by rw[if_neg hg];rfl,ad⟩
   ·refine LM rfl (M0 Vo rfl (qV (LR U3 rfl rfl ai rfl) (Nr rfl rfl (ME rfl rfl (OS (λh3=>?_) (λh3=>?_))))))
    ·refine LM rfl (qS (qS (qS (NB rfl rfl (LO (M3 rfl (qN rfl (LU rfl (LP Tryz.func40 rfl ?_)))))))));exact⟨_,rfl,by rw[if_neg hg];rfl,ad⟩
    ·have:8<n:=by unfold VX at hg;omega
     refine LM rfl (M0 Vo rfl (qV (LR U3 rfl rfl ai rfl) (Nc rfl rfl (O8 (ME rfl rfl (LO (M3 rfl (qN rfl (LU rfl (LP Tryz.func40 rfl ?_))))))))));exact⟨_,rfl,by rw[if_neg hg];rfl,ad⟩
theorem zaU (B N:Nat)(w:World)(hg:VX B N):Mm Tryz.prog 21 [.agg #[I (B:Int),I (N:Int)]] w λv w'=>∃p m,v= .tuple #[ptr p 0,I 0]/\Oj w' p m (.slice none 0 0) (.slice none 0 0) (Dev.fresh B N)/\Ext w w'/\w.heap.size<=p/\w.heap.size<=m:=by
 obtain⟨g1,g2,g3,g4⟩:=hg
 refine It (e:=[(0,_)]) Tryz.func21 rfl Tryz.ntmps21 rfl rfl (qN rfl (LV rfl rfl (NN rfl rfl) ?_))
 rintro _ w1 ⟨b1,rfl,bR,ad,ai⟩
 refine M6 rfl (LU rfl (run_seq (qN rfl (qV (Mk U69 rfl z6I rfl (LX.cells (n:=2) ai (news:=[_,_]) rfl) rfl) (Mb zfq rfl (z4G B N _) ?_)))))
 rintro _ w2 ⟨rfl,af⟩
 rw[if_pos ⟨g1,g2,g3,g4⟩]
 replace ai:=af.LN ai
 refine M6 rfl (qM rfl (LM rfl (MY rfl rfl (LO (LY rfl (λhz=>?_) (λhz=>?_))))))
 ·exact absurd hz (by decide)
 ·refine py (qN rfl (qV (Mk U69 rfl z6I rfl (LX.cells (n:=2) ai (news:=[_,_]) rfl) rfl) (LV rfl rfl (pmm) ?_)));rintro _ w3 ⟨m,rfl,hm,ah,Dl⟩;refine qV (OJ (cs:=[_,_,_,_,_,_,_,_,_,_,_]) zci rfl zdH rfl rfl) (LV rfl rfl (NN rfl rfl) ?_);rintro _ w4 ⟨p,rfl,hp,aC,aM⟩;refine M6 rfl (LU rfl (LP Tryz.func21 rfl ?_));have dP:=ad.size;have cS:=af.size;have od:=ah.size;have J3:Ts KI w4 m []:=⟨⟨#[],0,aC.heap Dl id,rfl⟩,by simp⟩;refine⟨_,rfl,p,m,rfl,⟨aM,⟨[],J3,λn=>rfl⟩,Sl.nil w4 _ _,Sl.nil w4 _ _,?_⟩,((ad.trans af).trans ah).trans aC,by omega,by omega⟩;exact⟨⟨by show 16<=B;omega,by show B<=4096;omega⟩,⟨by show 1<=N;omega,by show N<=8;omega⟩,(by simp[Dev.fresh]),(λn s h=>by cases h),(λx hx=>by cases hx),(by simp[Dev.fresh]),(by simp[Dev.fresh])⟩
def over (s:Bytes)(at':Nat)(d:Bytes):Bytes:=s.take at'++d++s.drop (at'+d.length)
def Dev.zam (D:Dev)(n at':Int)(d:Bytes):Prop:=D.has n=true/\0<=at'/\at'+(d.length:Int)<=((512*D.N:Nat):Int)
instance (D:Dev) (n at':Int) (d:Bytes):Decidable (D.zam n at' d):=by unfold Dev.zam;infer_instance
def zeZ (n:Int)(a:Nat)(d:Bytes)(x:Int×Bytes):Int×Bytes:=if x.1=n then(x.1,over x.2 a d) else x
def z9I (n:Int)(a:Nat)(d:Bytes)(l:List (Int×Bytes))(i:Nat):List (Int×Bytes):=(l.take i).map (zeZ n a d)++l.drop i
@[simp] theorem corTo_length (n:Int) (a:Nat) (d:Bytes) (l:List (Int×Bytes)) (i:Nat):(z9I n a d l i).length=l.length:=by simp[z9I];omega
theorem z1K (l:List (Int×Bytes))(x:Int×Bytes)(n:Int):SA (l++[x]) n=if x.1=n then some x.2 else SA l n:=by
 unfold SA
 rw[List.reverse_append,List.reverse_singleton,List.singleton_append,List.find?_cons]
 by_cases h:x.1=n
 ·simp[h]
 ·have hb:(x.1==n)=false:=by simpa using h
  simp[hb,h]
/-! ### Bounds -/
def Dev.Small (D:Dev)(k:Nat):Prop:=D.calls<=k/\D.cache.length<=k/\True/\D.OM.length<=17592186044416
theorem Dev.Small.bd {D:Dev}{k:Nat}(h:D.Small k)(hk:k<1000000000000):D.Bd:=⟨by have:=h.1;omega,by have:=h.2.1;omega,trivial⟩
/-! ### By footprints -/
def z4z (w:World)(p:Nat)(F:Nat->Prop)(D':Dev)(w':World):Prop:=∃F',Sq w' p D' F'/\Upd F F' w w'
theorem Xv.toA {w w':World}{p m:Nat}{kp ca:Value}{D':Dev}{F:Nat->Prop}(hF:∀k,F k↔fpD p m kp ca k)(h:Xv w p m kp ca D' w'):z4z w p F D' w':=by
 have e:F=fpD p m kp ca:=funext λk=>propext (hF k)
 subst e
 obtain⟨kp',ca',h1,h2⟩:=h
 exact⟨_,⟨m,kp',ca',h1,λk=>Iff.rfl⟩,h2⟩
section
variable {w:World}{p:Nat}{D:Dev}{F:Nat->Prop}
theorem z5s (h:Sq w p D F):Mm Tryz.prog 123 [ptr p 0] w λv w'=>v= .bool D.down/\w'=w:=by
 obtain⟨m,kp,ca,h1,hF⟩:=h;exact z7A h1
theorem z57 (h:Sq w p D F):Mm Tryz.prog 71 [ptr p 0] w λv w'=>v=I ((512*D.N:Nat):Int)/\w'=w:=by
 obtain⟨m,kp,ca,h1,hF⟩:=h;exact XP h1
theorem SR (h:Sq w p D F):Mm Tryz.prog 110 [ptr p 0] w λv w'=>v=I (D.B:Int)/\w'=w:=by
 obtain⟨m,kp,ca,h1,hF⟩:=h;exact z1Y h1
theorem z1V (n:Int)(s:Bytes)(h:Sq w p D F){k:Nat}(hs:D.Small k)(hk:k<1000000000000):
  Mm Tryz.prog 162 [ptr p 0,I n,S s] w λv w'=>v=I (D.write n s).2/\z4z w p F (D.write n s).1 w':=by
 obtain⟨m,kp,ca,h1,hF⟩:=h
 exact(z5H n s h1 (hs.bd hk) hs.2.2.2).mono λv w' ⟨e,h2⟩=>⟨e,h2.toA hF⟩
theorem z5x (n:Int)(h:Sq w p D F){k:Nat}(hs:D.Small k)(hk:k<1000000000000):
  Mm Tryz.prog 127 [ptr p 0,I n] w λv w'=>v= .tuple #[S (D.read n).2.1,I (D.read n).2.2]/\z4z w p F (D.read n).1 w':=by
 obtain⟨m,kp,ca,h1,hF⟩:=h
 exact(z78 n h1 (hs.bd hk)).mono λv w' ⟨e,h2⟩=>⟨e,h2.toA hF⟩
theorem z8f (B N:Nat)(w:World)(hg:VX B N):Mm Tryz.prog 21 [.agg #[I (B:Int),I (N:Int)]] w λv w'=>∃p F,v= .tuple #[ptr p 0,I 0]/\Sq w' p (Dev.fresh B N) F/\Ext w w'/\∀i,F i->w.heap.size<=i:=
 (zaU B N w hg).mono λv w' ⟨p,m,e,h,hx,h1,h2⟩=>⟨p,_,e,⟨m,_,_,h,λk=>Iff.rfl⟩,hx,λi hi=>by
  rcases hi with h|h|h| h
  ·omega
  ·omega
  ·cases h
  ·cases h⟩
end
theorem z4z.kpF {w w':World}{p:Nat}{F:Nat->Prop}{D':Dev}(h:z4z w p F D' w'):Kp F w w':=by
 obtain⟨F',-,hu⟩:=h
 exact hu.1
def ZO (z b:Int):Int:=(z.tmod b+b).tmod b
theorem PV (z b:Int)(hb:0<b): -b<z.tmod b/\z.tmod b<b:=by
 have h2:=Int.tmod_lt_of_pos z hb
 refine⟨?_,h2⟩
 have h3:=Int.tmod_lt_of_pos (-z) hb
 rw[Int.neg_tmod] at h3
 omega
theorem RJ (z b:Int)(hb:0<b):0<=ZO z b/\ZO z b<b:=by
 obtain⟨h1,h2⟩:=PV z b hb
 unfold ZO
 exact⟨Int.tmod_nonneg _ (by omega),Int.tmod_lt_of_pos _ hb⟩
theorem z6a {D:Dev}{n:Int}{s:Bytes}(hd:D.down=false)(h0:D.due=0)(hn:0<=n/\n<(D.B:Int))(hs:s.length=512*D.N):D.write n s=((D.push n s).count,0):=by
 have hh:D.has n=true:=by simp[Dev.has];omega
 unfold Dev.write
 rw[if_neg (by simp[hd]),if_neg (by simp[hh,hs]),if_neg (by omega)]
def grow:Nat->Bytes->Nat->Bytes
 |0,s,_=>s
 |f+1,s,n=>if s.length<n then grow f (s++s) n else s
def fill (s:Bytes)(n:Nat):Bytes:=(grow (n+1) (if s=[] then [0] else s) n).take n
section
variable {κ:Type}[DecidableEq κ]{K:κ->Value}{P:Program}{e:Env}{d:Option Nat}{ty t kt el:TypeId}{pos:String}{aft:Array Edge}{g:Option (Nat×Bool)}{x y u:Operand}{w:World}{m:Nat}{z:Value}{size bytes:Nat}{k:κ}
theorem zfw (ht:P.underlying t=some (.map kt el))(hK:Ky P kt K)(hz:TI P el z size bytes)(hx:look e x=some (.map none))(hy:look e y=some (K k)):
  Y P e ⟨d,.lookup t x y false,ty,pos,aft,g⟩ z w w:=fun ρ hρ=>by
 have zF:=hz.zero (w:=w)
 have ro:=λb=>hK.same.choose_spec.2.2 w b 9999 k
 have hu:=hK.same.choose_spec.1
 simp[execOp,hρ _ _ hx,hρ _ _ hy,Instr.lookup,run_underlying ht,ro,zF,Instr.findKey,run_underlying hu,Instr.findNow]
end
structure QM (w:World)(ks mp:Value)(l:List Int):Prop where
 sl:Sl w ks 3 1 l.length (l.map I)
 mp:(mp= .map none/\l=[])\/∃b,mp= .map (some b)/\P3 KI w b (l.map λk=>(k,I 1))
 n:l.length<=8192
def Fq (ks mp:Value)(b:Nat):Prop:=ks.ownBlock=some b\/mp= .map (some b)
section
variable {w w':World}{ks mp:Value}{l:List Int}{S:Nat->Prop}{c o:Nat}{cs:List Value}{k:Int}
theorem QM.kp (h:QM w ks mp l)(hk:Kp S w w')(hn:∀b,Fq ks mp b->¬S b):QM w' ks mp l:=
 ⟨h.sl.kp hk λg e=>hn g (.inl e),by
  rcases h.mp with e|⟨b,e,hm⟩
  ·exact .inl e
  ·exact .inr ⟨b,e,hm.kp hk (hn b (.inr e))⟩,h.n⟩
theorem QM.lt (h:QM w ks mp l){b:Nat}(hb:Fq ks mp b):b<w.heap.size:=by
 rcases hb with e| e
 ·exact h.sl.lt e
 ·rcases h.mp with⟨e',-⟩|⟨b',e',hm⟩
  ·rw[e'] at e;cases e
  ·rw[e'] at e;cases e;exact hm.lt
theorem QM.ne (h:QM w ks mp l){b:Nat}(hb:ks.ownBlock=some b):mp≠ .map (some b):=λe=>by
 obtain⟨cur,h1⟩:=h.sl.typed hb
 rcases h.mp with⟨e',-⟩|⟨b',e',hm⟩
 ·rw[e'] at e;cases e
 ·rw[e'] at e;cases e;obtain⟨⟨es,cl,h2,-⟩,-⟩:=hm;rw[h1] at h2;cases h2
theorem QM.nd (h:QM w ks mp l):l.Nodup:=by
 rcases h.mp with⟨-,e⟩|⟨b',e',hm⟩
 ·rw[e];exact List.nodup_nil
 ·have:=hm.nd;rw[List.map_map] at this;have e:((λp:Int×Value=>p.1) ∘ λk:Int=>(k,I 1))=id:=rfl;rw[e,List.map_id] at this;exact this
theorem z07 (l:List Int)(k:Int):getL (l.map λk=>(k,I 1)) k=if k∈l then some (I 1) else none:=by
 induction l with
 |nil=>rfl
 | cons a l ih =>
   show(if k=a then some (I 1) else getL (l.map λk=>(k,I 1)) k)=_;rw[ih];by_cases h:k=a
   ·simp[h]
   ·simp[h]
theorem z7f (l:List Int)(k:Int):delL (l.map λk=>(k,I 1)) k=(l.erase k).map λk=>(k,I 1):=by
 induction l with
 |nil=>rfl
 | cons a l ih =>
   show(if k=a then l.map (λk=>(k,I 1)) else(a,I 1)::delL (l.map λk=>(k,I 1)) k)=_;rw[ih,List.erase_cons];by_cases h:k=a
   ·subst h;simp
   ·rw[if_neg h,if_neg (by simpa using λe=>h e.symm)];rfl
theorem yqk {P:Program}{e:Env}{d:Option Nat}{ty t kt el:TypeId}{pos:String}{aft:Array Edge}{g:Option (Nat×Bool)}{x y:Operand}{bytes:Nat}(ht:P.underlying t=some (.map kt el))(hK:P.underlying kt=some (.int .i64))(hz:TI P el (I 0) 1 bytes)(hx:look e x=some mp)(hy:look e y=some (I k))(hq:QM w ks mp l):
  Y P e ⟨d,.lookup t x y false,ty,pos,aft,g⟩ (I (if k∈l then 1 else 0)) w w:=by
 rcases hq.mp with⟨rfl,rfl⟩|⟨b,rfl,hm⟩
 ·rw[if_neg (by simp)];exact zfw (k:=k) (K:=KI) ht (Oy hK) hz hx hy
 ·have h:=ylk (k:=k) (K:=KI) (d:=d) (ty:=ty) (pos:=pos) (aft:=aft) (g:=g) ht (Oy hK) hz hx hy hm.l;rw[z07] at h;by_cases hk:k∈l
  ·rw[if_pos hk] at h⊢;exact h
  ·rw[if_neg hk] at h⊢;exact h
theorem z7D (hB:LX w c cs 167)(h1:cs[o+1]? =some mp)(hq:QM w ks mp l):Mm Tryz.prog 152 [ptr c o,I k] w λv w'=>v= .bool (decide (k∈l))/\w'=w:=by
 refine It (e:=[(0,_),(1,_)]) Tryz.func152 rfl Tryz.ntmps152 rfl rfl (qN rfl (M6 rfl (qM rfl (LM rfl (Mp rfl (M0 Ue rfl (qV (LR Tp rfl rfl hB h1) (LM rfl (qV (yqk (k:=k) Tp U3 MO rfl rfl hq) (Nc rfl rfl (LU rfl (LP Tryz.func152 rfl (⟨_,rfl,?_,rfl⟩)))))))))))))
 by_cases hk:k∈l
 ·simp[hk,resVal]
 ·simp[hk,resVal]
theorem z2u {lv:Value}(x:Int)(hR:Rd w lv 1 l.length (l.map I))(hl:l.length<=4294967296):
  Mm Tryz.prog 182 [lv,I x] w λv w'=>w'=w/\((x∉l/\v=I (-1))\/∃i:Nat,v=I (i:Int)/\l[i]? =some x/\x∉l.take i):=by
 obtain⟨a,cap,rfl,-⟩:=hR.shape
 refine It (e:=[(0,_),(1,_)]) Tryz.func182 rfl Tryz.ntmps182 rfl rfl (qN rfl (LU rfl (run_seq (qN rfl (LM rfl (NX NQ rfl (LM rfl (LO (LK (Oe (α:=Nat) (0) (λi=>[(0,.slice a l.length cap),(1,I x),(7,I (l.length:Int)),(8,I (i:Int))]) (λi w'=>w'=w/\i<=l.length/\x∉l.take i) (λi=>l.length-i) ?hI ?hround))))))))))
 case hI=>exact⟨rfl,Nat.zero_le _,by simp⟩
 case hround=>
  rintro i wi ⟨rfl,hi,fS⟩ ih
  try dsimp only
  refine qN rfl (Nr rfl rfl (LO (run_seq (LY rfl (λaP=>?_) (λaP=>?_)))))
  ·have pJ:i<l.length:=by omega
   obtain⟨s,pK⟩:∃s,l[i]? =some s:=⟨_,List.getElem?_eq_getElem pJ⟩
   obtain⟨lb,lo,lc,e5⟩:∃b o c',Value.slice a l.length cap= .slice (some ⟨b,o,none⟩) l.length c':=by
    rcases hR.2 with⟨c,hc,h0⟩|⟨b,off,c',hc,-⟩
    ·omega
    ·exact⟨b,off,c',hc⟩
   cases e5;refine py (run_seq (LK (qN rfl (LM rfl (M6 rfl (qM rfl (M4 rfl rfl (LM rfl (qV (MN NQ MO rfl rfl (by omega)) (qV (Mt U3 rfl rfl (MX hR (show(l.map I)[i]? =some (I s) by rw[List.getElem?_map,pK];rfl))) ?_))))))))));refine NS rfl rfl (LO (LY rfl (λhe=>?_) (λhe=>?_)))
   ·refine qN rfl (LM rfl (LU rfl (LP Tryz.func182 rfl ?_)));exact⟨_,rfl,rfl,.inr ⟨i,rfl,by rw[he];exact pK,fS⟩⟩
   ·refine py (LL (LQ rfl (MK rfl rfl (LM rfl (LO ((ih (i+1) _ ⟨rfl,pJ,λhh=>?_⟩ (by omega)).qb))))));rw[MG pK,List.mem_append,List.mem_singleton] at hh;rcases hh with h| h
    ·exact fS h
    ·exact he h
  ·have:i=l.length:=by omega
   subst this;rw[List.take_length] at fS;refine LW rfl (qN rfl (LU rfl (LP Tryz.func182 rfl ?_)));exact⟨_,rfl,rfl,.inl ⟨fS,rfl⟩⟩
theorem z7s {i:Nat}{x:Int}(h:l[i]? =some x)(hn:x∉l.take i):l.take i++l.drop (i+1)=l.erase x:=by
 obtain⟨hi,e⟩:=List.getElem?_eq_some_iff.1 h
 conv=>rhs;rw[<-List.take_append_drop i l]
 rw[List.erase_append_right _ hn,List.drop_eq_getElem_cons hi,e,List.erase_cons_head]
theorem z0b {α:Type}{l:List α}{i:Nat}{a:α}(h:l[i]? =some a):l.set i a=l:=by
 obtain⟨hi,e⟩:=List.getElem?_eq_some_iff.1 h
 rw[<-e,List.set_getElem_self]
theorem z5l (hB:LX w c cs 167)(h0:cs[o]? =some ks)(h1:cs[o+1]? =some mp)(hq:QM w ks mp l)(nc:¬Fq ks mp c):Mm Tryz.prog 153 [ptr c o,I k] w λv w'=>∃ks',v= .tuple #[]/\LX w' c (cs.set o ks') 167/\QM w' ks' mp (l.erase k)/\(∀b,Fq ks' mp b->Fq ks mp b)/\Kp (λb=>b=c\/Fq ks mp b) w w':=by
 have hn:=hq.n
 have ft:=hq.nd
 refine It (e:=[(0,_),(1,_)]) Tryz.func153 rfl Tryz.ntmps153 rfl rfl (qN rfl (LM rfl (Mp rfl (M0 MQ rfl (qV (LR NQ rfl rfl hB h0) (LM rfl (Mb z9T rfl (z2u k hq.sl.rd (by omega)) ?_)))))))
 rintro _ w ⟨rfl,hv⟩
 rcases hv with⟨hk,rfl⟩|⟨i,rfl,hi,um⟩
 ·refine M6 rfl (qM rfl (LM rfl (PQ rfl rfl (MC (LO (An rfl (py (N9 Tryz.func153 rfl (⟨_,rfl,ks,rfl,?_,?_,λb hb=>hb,Kp.refl _ _⟩)))))))))
  ·rw[z0b h0];exact hB
  ·rw[List.erase_of_not_mem hk];exact hq
 ·have Dn:k∈l:=List.mem_of_getElem? hi;have cR:=(List.getElem?_eq_some_iff.1 hi).1;refine M6 rfl (qM rfl (LM rfl (PQ rfl rfl (O8 (LO (M3 rfl (qN rfl (M4 rfl rfl (Mp rfl (M0 MQ rfl (qV (LR NQ rfl rfl hB h0) (M4 rfl rfl (MK rfl rfl ?_)))))))))))));refine Mb zdg rfl (z7Y hq.sl (λc hc=>by obtain⟨z,-,rfl⟩:=List.mem_map.1 hc;rfl) cR (by omega)) ?_;rintro ks2 w2 ⟨cN,ao,ur⟩
  have e2:(l.map I).take i++(l.map I).drop (i+1)=(l.erase k).map I:=by
   rw[<-List.map_take,<-List.map_drop,<-List.map_append,z7s hi um]
  rw[e2] at cN;have jB:(l.erase k).length=l.length-1:=List.length_erase_of_mem Dn;rw[<-jB] at cN;have je:¬ks.ownBlock=some c:=λe=>nc (.inl e);have am:=ao.LN hB je;refine Mp rfl (M0 MQ rfl (M1 rfl (NC z2Z rfl rfl (z7p cN) am (by have:=(List.getElem?_eq_some_iff.1 h0).1;omega)) ?_));rintro w3 ⟨aq,ar⟩
  obtain⟨b,rfl,hm⟩:∃b,mp= .map (some b)/\P3 KI w b (l.map λk=>(k,I 1)):=by
   rcases hq.mp with⟨-,e⟩| h
   ·rw[e] at Dn;cases Dn
   ·exact h
  have G8:c≠b:=λe=>nc (.inr (by rw[e]));have zo:ks.ownBlock≠some b:=λe=>hq.ne e rfl;have xN:o+1<cs.length:=(List.getElem?_eq_some_iff.1 h1).1;have kQ:=(hm.kp ao zo).kp ar (λe=>G8 e.symm);have Dd:(cs.set (o+0) ks2)[o+1]? =some (Value.map (some b)):=by rw[List.getElem?_set_ne (by omega)];exact h1
  refine LO (LQ rfl (LM rfl (Mp rfl (M0 Ue rfl (qV (LR Tp rfl rfl aq Dd) (LM rfl (z7n rfl (zb1 (k:=k) (K:=KI) Tp (Oy U3) rfl rfl kQ rfl) ?_)))))));rintro _ w4 ⟨jr,ax⟩;rw[z7f] at jr;refine LO (Mn.qb (e:=[]) ?_);refine N9 Tryz.func153 rfl ?_;have kf:Kp (λj=>j=c\/Fq ks (.map (some b)) j) w w4:=((ao.LZ λj e=> .inr (.inl e)).trans (ar.LZ λj e=> .inl e)).trans (ax.LZ λj e=> .inr (.inr (by rw[e])));exact⟨_,rfl,ks2,rfl,ax.LN aq G8,⟨(cN.kp ar λg e e'=>nc (.inl (e'▸ur g e))).kp ax λg e e'=>zo (e'▸ur g e),.inr ⟨b,rfl,jr⟩,by omega⟩,λj hj=>hj.imp (ur j) id,kf⟩
theorem z6N (hB:LX w c cs 167)(h0:cs[o]? =some ks)(h1:cs[o+1]? =some mp)(hq:QM w ks mp l)(nc:¬Fq ks mp c)(hk:k∉l)(hl:l.length<=8191):Mm Tryz.prog 157 [ptr c o,I k] w λv w'=>∃ks' mp',v= .tuple #[]/\LX w' c ((cs.set (o+1) mp').set o ks') 167/\QM w' ks' mp' (l++[k])/\(∀b,Fq ks' mp' b->Fq ks mp b\/w.heap.size<=b)/\Kp (λb=>b=c\/Fq ks mp b) w w':=by
 have hn:=hq.n
 have ft:=hq.nd
 have lc:=hB.lt
 have xN:o+1<cs.length:=(List.getElem?_eq_some_iff.1 h1).1
 obtain⟨mo,rfl,J4⟩:∃mo,mp= .map mo/\((mo=none/\l=[])\/∃b,mo=some b/\P3 KI w b (l.map λk=>(k,I 1))):=by
  rcases hq.mp with⟨e,e2⟩|⟨b,e,e2⟩
  ·exact⟨_,e,.inl ⟨rfl,e2⟩⟩
  ·exact⟨_,e,.inr ⟨b,rfl,e2⟩⟩
 refine It (e:=[(0,_),(1,_)]) Tryz.func157 rfl Tryz.ntmps157 rfl rfl (run_seq (qN rfl (LM rfl (Mp rfl (M0 Ue rfl (qV (LR Tp rfl rfl hB h1) (qV (zdb Tp rfl rfl) (LO (MA (λe' w'=>∃b,e'=[(0,ptr c o),(1,I k)]/\LX w' c (cs.set (o+1) (.map (some b))) 167/\P3 KI w' b (l.map λk=>(k,I 1))/\Sl w' ks 3 1 l.length (l.map I)/\(mo=some b\/w.heap.size<=b)/\Kp (λj=>j=c) w w'/\b≠c/\ks.ownBlock≠some b) ?cu (λcu=>?cM))))))))))
 case cu=>
  rintro e' w1 ⟨b,rfl,ai,dG,jq,hb,aK,G9,gd⟩;have mA:(cs.set (o+1) (Value.map (some b)))[o+1]? =some (.map (some b)):=List.getElem?_set_self xN;have eK:(cs.set (o+1) (Value.map (some b)))[o]? =some ks:=by rw[List.getElem?_set_ne (by omega)];exact h0
  have z1:=aK.size;refine qN rfl (LM rfl (Mp rfl (M0 Ue rfl (qV (LR Tp rfl rfl ai mA) (LM rfl (M1 rfl (zaw (k:=k) (K:=KI) Tp (Oy U3) rfl rfl rfl dG) ?_))))));rintro w2 ⟨mh,ao⟩;rw[R1 _ _ _ (by rw[z07,if_neg hk])] at mh;have am:=ao.LN ai (λe=>G9 e.symm);have cN:=jq.kp ao (λg e e'=>gd (e'▸e));refine LO (LQ rfl (M4 rfl rfl (Mp rfl (M0 MQ rfl (qV (LR NQ rfl rfl am eK) (LM rfl (LV rfl rfl (Uu (cs:=[_]) (zs:=[Value.int .i64 0]) NQ MO rfl (by kernel_rfl) rfl rfl rfl (by decide)) ?_)))))));rintro _ w3 ⟨b24,rfl,⟨J5,ah,ep⟩,Do⟩;have lb:=mh.lt;have z2:=ao.size;refine LV rfl rfl (pap NQ MO rfl (by decide) rfl rfl (cN.ext ah) Do.rd (by intro c hc;simp at hc;subst hc;rfl) (by omega) (by simp only[maxLen];omega)) ?_;rintro ks4 w4 ⟨ee,ax,Ga,-⟩;have z3:=ah.size;have z4:=ax.size;have je:ks.ownBlock≠some c:=λe=>nc (.inl e);have aM:=ax.LN (ah.LN am) je;have jr:=(mh.ext ah).kp ax gd;refine Mp rfl (M0 MQ rfl (M1 rfl (NC z2Z rfl rfl (z7p ee) aM (by rw[List.length_set];omega)) ?_));rintro w5 ⟨aF,aj⟩;refine LO (N9 Tryz.func157 rfl ?_)
  have lk4:∀g,ks4.ownBlock=some g->g≠c:=λg e e'=>by
   rcases Ga g e with h| h
   ·exact je (e'▸h)
   ·omega
  have aB:(l++[k]).length=l.length+1:=by simp
  refine⟨_,rfl,ks4,.map (some b),rfl,aF,⟨?_,.inr ⟨b,rfl,?_⟩,by omega⟩,λj hj=>?_,?_⟩
  ·rw[List.map_append,aB];exact ee.kp aj λg e e'=>lk4 g e e'
  ·rw[List.map_append];exact jr.kp aj G9
  ·rcases hj with hj|hj
   ·rcases Ga j hj with h| h
    ·exact .inl (.inl h)
    ·exact .inr (by omega)
   ·cases hj;rcases hb with h| h
    ·exact .inl (.inr (by rw[h]))
    ·exact .inr h
  ·have Dp:Kp (λj=>j=c\/Fq ks (.map mo) j) w w2:=by
    rcases hb with h| h
    ·exact(aK.LZ λj e=> .inl e).trans (ao.LZ λj e=> .inr (.inr (by rw[h,e])))
    ·exact(aK.LZ λj e=> .inl e).LJ ao (λj e=>by omega)
   exact((Dp.trans ah.kp).trans (ax.LZ λj e=> .inr (.inl e))).trans (aj.LZ λj e=> .inl e)
 case cM=>
  rcases J4 with⟨rfl,rfl⟩|⟨b,rfl,hm⟩
  ·refine M3 rfl (LQ rfl (LM rfl (LV rfl rfl (pmm) ?_)));rintro _ w1 ⟨b,rfl,hb,ad,cE⟩;have dG:P3 KI w1 b []:=P3.new cE;have ai:=ad.LN hB;refine Mp rfl (M0 Ue rfl (M1 rfl (NC z3y rfl rfl rfl ai xN) ?_));rintro w2 ⟨am,ao⟩;refine LO ?_;have lb:=dG.lt;exact(cu _ _ ⟨b,rfl,am,dG.kp ao (by omega),(hq.sl.ext ad).kp ao (λg e e'=>nc (.inl (e'▸e))),.inr (by omega),ad.kp.trans ao,by omega,λe=>by have:=hq.sl.lt e;omega⟩).qb
  ·refine An rfl (py ?_);exact(cu _ _ ⟨b,rfl,by rw[z0b h1];exact hB,hm,hq.sl,.inl rfl,Kp.refl _ _,λe=>nc (.inr (by rw[e])),λe=>hq.ne e rfl⟩).qb
end
def Arc.li (A:Arc):Nat->List Int
 |0=>A.once
 |1=>A.often
 |2=>A.M8
 |_=>A.M5
def Arc.Ni (A:Arc):Nat->List Int->Arc
 |0,l=>{A with once:=l}
 |1,l=>{A with often:=l}
 |2,l=>{A with M8:=l}
 |_,l=>{A with M5:=l}
theorem Arc.zaX (A:Arc){j:Nat}(hj:j<4)(l:List Int)(i:Nat)(hi:i<4):(A.Ni j l).li i=if i=j then l else A.li i:=by
 match j,hj,i,hi with
 |0,_,0,_|0,_,1,_|0,_,2,_|0,_,3,_|1,_,0,_|1,_,1,_|1,_,2,_|1,_,3,_|2,_,0,_|2,_,1,_|2,_,2,_|2,_,3,_|3,_,0,_|3,_,1,_|3,_,2,_|3,_,3,_=>rfl
def z4N (V:Nat->Value×Value)(j:Nat)(q:Value×Value)(i:Nat):Value×Value:=if i=j then q else V i
def acC (S:Nat)(T:Int)(V:Nat->Value×Value)(p:Nat):List Value:=[I (S:Int),(V 0).1,(V 0).2,(V 1).1,(V 1).2,(V 2).1,(V 2).2,(V 3).1,(V 3).2,I T,.map (some p)]
abbrev FV (V:Nat->Value×Value)(j b:Nat):Prop:=Fq (V j).1 (V j).2 b
structure P5 (w:World)(c:Nat)(A:Arc)(V:Nat->Value×Value)(p:Nat):Prop where
 LN:LX w c (acC A.size A.target V p) 167
 q:∀j,j<4->QM w (V j).1 (V j).2 (A.li j)
 pins:Ts KI w p []
 RT:∀i j,i<4->j<4->i≠j->∀b,FV V i b->¬FV V j b
 nc:∀j,j<4->¬FV V j c
 np:∀j,j<4->¬FV V j p
 cp:c≠p
def OY (c:Nat)(V:Nat->Value×Value)(p b:Nat):Prop:=b=c\/b=p\/∃j,j<4/\FV V j b
section
variable {w w' w2:World}{c p:Nat}{A A' A2:Arc}{V V' V2:Nat->Value×Value}{S:Nat->Prop}{k:Int}
theorem P5.kp (h:P5 w c A V p)(hk:Kp S w w')(hn:∀b,OY c V p b->¬S b):P5 w' c A V p:=
 ⟨hk.LN h.LN (hn _ (.inl rfl)),λj hj=>(h.q j hj).kp hk λb hb=>hn b (.inr (.inr ⟨j,hj,hb⟩)),hk.map h.pins (hn _ (.inr (.inl rfl))),h.RT,h.nc,h.np,h.cp⟩
theorem P5.ext (h:P5 w c A V p)(hx:Ext w w'):P5 w' c A V p:=h.kp (S:=λ_=>False) hx λ_ _=>id
theorem P5.lt (h:P5 w c A V p){b:Nat}(hb:OY c V p b):b<w.heap.size:=by
 rcases hb with e|e|⟨j,hj,hb⟩
 ·rw[e];exact h.LN.lt
 ·rw[e];exact h.pins.lt
 ·exact(h.q j hj).lt hb
structure So (w:World)(c:Nat)(V:Nat->Value×Value)(p:Nat)(w':World)(A':Arc)(V':Nat->Value×Value):Prop where
 m:P5 w' c A' V' p
 fp:∀b,OY c V' p b->OY c V p b\/w.heap.size<=b
 k:Kp (OY c V p) w w'
theorem So.trans (h:So w c V p w' A' V')(h2:So w' c V' p w2 A2 V2):So w c V p w2 A2 V2:=
 ⟨h2.m,λb hb=>by
  rcases h2.fp b hb with e| e
  ·exact h.fp b e
  ·exact .inr (by have:=h.k.size;omega),h.k.LJ h2.k λb hb=>(h.fp b hb).symm⟩
theorem P5.r (h:P5 w c A V p)(hx:Ext w w'):So w c V p w' A V:=⟨h.ext hx,λb hb=> .inl hb,hx.kp⟩
theorem P5.Xe {j:Nat}(hj:j<4)(h:P5 w c A V p){ks mp:Value}{l:List Int}(hB:LX w' c (acC A.size A.target (z4N V j (ks,mp)) p) 167)(hs:(A.Ni j l).size=A.size/\(A.Ni j l).target=A.target)(hq:QM w' ks mp l)(hf:∀b,Fq ks mp b->FV V j b\/w.heap.size<=b)(hk:Kp (λb=>b=c\/FV V j b) w w'):So w c V p w' (A.Ni j l) (z4N V j (ks,mp)):=by
 have aP:∀{b:Nat},OY c V p b->b<w.heap.size:=h.lt
 have aY:∀i,i<4->i≠j->∀b,FV V i b->¬(b=c\/FV V j b):=λi hi gT b hb e=>by
  rcases e with e| e
  ·exact h.nc i hi (e▸hb)
  ·exact h.RT i j hi hj gT b hb e
 have dP:∀i,i≠j->z4N V j (ks,mp) i=V i:=λi e=>if_neg e
 have cS:z4N V j (ks,mp) j=(ks,mp):=if_pos rfl
 refine⟨⟨by rw[hs.1,hs.2];exact hB,λi hi=>?_,hk.map h.pins (λe=>?_),λi i2 hi dv bI b hb bY=>?_,λi hi hb=>?_,λi hi hb=>?_,h.cp⟩,λb hb=>?_,hk.LZ λb hb=>?_⟩
 ·rw[Arc.zaX A hj l i hi];by_cases e:i=j
  ·rw[if_pos e,e,cS];exact hq
  ·rw[if_neg e,dP i e];exact(h.q i hi).kp hk λb hb=>aY i hi e b hb
 ·rcases e with e| e
  ·exact h.cp e.symm
  ·exact h.np j hj e
 ·by_cases e:i=j
  ·have e2:i2≠j:=λe2=>bI (e.trans e2.symm);unfold FV at hb bY;rw[e,cS] at hb;rw[dP i2 e2] at bY;rcases hf b hb with h1|h1
   ·exact h.RT j i2 hj dv (λe3=>e2 e3.symm) b h1 bY
   ·have:=aP (.inr (.inr ⟨i2,dv,bY⟩));omega
  ·unfold FV at hb bY;rw[dP i e] at hb;by_cases e2:i2=j
   ·rw[e2,cS] at bY;rcases hf b bY with h1|h1
    ·exact h.RT i j hi hj e b hb h1
    ·have:=aP (.inr (.inr ⟨i,hi,hb⟩));omega
   ·rw[dP i2 e2] at bY;exact h.RT i i2 hi dv bI b hb bY
 ·by_cases e:i=j
  ·unfold FV at hb;rw[e,cS] at hb;rcases hf c hb with h1|h1
   ·exact h.nc j hj h1
   ·have:=h.LN.lt;omega
  ·unfold FV at hb;rw[dP i e] at hb;exact h.nc i hi hb
 ·by_cases e:i=j
  ·unfold FV at hb;rw[e,cS] at hb;rcases hf p hb with h1|h1
   ·exact h.np j hj h1
   ·have:=h.pins.lt;omega
  ·unfold FV at hb;rw[dP i e] at hb;exact h.np i hi hb
 ·rcases hb with e|e|⟨i,hi,hb⟩
  ·exact .inl (.inl e)
  ·exact .inl (.inr (.inl e))
  ·by_cases e:i=j
   ·unfold FV at hb;rw[e,cS] at hb;rcases hf b hb with h1|h1
    ·exact .inl (.inr (.inr ⟨j,hj,h1⟩))
    ·exact .inr h1
   ·unfold FV at hb;rw[dP i e] at hb;exact .inl (.inr (.inr ⟨i,hi,hb⟩))
 ·rcases hb with e| e
  ·exact .inl e
  ·exact .inr (.inr ⟨j,hj,e⟩)
theorem T8 (S:Nat)(T:Int)(V:Nat->Value×Value)(p:Nat){j:Nat}(hj:j<4):(acC S T V p)[1+2*j]? =some (V j).1/\(acC S T V p)[1+2*j+1]? =some (V j).2:=by
 match j,hj with
 |0,_|1,_|2,_|3,_=>exact⟨rfl,rfl⟩
theorem z8i (S:Nat)(T:Int)(V:Nat->Value×Value)(p:Nat){j:Nat}(hj:j<4)(ks mp:Value):((acC S T V p).set (1+2*j+1) mp).set (1+2*j) ks=acC S T (z4N V j (ks,mp)) p:=by
 match j,hj with
 |0,_|1,_|2,_|3,_=>rfl
theorem z7K (S:Nat)(T:Int)(V:Nat->Value×Value)(p:Nat){j:Nat}(hj:j<4)(ks:Value):(acC S T V p).set (1+2*j) ks=acC S T (z4N V j (ks,(V j).2)) p:=by
 match j,hj with
 |0,_|1,_|2,_|3,_=>rfl
theorem Wr (A:Arc){j:Nat}(hj:j<4)(l:List Int):(A.Ni j l).size=A.size/\(A.Ni j l).target=A.target:=by
 match j,hj with
 |0,_|1,_|2,_|3,_=>exact⟨rfl,rfl⟩
theorem RG (h:P5 w c A V p){j:Nat}(hj:j<4):Mm Tryz.prog 152 [ptr c (1+2*j),I k] w λv w'=>v= .bool (decide (k∈A.li j))/\w'=w:=
 z7D h.LN (T8 _ _ _ _ hj).2 (h.q j hj)
theorem MT (h:P5 w c A V p){j:Nat}(hj:j<4):Mm Tryz.prog 153 [ptr c (1+2*j),I k] w λv w'=>v= .tuple #[]/\∃V',So w c V p w' (A.Ni j ((A.li j).erase k)) V':=by
 refine(z5l h.LN (T8 _ _ _ _ hj).1 (T8 _ _ _ _ hj).2 (h.q j hj) (h.nc j hj) (k:=k)).mono λv w' hv=>?_
 obtain⟨ks',rfl,hB,hq,hf,hk⟩:=hv
 rw[z7K _ _ _ _ hj] at hB
 exact⟨rfl,_,h.Xe hj hB (Wr A hj _) hq (λb hb=> .inl (hf b hb)) hk⟩
theorem Nn (h:P5 w c A V p){j:Nat}(hj:j<4)(hk:k∉A.li j)(hl:(A.li j).length<=8191):Mm Tryz.prog 157 [ptr c (1+2*j),I k] w λv w'=>v= .tuple #[]/\∃V',So w c V p w' (A.Ni j (A.li j++[k])) V':=by
 refine(z6N h.LN (T8 _ _ _ _ hj).1 (T8 _ _ _ _ hj).2 (h.q j hj) (h.nc j hj) hk hl).mono λv w' hv=>?_
 obtain⟨ks',mp',rfl,hB,hq,hf,hk⟩:=hv
 rw[z8i _ _ _ _ hj] at hB
 exact⟨rfl,_,h.Xe hj hB (Wr A hj _) hq hf hk⟩
def z2X (n:Nat):Arc:=⟨n,[],[],[],[],0⟩
theorem z8E {n:Nat}(h:1<=n):(z2X n).Ok:=⟨h,List.nodup_nil,Nat.zero_le _,Nat.zero_le _,Nat.zero_le _,⟨Int.le_refl _,by show(0:Int)<=(n:Int);omega⟩⟩
theorem z7x (n:Nat)(h1:1<=n)(h2:n<=4096)(w:World):Mm Tryz.prog 41 [I (n:Int)] w λv w'=>∃c V p,v= .tuple #[ptr c 0,I 0]/\P5 w' c (z2X n) V p/\(∀b,OY c V p b->w.heap.size<=b)/\Ext w w':=by
 refine It (e:=[(0,_)]) Tryz.func41 rfl Tryz.ntmps41 rfl rfl (qN rfl (M6 rfl (LU rfl (run_seq (qN rfl (LM rfl (Nr rfl rfl (MC (M4 rfl rfl (Nc rfl rfl (MC (ME rfl rfl (LO ?_)))))))))))))
 refine An rfl (py (qN rfl (LM rfl (LV rfl rfl (pmm) ?_))))
 rintro _ w1 ⟨p,rfl,hp,ad,cE⟩
 refine qV (OJ (cs:=[_,_,_,_,_,_,_,_,_,_,_]) zcv rfl zei rfl rfl) (LV rfl rfl (NN rfl (cs:=acC n 0 (λ_=>(.slice none 0 0,.map none)) p) rfl) ?_)
 rintro _ w2 ⟨c,rfl,hc,af,am⟩
 refine M6 rfl (LU rfl (LP Tryz.func41 rfl ?_))
 have dG:P3 KI w1 p []:=P3.new cE
 have lp:=dG.lt
 have fS:∀b,¬Fq (.slice none 0 0) (.map none) b:=λb e=>by rcases e with e|e<;>cases e
 refine⟨_,rfl,c,_,p,rfl,⟨am,λj hj=>⟨?_,?_,?_⟩,af.map dG.l,λi j hi hj bI b hb=>absurd hb (fS b),λj hj=>fS c,λj hj=>fS p,by omega⟩,λb hb=>?_,ad.trans af⟩
 ·have e:(z2X n).li j=[]:=by match j,hj with|0,_|1,_|2,_|3,_=>rfl
  rw[e];exact Sl.nil _ _ _
 ·left
  refine⟨rfl,?_⟩
  match j,hj with|0,_|1,_|2,_|3,_=>rfl
 ·have e:(z2X n).li j=[]:=by match j,hj with|0,_|1,_|2,_|3,_=>rfl
  rw[e];exact Nat.zero_le _
 ·rcases hb with e|e|⟨j,hj,hb⟩
  ·have:=ad.size;omega
  ·omega
  ·exact absurd hb (fS b)
end
section
variable {w w' w2:World}{c p:Nat}{A A' A2:Arc}{V V' V2:Nat->Value×Value}{S:Nat->Prop}{k:Int}
theorem P5.cells (h:P5 w c A V p):LX w c [I (A.size:Int),(V 0).1,(V 0).2,(V 1).1,(V 1).2,(V 2).1,(V 2).2,(V 3).1,(V 3).2,I A.target,.map (some p)] 167:=h.LN
theorem Yk (h:P5 w c A V p):Mm Tryz.prog 151 [ptr c 0,I k] w λv w'=>v= .bool (decide (k∈A.once\/k∈A.often))/\w'=w:=by
 have h0:=RG h (j:=0) (k:=k) (by decide)
 have h1:=RG h (j:=1) (k:=k) (by decide)
 rw[show A.li 0=A.once from rfl] at h0
 rw[show A.li 1=A.often from rfl] at h1
 refine It (e:=[(0,_),(1,_)]) Tryz.func151 rfl Tryz.ntmps151 rfl rfl (qN rfl (M6 rfl (qM rfl (LM rfl (qV (z0j U89 rfl rfl) (M4 rfl rfl (Mp rfl (M0 N8 rfl (LM rfl (Mb TC rfl (h0) ?_))))))))))
 rintro _ w ⟨rfl,rfl⟩
 by_cases gL:k∈A.once
 ·rw[decide_eq_true gL];refine LM rfl (qS (qS (qS (qS (qS (NB rfl rfl (NB rfl rfl (LU rfl (LP Tryz.func151 rfl ?_)))))))));exact⟨_,rfl,by rw[decide_eq_true (Or.inl gL)];rfl,rfl⟩
 ·rw[decide_eq_false gL];refine M4 rfl rfl (Mp rfl (M0 NM rfl (LM rfl (Mb TC rfl (h1) ?_))));rintro _ w ⟨rfl,rfl⟩;refine ME rfl rfl (NB rfl rfl (LU rfl (LP Tryz.func151 rfl (⟨_,rfl,?_,rfl⟩))));by_cases aK:k∈A.often
  ·simp[gL,aK,resVal]
  ·simp[gL,aK,resVal]
def TE:List Int->Value
 |[]=> .tuple #[I 0,.bool false]
 |a::_=> .tuple #[I a,.bool true]
theorem RQ (h:P5 w c A V p){j:Nat}(hj:j<4):Mm Tryz.prog 158 [ptr c 0,ptr c (1+2*j)] w λv w'=>v=TE (A.li j)/\w'=w:=by
 have hB:=h.cells
 have hg:=(T8 A.size A.target V p hj).1
 have hq:=h.q j hj
 obtain⟨ka,kc,eC,Dq⟩:∃a c,(V j).1= .slice a (A.li j).length c/\(a=none->(A.li j).length=0):=hq.sl.rd.shape
 rw[eC] at hg
 have hR:=hq.sl.rd
 have hn:=hq.n
 rw[eC] at hR
 refine It (e:=[(0,_),(1,_)]) Tryz.func158 rfl Tryz.ntmps158 rfl rfl (qN rfl (M6 rfl (LU rfl (run_seq (qN rfl (LM rfl (Mp rfl (M0 MQ rfl (qV (LR NQ rfl rfl h.LN hg) (NX NQ rfl (LM rfl (LO (LK ?_)))))))))))))
 cases hl:A.li j with
 | nil =>
   rw[hl] at hR;refine Oe (α:=Unit) (()) (λ_=>[(0,ptr c 0),(12,.slice ka 0 kc),(13,I 0),(14,I 0)]) (λ_ w'=>w'=w) (λ_=>0) ?hI ?hround
   case hI=>rfl
   case hround=>
    rintro i w2 rfl ih
    try dsimp only
    refine qN rfl (Nr rfl rfl (MC (LO (run_seq (An rfl (LW rfl (qN rfl (M6 rfl (qM rfl (LM rfl (M6 rfl (LU rfl (LP Tryz.func158 rfl ?_)))))))))))))
    exact⟨_,rfl,rfl,rfl⟩
 | cons x r =>
   rw[hl] at hR Dq hn
   obtain⟨kb,rfl⟩:∃b,ka=some b:=by
    cases ka with
    |none=>have:=Dq rfl;simp at this
    |some b=>exact⟨b,rfl⟩
   obtain⟨lb,lo,lc,e5⟩:∃b o c',Value.slice (some kb) (x::r).length kc= .slice (some ⟨b,o,none⟩) (x::r).length c':=by
    rcases hR.2 with⟨c,hc,h0⟩|⟨b,off,c',hc,-⟩
    ·simp at h0
    ·exact⟨b,off,c',hc⟩
   cases e5;have gX:0<(x::r).length:=by simp
   refine Oe (α:=Unit) (()) (λ_=>[(0,ptr c 0),(12,.slice (some ⟨lb,lo,none⟩) (x::r).length kc),(13,I ((x::r).length:Int)),(14,I ((0:Nat):Int))]) (λ_ w'=>w'=w) (λ_=>0) ?hI ?hround
   case hI=>rfl
   case hround=>
    rintro i w2 rfl ih
    try dsimp only
    refine qN rfl (Nr rfl rfl (O8 (LO (run_seq (M3 rfl (py (run_seq (LK (qN rfl (qV (MN NQ MO rfl rfl (by omega)) (qV (Mt U3 rfl rfl (MX hR (i:=0) (show((x::r).map I)[0]? =some (I x) from rfl))) (M6 rfl (qM rfl ?_)))))))))))));refine LM rfl (Mp rfl (M0 Wk rfl (qV (LR Tp rfl rfl hB rfl) (LM rfl (qV (ylk (k:=x) (K:=KI) Tp (Oy U3) MO rfl rfl h.pins) (NS rfl rfl (O8 (LO (M3 rfl (qN rfl (LM rfl (M6 rfl (LU rfl ?_)))))))))))));refine LP Tryz.func158 rfl ?_;exact⟨_,rfl,rfl,rfl⟩
theorem YY (h:P5 w c A V p)(hA:A.Ok)(cz:A.size<=1000):Mm Tryz.prog 159 [ptr c 0] w λv w'=>v= .bool (decide (A.once.length+A.often.length=A.size))/\Ext w w':=by
 have hB:=h.cells
 have hh:=hA.held
 obtain⟨a0,c0,e0,-⟩:∃a c,(V 0).1= .slice a A.once.length c/\_:=(h.q 0 (by decide)).sl.rd.shape
 obtain⟨a1,c1,e1,-⟩:∃a c,(V 1).1= .slice a A.often.length c/\_:=(h.q 1 (by decide)).sl.rd.shape
 rw[e0,e1] at hB
 have hg:=Ext.Ma w
 refine It (e:=[(0,_)]) Tryz.func159 rfl Tryz.ntmps159 rfl rfl (qN rfl (LU rfl (run_seq (NF (λw'=>Ext w w') rfl (M9 0 rfl rfl (hg) (LS 1 rfl (MS rfl) hg (LS 2 rfl (Mo N8 rfl) hg (LS 3 rfl (Mo MQ rfl) hg (qT 4 rfl (λ_ h=>LR NQ rfl rfl (h.LN hB) rfl) hg (LS 5 rfl (OZ NQ rfl) hg (M9 6 rfl rfl (hg) (LS 7 rfl (MS rfl) hg (LS 8 rfl (Mo NM rfl) hg ?_)))))))))))))
 refine LS 9 rfl (Mo MQ rfl) hg (qT 10 rfl (λ_ h=>LR NQ rfl rfl (h.LN hB) rfl) hg (LS 11 rfl (OZ NQ rfl) hg (LS 12 rfl (R9 rfl rfl (by omega)) hg (M9 13 rfl rfl (hg) (LS 14 rfl (MS rfl) hg (LS 15 rfl (Mo OO rfl) hg (qT 16 rfl (λ_ h=>LR U3 rfl rfl (h.LN hB) rfl) hg (LS 17 rfl (ZT rfl rfl) hg (LS 18 rfl (NK rfl) hg (qE (LP Tryz.func159 rfl (⟨_,rfl,?_,hg⟩))))))))))))
 show Value.bool _=Value.bool _
 congr 1
 exact decide_eq_decide.2 (by omega)
end
def O0 (hit:Bool)(g:Option Int):List Value:=[.bool hit,.bool g.isSome,I (g.getD 0)]
abbrev z9h (hit:Bool)(g:Option Int):Value:= .agg (O0 hit g).toArray
section
variable {w w' w2:World}{c p:Nat}{A A' A2:Arc}{V V' V2:Nat->Value×Value}{S:Nat->Prop}{k:Int}
theorem Arc.Ok.lens (h:A.Ok)(cz:A.size<=1000)(j:Nat):(A.li j).length<=2000:=by
 have h1:=h.held
 have h2:=h.first
 have h3:=h.total
 have h4:=A.Np
 unfold Arc.li
 split<;>omega
theorem PT (h : P5 w c A V p)(hA : A.Ok)(cz : A.size <= 1000)(bo : Bool) : Mm Tryz.prog 160 [ptr c 0, .bool bo] w λv w' => v = z9h false (A.room bo).2 /\ ∃ V', So w c V p w' (A.room bo).1 V' := by
 have iH:=hA.lens cz 2
 have mj:=hA.lens cz 3
 have J6:=hA.tg
 have gX:=hA.pos
 have ft:=hA.nd
 unfold Arc.all at ft
 rw[List.nodup_append] at ft
 obtain⟨nd1,nd2,nd3⟩:=ft
 rw[List.nodup_append] at nd2
 obtain⟨nd4,nd5,nd6⟩:=nd2
 rw[List.nodup_append] at nd5
 obtain⟨nd7,nd8,nd9⟩:=nd5
 have aP:∀{b:Nat},OY c V p b->b<w.heap.size:=h.lt
 refine It (e:=[(0,_),(1,_)]) Tryz.func160 rfl Tryz.ntmps160 rfl rfl (qN rfl (LV rfl rfl (O9 (cs:=[_,_,_]) Mr rfl) ?_))
 rintro _ w1 ⟨b4,rfl,eA,ad,aM⟩
 have oq:=h.ext ad
 have n4:∀b,OY c V p b->b≠b4:=λb hb e=>by have:=aP hb;omega
 refine LO (run_seq (qN rfl (LM rfl (Mb zal rfl (YY oq hA cz) ?_))))
 rintro _ w2 ⟨rfl,af⟩
 have bq:=af.LN aM
 have aI:=ad.trans af
 have dz:=h.ext aI
 by_cases bX:¬A.once.length+A.often.length=A.size
 ·rw[decide_eq_false bX];have j4:A.room bo=(A,none):=by unfold Arc.room;rw[if_neg bX]
  refine qV ((by first|exact ML rfl|exact Oh rfl)) ?_;refine LO (M3 rfl (qN rfl (qV (Mk (news:=O0 false none) OW rfl Mr rfl (LX.cells (n:=3) bq rfl) rfl) (M1 rfl (MD (news:=O0 false none) Mr rfl rfl rfl rfl bq (by simp)) ?_))));rintro w3 ⟨dL,ar⟩;replace dL:LX w3 b4 [.bool false,.bool false,I 0] 232:=dL;refine LO (Mj Tryz.func160 (.cell OW rfl Mr rfl (LX.cells (n:=3) dL (news:=[_,_,_]) rfl) rfl .nil) ?_);rw[j4];exact⟨_,rfl,rfl,V,dz.kp ar (λb hb=>n4 b hb),λb hb=> .inl hb,(aI.LJ ar (λj e=>by omega)).kp⟩
 ·have bX := Classical.not_not.1 bX; rw [decide_eq_true bX]; refine qV ((by first | exact ML rfl | exact Oh rfl)) ?_; refine LO (An rfl ?_); have am := dz.cells; obtain ⟨a0, c0, e0, -⟩ : ∃ a c, (V 0).1 = .slice a A.once.length c /\ _ := (h.q 0 (by decide)).sl.rd.shape; rw [e0] at am; have f0 := RQ dz (j := 0) (by decide); have f1 := RQ dz (j := 1) (by decide); rw [show A.li 0 = A.once from rfl] at f0; rw [show A.li 1 = A.often from rfl] at f1
  cases ho:A.once with
  | nil =>
    cases hf:A.often with
    | nil =>
      exfalso;rw[ho,hf] at bX;simp at bX
      omega
    | cons x1 r1 =>
      have j4:A.room bo=({A with often:=r1,M5:=A.M5++[x1]},some x1):=by unfold Arc.room;rw[if_pos bX,ho,hf]
      have J7:A.once.length=0:=by rw[ho];rfl
      have g0:TE A.once= .tuple #[I 0,.bool false]:=by rw[ho];rfl
      have g1:TE A.often= .tuple #[I x1,.bool true]:=by rw[hf];rfl
      rw[g0] at f0;rw[g1] at f1;refine py (qN rfl (M4 rfl rfl (Mp rfl (M0 N8 rfl (Mb Ux rfl (f0) ?_)))));rintro _ w2 ⟨rfl,rfl⟩;refine LM rfl (qV (NO (v:=I 0) rfl rfl) (qV (NO (v:= .bool false) rfl rfl) (M6 rfl (M6 rfl (qM rfl (M4 rfl rfl (Mp rfl (M0 NM rfl (Mb Ux rfl (f1) ?_)))))))));rintro _ w2 ⟨rfl,rfl⟩;refine LM rfl (qV (NO (v:=I x1) rfl rfl) (qV (NO (v:= .bool true) rfl rfl) (M6 rfl (LU rfl (Mn.qb (e:=[(0,_),(1,_),(4,_),(5,_),(6,_),(7,_),(8,_)]) ?_)))));refine qN rfl (LM rfl (Mp rfl (M0 N8 rfl (M0 MQ rfl (qV (LR NQ rfl rfl am rfl) (NX NQ rfl (M6 rfl (qM rfl (LM rfl (PQ rfl rfl (MC (LM rfl (qS ?_)))))))))))));refine qS (qS (qS (qS (qS (qS (qS (qS (qS (qS (qS (qS (qS (qS ?_)))))))))))));refine qS (qS (ME rfl rfl (LU rfl (Mn.qb (e:=[(0,_),(4,_),(5,_),(6,_),(7,_),(8,_),(10,_)]) ?_))));refine run_seq (qN rfl (M4 rfl rfl (qS (ME rfl rfl (M4 rfl rfl (qV ((by first|exact ML rfl|exact Oh rfl)) ?_))))));refine M4 rfl rfl (qV ((by first|exact ML rfl|exact Oh rfl)) ?_);refine NB rfl rfl (ME rfl rfl (LO (An rfl (py (qN rfl (LM rfl (Mp rfl (M0 NM rfl (LM rfl (Mb P9 rfl (MT dz (j:=1) (k:=x1) (by decide)) ?_))))))))));rintro _ w3 ⟨rfl,V3,c6⟩;have gm:(A.li 1).erase x1=r1:=by show A.often.erase x1=r1;rw[hf];simp
      rw[gm] at c6
      have dA:x1∉(A.Ni 1 r1).li 3:=by
       show x1∉A.M5;intro e;exact nd6 x1 (by rw[hf];simp) x1 (by simp[e]) rfl
      refine qM rfl (LM rfl (Mp rfl (M0 NH rfl (LM rfl (Mb PL rfl (Nn c6.m (j:=3) (k:=x1) (by decide) dA (by show A.M5.length<=_;exact Nat.le_trans mj (by decide))) ?_)))));rintro _ w4 ⟨rfl,V4,bD⟩;have hr:=(dz.r (Ext.refl w2)).trans (c6.trans bD);have cq:=hr.k.LN bq (λe=>n4 _ e rfl);refine LO (Mn.qb (e:=[(4,_),(7,_)]) ?_);refine qN rfl (LM rfl (qV (OJ (cs:=[_,_,_]) Mr rfl Sg rfl rfl) (M1 rfl (MD (news:=O0 false (some x1)) Mr rfl rfl rfl rfl cq (by simp)) ?_)));rintro w5 ⟨aJ,aj⟩;replace aJ:LX w5 b4 [.bool false,.bool true,I x1] 232:=aJ;refine LO (Mj Tryz.func160 (.cell OW rfl Mr rfl (LX.cells (n:=3) aJ (news:=[_,_,_]) rfl) rfl .nil) ?_)
      have dO:∀b,OY c V4 p b->b≠b4:=λb hb e=>by
       rcases hr.fp b hb with h5|h5
       ·exact n4 b h5 e
       ·have:=bq.lt;omega
      rw[j4]
      exact⟨_,rfl,rfl,V4,hr.m.kp aj dO,λb hb=>(hr.fp b hb).imp id (λe=>by have:=aI.size;omega),(aI.kp.trans hr.k).LJ aj (λj e=> .inl (by omega))⟩
  | cons x0 r0 =>
    have J7:1<=A.once.length:=by rw[ho];simp
    cases hf:A.often with
    | nil =>
      have j4:A.room bo=({A with once:=r0,M8:=A.M8++[x0]},some x0):=by unfold Arc.room;rw[if_pos bX,ho,hf]
      have g0:TE A.once= .tuple #[I x0,.bool true]:=by rw[ho];rfl
      have g1:TE A.often= .tuple #[I 0,.bool false]:=by rw[hf];rfl
      rw[g0] at f0;rw[g1] at f1;refine py (qN rfl (M4 rfl rfl (Mp rfl (M0 N8 rfl (Mb Ux rfl (f0) ?_)))));rintro _ w2 ⟨rfl,rfl⟩;refine LM rfl (qV (NO (v:=I x0) rfl rfl) (qV (NO (v:= .bool true) rfl rfl) (M6 rfl (M6 rfl (qM rfl (M4 rfl rfl (Mp rfl (M0 NM rfl (Mb Ux rfl (f1) ?_)))))))));rintro _ w2 ⟨rfl,rfl⟩;refine LM rfl (qV (NO (v:=I 0) rfl rfl) (qV (NO (v:= .bool false) rfl rfl) (M6 rfl (LU rfl (Mn.qb (e:=[(0,_),(1,_),(4,_),(5,_),(6,_),(7,_),(8,_)]) ?_)))));refine qN rfl (LM rfl (Mp rfl (M0 N8 rfl (M0 MQ rfl (qV (LR NQ rfl rfl am rfl) (NX NQ rfl (M6 rfl (qM rfl (LM rfl (PQ rfl rfl (O8 (LM rfl ?_))))))))))))
      by_cases h1:(A.once.length:Int)>A.target
      ·skip
       refine M4 rfl rfl (Mp rfl (M0 NG rfl (qV (LR U3 rfl rfl am rfl) (Nc rfl rfl (O8 (LM rfl (qS (qS (qS (qS (qS (qS (qS ?_)))))))))))));refine qS (qS (NB rfl rfl (NB rfl rfl (LU rfl (Mn.qb (e:=[(0,_),(4,_),(5,_),(6,_),(7,_),(8,_),(10,_)]) ?_)))));refine run_seq (qN rfl (M4 rfl rfl (LM rfl (NB rfl rfl (LM rfl (qS (qS (qS (qS (qS (qS (NB rfl rfl (LO ?_)))))))))))));refine M3 rfl (qN rfl (LM rfl (Mp rfl (M0 N8 rfl (LM rfl (Mb P9 rfl (MT dz (j:=0) (k:=x0) (by decide)) ?_))))));rintro _ w3 ⟨rfl,V3,c6⟩;have gm:(A.li 0).erase x0=r0:=by show A.once.erase x0=r0;rw[ho];simp
       rw[gm] at c6
       have dA:x0∉(A.Ni 0 r0).li 2:=by
        show x0∉A.M8;intro e;exact nd3 x0 (by rw[ho];simp) x0 (by simp[e]) rfl
       refine qM rfl (LM rfl (Mp rfl (M0 Nl rfl (LM rfl (Mb PL rfl (Nn c6.m (j:=2) (k:=x0) (by decide) dA (by show A.M8.length<=_;exact Nat.le_trans iH (by decide))) ?_)))));rintro _ w4 ⟨rfl,V4,bD⟩;have hr:=(dz.r (Ext.refl w2)).trans (c6.trans bD);have cq:=hr.k.LN bq (λe=>n4 _ e rfl);refine LO (Mn.qb (e:=[(0,_),(4,_),(5,_),(7,_)]) ?_);refine qN rfl (LM rfl (qV (OJ (cs:=[_,_,_]) Mr rfl Sg rfl rfl) (M1 rfl (MD (news:=O0 false (some x0)) Mr rfl rfl rfl rfl cq (by simp)) ?_)));rintro w5 ⟨aJ,aj⟩;replace aJ:LX w5 b4 [.bool false,.bool true,I x0] 232:=aJ;refine LO (Mj Tryz.func160 (.cell OW rfl Mr rfl (LX.cells (n:=3) aJ (news:=[_,_,_]) rfl) rfl .nil) ?_)
       have dO:∀b,OY c V4 p b->b≠b4:=λb hb e=>by
        rcases hr.fp b hb with h5|h5
        ·exact n4 b h5 e
        ·have:=bq.lt;omega
       rw[j4];exact⟨_,rfl,rfl,V4,hr.m.kp aj dO,λb hb=>(hr.fp b hb).imp id (λe=>by have:=aI.size;omega),(aI.kp.trans hr.k).LJ aj (λj e=> .inl (by omega))⟩
      ·refine M4 rfl rfl (Mp rfl (M0 NG rfl (qV (LR U3 rfl rfl am rfl) (Nc rfl rfl (MC (LM rfl ?_))))));by_cases h2:(A.once.length:Int)=A.target
       ·refine M4 rfl rfl (Mp rfl (M0 NG rfl (qV (LR U3 rfl rfl am rfl) (NS rfl rfl (O8 (LM rfl ?_))))))
        cases bo with
        | true =>
          refine LM rfl ?_
          skip
          refine NB rfl rfl (ME rfl rfl (NB rfl rfl (LU rfl (Mn.qb (e:=[(0,_),(4,_),(5,_),(6,_),(7,_),(8,_),(10,_)]) ?_))));refine run_seq (qN rfl (M4 rfl rfl (LM rfl (NB rfl rfl (LM rfl (qS (qS (qS (qS (qS (qS (NB rfl rfl (LO ?_)))))))))))));refine M3 rfl (qN rfl (LM rfl (Mp rfl (M0 N8 rfl (LM rfl (Mb P9 rfl (MT dz (j:=0) (k:=x0) (by decide)) ?_))))));rintro _ w3 ⟨rfl,V3,c6⟩;have gm:(A.li 0).erase x0=r0:=by show A.once.erase x0=r0;rw[ho];simp
          rw[gm] at c6
          have dA:x0∉(A.Ni 0 r0).li 2:=by
           show x0∉A.M8;intro e;exact nd3 x0 (by rw[ho];simp) x0 (by simp[e]) rfl
          refine qM rfl (LM rfl (Mp rfl (M0 Nl rfl (LM rfl (Mb PL rfl (Nn c6.m (j:=2) (k:=x0) (by decide) dA (by show A.M8.length<=_;exact Nat.le_trans iH (by decide))) ?_)))));rintro _ w4 ⟨rfl,V4,bD⟩;have hr:=(dz.r (Ext.refl w2)).trans (c6.trans bD);have cq:=hr.k.LN bq (λe=>n4 _ e rfl);refine LO (Mn.qb (e:=[(0,_),(4,_),(5,_),(7,_)]) ?_);refine qN rfl (LM rfl (qV (OJ (cs:=[_,_,_]) Mr rfl Sg rfl rfl) (M1 rfl (MD (news:=O0 false (some x0)) Mr rfl rfl rfl rfl cq (by simp)) ?_)));rintro w5 ⟨aJ,aj⟩;replace aJ:LX w5 b4 [.bool false,.bool true,I x0] 232:=aJ;refine LO (Mj Tryz.func160 (.cell OW rfl Mr rfl (LX.cells (n:=3) aJ (news:=[_,_,_]) rfl) rfl .nil) ?_)
          have dO:∀b,OY c V4 p b->b≠b4:=λb hb e=>by
           rcases hr.fp b hb with h5|h5
           ·exact n4 b h5 e
           ·have:=bq.lt;omega
          rw[j4]
          exact⟨_,rfl,rfl,V4,hr.m.kp aj dO,λb hb=>(hr.fp b hb).imp id (λe=>by have:=aI.size;omega),(aI.kp.trans hr.k).LJ aj (λj e=> .inl (by omega))⟩
        | false =>
          refine LM rfl ?_
          skip
          refine NB rfl rfl (ME rfl rfl (NB rfl rfl (LU rfl (Mn.qb (e:=[(0,_),(4,_),(5,_),(6,_),(7,_),(8,_),(10,_)]) ?_))));refine run_seq (qN rfl (M4 rfl rfl (qS (ME rfl rfl (M4 rfl rfl (qV ((by first|exact ML rfl|exact Oh rfl)) ?_))))));refine M4 rfl rfl (qV ((by first|exact ML rfl|exact Oh rfl)) ?_);refine NB rfl rfl (ME rfl rfl (LO (M3 rfl (qN rfl (LM rfl (Mp rfl (M0 N8 rfl (LM rfl (Mb P9 rfl (MT dz (j:=0) (k:=x0) (by decide)) ?_)))))))));rintro _ w3 ⟨rfl,V3,c6⟩;have gm:(A.li 0).erase x0=r0:=by show A.once.erase x0=r0;rw[ho];simp
          rw[gm] at c6
          have dA:x0∉(A.Ni 0 r0).li 2:=by
           show x0∉A.M8;intro e;exact nd3 x0 (by rw[ho];simp) x0 (by simp[e]) rfl
          refine qM rfl (LM rfl (Mp rfl (M0 Nl rfl (LM rfl (Mb PL rfl (Nn c6.m (j:=2) (k:=x0) (by decide) dA (by show A.M8.length<=_;exact Nat.le_trans iH (by decide))) ?_)))));rintro _ w4 ⟨rfl,V4,bD⟩;have hr:=(dz.r (Ext.refl w2)).trans (c6.trans bD);have cq:=hr.k.LN bq (λe=>n4 _ e rfl);refine LO (Mn.qb (e:=[(0,_),(4,_),(5,_),(7,_)]) ?_);refine qN rfl (LM rfl (qV (OJ (cs:=[_,_,_]) Mr rfl Sg rfl rfl) (M1 rfl (MD (news:=O0 false (some x0)) Mr rfl rfl rfl rfl cq (by simp)) ?_)));rintro w5 ⟨aJ,aj⟩;replace aJ:LX w5 b4 [.bool false,.bool true,I x0] 232:=aJ;refine LO (Mj Tryz.func160 (.cell OW rfl Mr rfl (LX.cells (n:=3) aJ (news:=[_,_,_]) rfl) rfl .nil) ?_)
          have dO:∀b,OY c V4 p b->b≠b4:=λb hb e=>by
           rcases hr.fp b hb with h5|h5
           ·exact n4 b h5 e
           ·have:=bq.lt;omega
          rw[j4];exact⟨_,rfl,rfl,V4,hr.m.kp aj dO,λb hb=>(hr.fp b hb).imp id (λe=>by have:=aI.size;omega),(aI.kp.trans hr.k).LJ aj (λj e=> .inl (by omega))⟩
       ·refine M4 rfl rfl (Mp rfl (M0 NG rfl (qV (LR U3 rfl rfl am rfl) (NS rfl rfl (MC (LM rfl ?_))))))
        skip
        refine qS (ME rfl rfl (ME rfl rfl (NB rfl rfl (LU rfl (Mn.qb (e:=[(0,_),(4,_),(5,_),(6,_),(7,_),(8,_),(10,_)]) ?_)))));refine run_seq (qN rfl (M4 rfl rfl (qS (ME rfl rfl (M4 rfl rfl (qV ((by first|exact ML rfl|exact Oh rfl)) ?_))))));refine M4 rfl rfl (qV ((by first|exact ML rfl|exact Oh rfl)) ?_);refine NB rfl rfl (ME rfl rfl (LO (M3 rfl (qN rfl (LM rfl (Mp rfl (M0 N8 rfl (LM rfl (Mb P9 rfl (MT dz (j:=0) (k:=x0) (by decide)) ?_)))))))));rintro _ w3 ⟨rfl,V3,c6⟩;have gm:(A.li 0).erase x0=r0:=by show A.once.erase x0=r0;rw[ho];simp
        rw[gm] at c6
        have dA:x0∉(A.Ni 0 r0).li 2:=by
         show x0∉A.M8;intro e;exact nd3 x0 (by rw[ho];simp) x0 (by simp[e]) rfl
        refine qM rfl (LM rfl (Mp rfl (M0 Nl rfl (LM rfl (Mb PL rfl (Nn c6.m (j:=2) (k:=x0) (by decide) dA (by show A.M8.length<=_;exact Nat.le_trans iH (by decide))) ?_)))));rintro _ w4 ⟨rfl,V4,bD⟩;have hr:=(dz.r (Ext.refl w2)).trans (c6.trans bD);have cq:=hr.k.LN bq (λe=>n4 _ e rfl);refine LO (Mn.qb (e:=[(0,_),(4,_),(5,_),(7,_)]) ?_);refine qN rfl (LM rfl (qV (OJ (cs:=[_,_,_]) Mr rfl Sg rfl rfl) (M1 rfl (MD (news:=O0 false (some x0)) Mr rfl rfl rfl rfl cq (by simp)) ?_)));rintro w5 ⟨aJ,aj⟩;replace aJ:LX w5 b4 [.bool false,.bool true,I x0] 232:=aJ;refine LO (Mj Tryz.func160 (.cell OW rfl Mr rfl (LX.cells (n:=3) aJ (news:=[_,_,_]) rfl) rfl .nil) ?_)
        have dO:∀b,OY c V4 p b->b≠b4:=λb hb e=>by
         rcases hr.fp b hb with h5|h5
         ·exact n4 b h5 e
         ·have:=bq.lt;omega
        rw[j4]
        exact⟨_,rfl,rfl,V4,hr.m.kp aj dO,λb hb=>(hr.fp b hb).imp id (λe=>by have:=aI.size;omega),(aI.kp.trans hr.k).LJ aj (λj e=> .inl (by omega))⟩
    | cons x1 r1 =>
      have g0:TE A.once= .tuple #[I x0,.bool true]:=by rw[ho];rfl
      have g1:TE A.often= .tuple #[I x1,.bool true]:=by rw[hf];rfl
      rw[g0] at f0;rw[g1] at f1;refine py (qN rfl (M4 rfl rfl (Mp rfl (M0 N8 rfl (Mb Ux rfl (f0) ?_)))));rintro _ w2 ⟨rfl,rfl⟩;refine LM rfl (qV (NO (v:=I x0) rfl rfl) (qV (NO (v:= .bool true) rfl rfl) (M6 rfl (M6 rfl (qM rfl (M4 rfl rfl (Mp rfl (M0 NM rfl (Mb Ux rfl (f1) ?_)))))))));rintro _ w2 ⟨rfl,rfl⟩;refine LM rfl (qV (NO (v:=I x1) rfl rfl) (qV (NO (v:= .bool true) rfl rfl) (M6 rfl (LU rfl (Mn.qb (e:=[(0,_),(1,_),(4,_),(5,_),(6,_),(7,_),(8,_)]) ?_)))));refine qN rfl (LM rfl (Mp rfl (M0 N8 rfl (M0 MQ rfl (qV (LR NQ rfl rfl am rfl) (NX NQ rfl (M6 rfl (qM rfl (LM rfl (PQ rfl rfl (O8 (LM rfl ?_))))))))))))
      by_cases h1:(A.once.length:Int)>A.target
      ·have j4:A.room bo=({A with once:=r0,M8:=A.M8++[x0]},some x0):=by unfold Arc.room;rw[if_pos bX,ho,hf];exact if_pos (by rw[<-ho];exact .inl h1)
       refine M4 rfl rfl (Mp rfl (M0 NG rfl (qV (LR U3 rfl rfl am rfl) (Nc rfl rfl (O8 (LM rfl (qS (qS (qS (qS (qS (qS (qS ?_)))))))))))));refine qS (qS (NB rfl rfl (NB rfl rfl (LU rfl (Mn.qb (e:=[(0,_),(4,_),(5,_),(6,_),(7,_),(8,_),(10,_)]) ?_)))));refine run_seq (qN rfl (M4 rfl rfl (LM rfl (NB rfl rfl (LM rfl (qS (qS (qS (qS (qS (qS (NB rfl rfl (LO ?_)))))))))))));refine M3 rfl (qN rfl (LM rfl (Mp rfl (M0 N8 rfl (LM rfl (Mb P9 rfl (MT dz (j:=0) (k:=x0) (by decide)) ?_))))));rintro _ w3 ⟨rfl,V3,c6⟩;have gm:(A.li 0).erase x0=r0:=by show A.once.erase x0=r0;rw[ho];simp
       rw[gm] at c6
       have dA:x0∉(A.Ni 0 r0).li 2:=by
        show x0∉A.M8;intro e;exact nd3 x0 (by rw[ho];simp) x0 (by simp[e]) rfl
       refine qM rfl (LM rfl (Mp rfl (M0 Nl rfl (LM rfl (Mb PL rfl (Nn c6.m (j:=2) (k:=x0) (by decide) dA (by show A.M8.length<=_;exact Nat.le_trans iH (by decide))) ?_)))));rintro _ w4 ⟨rfl,V4,bD⟩;have hr:=(dz.r (Ext.refl w2)).trans (c6.trans bD);have cq:=hr.k.LN bq (λe=>n4 _ e rfl);refine LO (Mn.qb (e:=[(0,_),(4,_),(5,_),(7,_)]) ?_);refine qN rfl (LM rfl (qV (OJ (cs:=[_,_,_]) Mr rfl Sg rfl rfl) (M1 rfl (MD (news:=O0 false (some x0)) Mr rfl rfl rfl rfl cq (by simp)) ?_)));rintro w5 ⟨aJ,aj⟩;replace aJ:LX w5 b4 [.bool false,.bool true,I x0] 232:=aJ;refine LO (Mj Tryz.func160 (.cell OW rfl Mr rfl (LX.cells (n:=3) aJ (news:=[_,_,_]) rfl) rfl .nil) ?_)
       have dO:∀b,OY c V4 p b->b≠b4:=λb hb e=>by
        rcases hr.fp b hb with h5|h5
        ·exact n4 b h5 e
        ·have:=bq.lt;omega
       rw[j4];exact⟨_,rfl,rfl,V4,hr.m.kp aj dO,λb hb=>(hr.fp b hb).imp id (λe=>by have:=aI.size;omega),(aI.kp.trans hr.k).LJ aj (λj e=> .inl (by omega))⟩
      ·refine M4 rfl rfl (Mp rfl (M0 NG rfl (qV (LR U3 rfl rfl am rfl) (Nc rfl rfl (MC (LM rfl ?_))))));by_cases h2:(A.once.length:Int)=A.target
       ·refine M4 rfl rfl (Mp rfl (M0 NG rfl (qV (LR U3 rfl rfl am rfl) (NS rfl rfl (O8 (LM rfl ?_))))))
        cases bo with
        | true =>
          refine LM rfl ?_;have j4:A.room true=({A with once:=r0,M8:=A.M8++[x0]},some x0):=by unfold Arc.room;rw[if_pos bX,ho,hf];exact if_pos (by rw[<-ho];exact .inr ⟨h2,rfl⟩)
          refine NB rfl rfl (ME rfl rfl (NB rfl rfl (LU rfl (Mn.qb (e:=[(0,_),(4,_),(5,_),(6,_),(7,_),(8,_),(10,_)]) ?_))));refine run_seq (qN rfl (M4 rfl rfl (LM rfl (NB rfl rfl (LM rfl (qS (qS (qS (qS (qS (qS (NB rfl rfl (LO ?_)))))))))))));refine M3 rfl (qN rfl (LM rfl (Mp rfl (M0 N8 rfl (LM rfl (Mb P9 rfl (MT dz (j:=0) (k:=x0) (by decide)) ?_))))));rintro _ w3 ⟨rfl,V3,c6⟩;have gm:(A.li 0).erase x0=r0:=by show A.once.erase x0=r0;rw[ho];simp
          rw[gm] at c6
          have dA:x0∉(A.Ni 0 r0).li 2:=by
           show x0∉A.M8;intro e;exact nd3 x0 (by rw[ho];simp) x0 (by simp[e]) rfl
          refine qM rfl (LM rfl (Mp rfl (M0 Nl rfl (LM rfl (Mb PL rfl (Nn c6.m (j:=2) (k:=x0) (by decide) dA (by show A.M8.length<=_;exact Nat.le_trans iH (by decide))) ?_)))));rintro _ w4 ⟨rfl,V4,bD⟩;have hr:=(dz.r (Ext.refl w2)).trans (c6.trans bD);have cq:=hr.k.LN bq (λe=>n4 _ e rfl);refine LO (Mn.qb (e:=[(0,_),(4,_),(5,_),(7,_)]) ?_);refine qN rfl (LM rfl (qV (OJ (cs:=[_,_,_]) Mr rfl Sg rfl rfl) (M1 rfl (MD (news:=O0 false (some x0)) Mr rfl rfl rfl rfl cq (by simp)) ?_)));rintro w5 ⟨aJ,aj⟩;replace aJ:LX w5 b4 [.bool false,.bool true,I x0] 232:=aJ;refine LO (Mj Tryz.func160 (.cell OW rfl Mr rfl (LX.cells (n:=3) aJ (news:=[_,_,_]) rfl) rfl .nil) ?_)
          have dO:∀b,OY c V4 p b->b≠b4:=λb hb e=>by
           rcases hr.fp b hb with h5|h5
           ·exact n4 b h5 e
           ·have:=bq.lt;omega
          rw[j4]
          exact⟨_,rfl,rfl,V4,hr.m.kp aj dO,λb hb=>(hr.fp b hb).imp id (λe=>by have:=aI.size;omega),(aI.kp.trans hr.k).LJ aj (λj e=> .inl (by omega))⟩
        | false =>
          refine LM rfl ?_;have j4:A.room false=({A with often:=r1,M5:=A.M5++[x1]},some x1):=by unfold Arc.room;rw[if_pos bX,ho,hf];exact if_neg (by rw[<-ho];rintro(e|⟨e,e2⟩);exact h1 e;cases e2)
          refine NB rfl rfl (ME rfl rfl (NB rfl rfl (LU rfl (Mn.qb (e:=[(0,_),(4,_),(5,_),(6,_),(7,_),(8,_),(10,_)]) ?_))));refine run_seq (qN rfl (M4 rfl rfl (qS (ME rfl rfl (M4 rfl rfl (qV ((by first|exact ML rfl|exact Oh rfl)) ?_))))));refine M4 rfl rfl (qV ((by first|exact ML rfl|exact Oh rfl)) ?_);refine NB rfl rfl (ME rfl rfl (LO (An rfl (py (qN rfl (LM rfl (Mp rfl (M0 NM rfl (LM rfl (Mb P9 rfl (MT dz (j:=1) (k:=x1) (by decide)) ?_))))))))));rintro _ w3 ⟨rfl,V3,c6⟩;have gm:(A.li 1).erase x1=r1:=by show A.often.erase x1=r1;rw[hf];simp
          rw[gm] at c6
          have dA:x1∉(A.Ni 1 r1).li 3:=by
           show x1∉A.M5;intro e;exact nd6 x1 (by rw[hf];simp) x1 (by simp[e]) rfl
          refine qM rfl (LM rfl (Mp rfl (M0 NH rfl (LM rfl (Mb PL rfl (Nn c6.m (j:=3) (k:=x1) (by decide) dA (by show A.M5.length<=_;exact Nat.le_trans mj (by decide))) ?_)))));rintro _ w4 ⟨rfl,V4,bD⟩;have hr:=(dz.r (Ext.refl w2)).trans (c6.trans bD);have cq:=hr.k.LN bq (λe=>n4 _ e rfl);refine LO (Mn.qb (e:=[(4,_),(7,_)]) ?_);refine qN rfl (LM rfl (qV (OJ (cs:=[_,_,_]) Mr rfl Sg rfl rfl) (M1 rfl (MD (news:=O0 false (some x1)) Mr rfl rfl rfl rfl cq (by simp)) ?_)));rintro w5 ⟨aJ,aj⟩;replace aJ:LX w5 b4 [.bool false,.bool true,I x1] 232:=aJ;refine LO (Mj Tryz.func160 (.cell OW rfl Mr rfl (LX.cells (n:=3) aJ (news:=[_,_,_]) rfl) rfl .nil) ?_)
          have dO:∀b,OY c V4 p b->b≠b4:=λb hb e=>by
           rcases hr.fp b hb with h5|h5
           ·exact n4 b h5 e
           ·have:=bq.lt;omega
          rw[j4];exact⟨_,rfl,rfl,V4,hr.m.kp aj dO,λb hb=>(hr.fp b hb).imp id (λe=>by have:=aI.size;omega),(aI.kp.trans hr.k).LJ aj (λj e=> .inl (by omega))⟩
       ·refine M4 rfl rfl (Mp rfl (M0 NG rfl (qV (LR U3 rfl rfl am rfl) (NS rfl rfl (MC (LM rfl ?_))))));have j4:A.room bo=({A with often:=r1,M5:=A.M5++[x1]},some x1):=by unfold Arc.room;rw[if_pos bX,ho,hf];exact if_neg (by rw[<-ho];rintro(e|⟨e,e2⟩);exact h1 e;exact h2 e)
        refine qS (ME rfl rfl (ME rfl rfl (NB rfl rfl (LU rfl (Mn.qb (e:=[(0,_),(4,_),(5,_),(6,_),(7,_),(8,_),(10,_)]) ?_)))));refine run_seq (qN rfl (M4 rfl rfl (qS (ME rfl rfl (M4 rfl rfl (qV ((by first|exact ML rfl|exact Oh rfl)) ?_))))));refine M4 rfl rfl (qV ((by first|exact ML rfl|exact Oh rfl)) ?_);refine NB rfl rfl (ME rfl rfl (LO (An rfl (py (qN rfl (LM rfl (Mp rfl (M0 NM rfl (LM rfl (Mb P9 rfl (MT dz (j:=1) (k:=x1) (by decide)) ?_))))))))));rintro _ w3 ⟨rfl,V3,c6⟩;have gm:(A.li 1).erase x1=r1:=by show A.often.erase x1=r1;rw[hf];simp
        rw[gm] at c6
        have dA:x1∉(A.Ni 1 r1).li 3:=by
         show x1∉A.M5;intro e;exact nd6 x1 (by rw[hf];simp) x1 (by simp[e]) rfl
        refine qM rfl (LM rfl (Mp rfl (M0 NH rfl (LM rfl (Mb PL rfl (Nn c6.m (j:=3) (k:=x1) (by decide) dA (by show A.M5.length<=_;exact Nat.le_trans mj (by decide))) ?_)))));rintro _ w4 ⟨rfl,V4,bD⟩;have hr:=(dz.r (Ext.refl w2)).trans (c6.trans bD);have cq:=hr.k.LN bq (λe=>n4 _ e rfl);refine LO (Mn.qb (e:=[(4,_),(7,_)]) ?_);refine qN rfl (LM rfl (qV (OJ (cs:=[_,_,_]) Mr rfl Sg rfl rfl) (M1 rfl (MD (news:=O0 false (some x1)) Mr rfl rfl rfl rfl cq (by simp)) ?_)));rintro w5 ⟨aJ,aj⟩;replace aJ:LX w5 b4 [.bool false,.bool true,I x1] 232:=aJ;refine LO (Mj Tryz.func160 (.cell OW rfl Mr rfl (LX.cells (n:=3) aJ (news:=[_,_,_]) rfl) rfl .nil) ?_)
        have dO:∀b,OY c V4 p b->b≠b4:=λb hb e=>by
         rcases hr.fp b hb with h5|h5
         ·exact n4 b h5 e
         ·have:=bq.lt;omega
        rw[j4];exact⟨_,rfl,rfl,V4,hr.m.kp aj dO,λb hb=>(hr.fp b hb).imp id (λe=>by have:=aI.size;omega),(aI.kp.trans hr.k).LJ aj (λj e=> .inl (by omega))⟩
end
end Go.Proofs.YtpldpcjdjcgicaaGreatDoor
