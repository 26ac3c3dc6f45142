/- Texts WkB, WkC, WkD, WkE, WkF, ExA, ExB, ExC, ExD, DwP, DwA, DwB, DwC, DwD, DwE, DwF, DwG, DwJ, ArA, ArB, ArC, one behind the other (what the statement BfsShortest does not use is left out). -/
import Derived.Test.YtpldpcjdjcgicaaGreatDoorBSp2
import Derived.Test.YtpldpcjdjcgicaaGreatDoorBSp5
import Derived.Test.YtpldpcjdjcgicaaGreatDoorBSp1
set_option maxHeartbeats 16000000
namespace Go.Proofs.YtpldpcjdjcgicaaGreatDoor
open Go Go.RowKit
set_option linter.all false
set_option maxRecDepth 100000
def QR (p:LW)(g:List (List Nat))(E:List (Nat×Nat)):PHd:=⟨g.length,M1 g,p,(M7 p g E g.length).length⟩
def Wr (p:LW)(g:List (List Nat))(E:List (Nat×Nat)):Fm:=OW (g.length+1) ((M7 p g E g.length).length+1)
structure NY (p:LW)(g:List (List Nat))(E:List (Nat×Nat)):Prop where
 M3:p.M3
 gr:N2 g
 n1:1<=g.length
 pk:z6f p g E
section
variable {p:LW}{g:List (List Nat)}{E:List (Nat×Nat)}
theorem NY.head (h:NY p g E):(QR p g E).M3:=by
 have hn:=h.gr.n
 have hb:=h.pk.bits
 have sg:=OV h.gr g.length
 rw[List.take_length] at sg
 exact⟨h.n1,(by show g.length<=_;omega),(by show M1 g<=_;omega),(by show(M7 p g E g.length).length<=_;omega),h.M3⟩
theorem NY.ef (h:NY p g E):Qp (R7 p g E g.length) (Wr p g E) (M7 p g E g.length).length:=by
 have hn:=h.gr.n
 have hb:=h.pk.bits
 have aD:=Y3 p g E g.length
 refine⟨by omega,by omega,z1K p g E g.length,?_,by omega,?_⟩
 ·rw[aD,Nat.add_sub_cancel];exact UP p g E (Nat.le_refl g.length)
 ·rw[aD];rfl
def R5 (p:LW)(g:List (List Nat))(E:List (Nat×Nat)):Nat:=28+((M7 p g E g.length).length+7) / 8
theorem NY.len (h:NY p g E):(Sy p g E).length=R5 p g E+(Wr p g E).size:=by
 unfold Sy R5
 rw[List.length_append,List.length_append,RJ,Lq]
 have:=h.ef.len
 show _+(T6 (R7 p g E g.length) (Wr p g E)).length=_
 rw[this]
theorem NY.small (h:NY p g E):(Sy p g E).length<=50000000/\40<=(Sy p g E).length:=by
 have h1:=h.ef.size_le
 have h2:=h.len
 have h3:=h.pk.bits
 unfold R5 at h2
 omega
theorem z73:((Sy p g E).drop 0).take 28=hdT (QR p g E):=by
 unfold Sy
 rw[List.drop_zero,List.append_assoc,<-RJ (QR p g E)]
 exact List.take_left
theorem NY.index (h:NY p g E):((Sy p g E).drop (R5 p g E)).take (Wr p g E).size=T6 (R7 p g E g.length) (Wr p g E):=by
 have h1:(hdT (QR p g E)++Lg (M7 p g E g.length)).length=R5 p g E:=by
  rw[List.length_append,RJ,Lq];rfl
 have h2:=h.ef.len
 unfold Sy
 show((hdT (QR p g E)++Lg (M7 p g E g.length)++T6 (R7 p g E g.length) (Wr p g E)).drop _).take _=_
 rw[<-h1,List.drop_left,<-h2,List.take_length]
theorem z6v (h:NY p g E)(a n:Nat)(hn:8*(a+n)<=(M7 p g E g.length).length+7):((Sy p g E).drop (28+a)).take n=((Lg (M7 p g E g.length)).drop a).take n:=by
 unfold Sy
 exact piece (by rw[RJ]) (by rw[Lq];omega)
end
def gwC (h:PHd)(t:TypeId)(u:Value)(x:Nat):List Value:=[I (h.n:Int),I (h.m:Int),I (h.p.Lf:Int),I (h.p.chain:Int),I (h.p.interval:Int),I (h.p.zeta:Int),I (h.p.most:Int),I (h.bits:Int),.iface t u,ptr x 0]
theorem z0G {t:TypeId}{u:Value}{p:LW}{g:List (List Nat)}{E:List (Nat×Nat)}(hp:NY p g E)(R:Src t u (Sy p g E)){X:Nat->Prop}{w:World}(hI:R.inv X w)(hX:∀k,X k->k<w.heap.size):
  Lk Tryz.prog 82 [.iface t u] w fun v w'=>∃k x,v= .tuple #[ptr k 0,I 0]/\KY w' k (gwC (QR p g E) t u x) 133/\KY w' x (elC (Wr p g E) 223 (Uj t u (R5 p g E) (Wr p g E).size)) 271/\w.heap.size<=x/\w.heap.size<=k/\x≠k/\R.inv (fun j=>X j\/j=x\/j=k) w'/\Kp (fun j=>¬X j) w w':=by
 have aD:=hp.len
 obtain⟨dC,cP⟩:=hp.small
 have hn:=hp.gr.n
 have cG:=hp.n1
 have pR:=hp.pk.bits
 have hg:=Ext.Lb w
 have ql:=hp.head
 have Fa:(QR p g E).bits=(M7 p g E g.length).length:=rfl
 have Kb:R5 p g E=28+((QR p g E).bits+7) / 8:=rfl
 have Kc:(QR p g E).n=g.length:=rfl
 refine KJ (e:=[(0,_)]) Tryz.func82 rfl Tryz.ntmps82 rfl rfl (qN rfl (KO rfl (KO rfl (py (run_seq (qN rfl (An rfl (qV (z8z Yw rfl rfl) (py (KH rfl (It (run_seq (KV (fun w'=>R.inv X w'/\Kp (fun k=>¬X k) w w') (by kernel_rfl) rfl ?_)))))))))))))
 refine KR 0 rfl (KW rfl) (⟨R.ext hI hg (fun k hk=> .inl hk),hg.kp⟩) (KR 1 rfl (KW rfl) (⟨R.ext hI hg (fun k hk=> .inl hk),hg.kp⟩) (KR 4 rfl (ymm rfl) (⟨R.ext hI hg (fun k hk=> .inl hk),hg.kp⟩) (KR 5 rfl (zdm R.mr rfl) (⟨R.ext hI hg (fun k hk=> .inl hk),hg.kp⟩) (KR 6 rfl (KW rfl) (⟨R.ext hI hg (fun k hk=> .inl hk),hg.kp⟩) (qO 2 (Rj (i:=2) rfl rfl rfl (yci (args:=[]) R.cl R.ml rfl rfl) (R.len (R.ext hI hg (fun k hk=> .inl hk))) ?_))))))
 rintro _ w1 ⟨rfl,ad⟩
 refine⟨⟨R.ext hI (hg.trans ad) (fun k hk=> .inl hk),(hg.trans ad).kp⟩,?_⟩
 have bQ:=hg.trans ad
 rw[aD]
 refine KR 3 rfl (ymi rfl rfl) (⟨R.ext hI (hg.trans ad) (fun k hk=> .inl hk),(hg.trans ad).kp⟩) ?_
 rw[show min (28:Int) ((R5 p g E+(Wr p g E).size:Nat):Int)=((28:Nat):Int) by omega]
 have lw:=R.ext hI bQ (fun k hk=> .inl hk)
 have ky:∀k,X k->k<w1.heap.size:=fun k hk=>by have:=hX k hk;have:=bQ.size;omega
 refine qO 7 (Rj (i:=7) rfl rfl rfl (yci (args:=[.const (Value.int .i64 0),.tmp 17]) R.cr R.mr rfl rfl) (R.rd 0 28 lw ky (by omega)) ?_)
 rintro _ w2 ⟨rfl,cH,am⟩
 refine⟨⟨cH,bQ.kp.trans am⟩,?_⟩
 rw[z73]
 have dR:Kp (fun k=>¬X k) w w2:=bQ.kp.trans am
 have fZ:∀k,X k->k<w2.heap.size:=fun k hk=>by have:=ky k hk;have:=am.size;omega
 refine KR 8 rfl (KW rfl) (⟨cH,bQ.kp.trans am⟩) (KR 9 rfl (Lu rfl rfl) (⟨cH,bQ.kp.trans am⟩) (KR 10 rfl (Lu rfl rfl) (⟨cH,bQ.kp.trans am⟩) (KR 11 rfl (MO rfl) (⟨cH,bQ.kp.trans am⟩) (KR 12 rfl (MO rfl) (⟨cH,bQ.kp.trans am⟩) (qE (run_seq (qN rfl (An rfl (qV (M0 rfl rfl) (py (KH rfl (It (qN rfl ?_)))))))))))))
 refine An rfl (La [.tmp 28] zaS rfl (z3W (QR p g E) ql w2) ?_)
 rintro _ w3 ⟨rfl,ah⟩
 refine An rfl (qV (Lu (v:=hdV (QR p g E)) rfl rfl) (qV (Lu (v:=I 0) rfl rfl) (KU rfl rfl (N3 (cs:=[_,_,_,_,_,_,_,_]) OT rfl) ?_)))
 rintro _ w4 ⟨b6,rfl,nN,aB,aN⟩
 refine L0 rfl (Lz (news:=hdC (QR p g E)) OT rfl rfl rfl rfl aN (by simp)) ?_
 rintro w5 ⟨dQ,aj⟩
 replace dQ:KY w5 b6 (hdC (QR p g E)) 128:=dQ
 have ce:Ext w3 w5:=aB.KK aj (fun i e=>by omega)
 have gW:=ah.trans ce
 refine KO rfl (py (Ll.qb (e:=[(0,_),(2,_),(3,_),(5,_),(6,_)]) ?_))
 refine run_seq (qN rfl (An rfl (qV (M0 rfl rfl) (py (KH rfl (It (run_seq (qN rfl (qV (Lj (news:=hdC (QR p g E)) z05 rfl OT rfl (dQ.cells (n:=8) rfl) rfl) (La [.tmp 36] zaG rfl (z3A (QR p g E) ql (by show g.length<=_;omega) _) ?_))))))))))
 rintro _ w6 ⟨rfl,aG⟩
 have gX:=gW.trans aG
 have oA:=R.ext cH gX (fun k hk=> .inl hk)
 have ss:=aG.KN dQ
 refine An rfl (qV (Lu (v:=I ((R5 p g E+(Wr p g E).size:Nat):Int)) rfl rfl) (qV (Lu (v:=I 0) rfl rfl) (KO rfl (KO rfl (qM rfl (An rfl (qV (M0 rfl rfl) (Ly (An rfl (An rfl (An rfl (Mi rfl rfl (yci (args:=[]) R.cl R.ml rfl rfl) (R.len oA) ?_))))))))))))
 rintro _ w7 ⟨rfl,bL⟩
 rw[aD]
 have Cb:=gX.trans bL
 have ph:=bL.KN ss
 refine qV (M0 rfl rfl) (Ly (qV (Ls rfl rfl) ?_))
 replace ph:KY w7 b6 [I ((QR p g E).n:Int),I ((QR p g E).m:Int),I ((QR p g E).p.Lf:Int),I ((QR p g E).p.chain:Int),I ((QR p g E).p.interval:Int),I ((QR p g E).p.zeta:Int),I ((QR p g E).p.most:Int),I ((QR p g E).bits:Int)] 128:=ph
 refine py (KH rfl (It (qN rfl (qV (KT PT rfl) (qV (KS U3 rfl rfl ph rfl) (LH rfl rfl (qV (RE rfl rfl (by omega)) (LH rfl rfl ?_))))))))
 rw[show 28+((((QR p g E).bits:Nat):Int)+7) / 8=(R5 p g E:Int) by omega]
 refine KO rfl (py (Ll.qb (e:=[(0,_),(2,_),(3,_),(5,_),(6,_),(9,_)]) ?_))
 refine qN rfl (An rfl (An rfl (An rfl ?_)))
 have j8:=R.ext oA bL (fun k hk=> .inl hk)
 refine Mi rfl rfl (yci (args:=[]) R.cl R.ml rfl rfl) (R.len j8) ?_
 rintro _ w8 ⟨rfl,cI⟩
 rw[aD]
 have iJ:=Cb.trans cI
 have BH:=R.ext j8 cI (fun k hk=> .inl hk)
 have i7:=cI.KN ph
 have z28:=iJ.size
 refine An rfl (qV (Md rfl rfl (by omega)) ?_)
 rw[show((R5 p g E+(Wr p g E).size:Nat):Int)-(R5 p g E:Int)=((Wr p g E).size:Int) by omega]
 refine qV (NA (parts:=[(0,.tmp 54),(1,.tmp 55),(2,.tmp 59)]) (cs:=[_,_,_]) zaj rfl zcC rfl rfl) (qV (zbr zdQ (fun _ h=>by cases h) rfl) ?_)
 have lb6:=i7.lt
 have HT:=R.ext (Y:=fun k=>X k\/k=b6) cH iJ (fun k hk=>hk.imp id fun e=>by have:=ah.size;omega)
 have ly:∀k,(X k\/k=b6)->k<w8.heap.size:=fun k hk=>by
  rcases hk with hk| e
  ·have:=fZ k hk;have:=iJ.size;omega
  ·omega
 refine La [.tmp 61] zbK rfl (z0s hp.ef (z8q R (R5 p g E) (Wr p g E).size (T6 (R7 p g E g.length) (Wr p g E)) (by omega) (by omega) hp.index) (X:=fun k=>X k\/k=b6) HT ly) ?_
 rintro _ w9 ⟨x,rfl,g7,hx,j9,aL⟩
 have i8:=aL.KN i7 (fun hh=>hh (.inr rfl))
 have Cc:Kp (fun k=>¬X k) w2 w9:=iJ.kp.trans (aL.L2 fun k hk e=>hk (.inl e))
 have z9:=aL.size
 refine An rfl (qV (Lu (v:=ptr x 0) rfl rfl) (qV (Lu (v:=I 0) rfl rfl) (KO rfl (KO rfl (py (run_seq (KL (qN rfl (An rfl (qV (M0 rfl rfl) (KO rfl (py (KH rfl ?_)))))))))))))
 refine run_seq ?_
 have cR:=Ext.Lb w9
 refine KV (fun w'=>Ext w9 w') (by kernel_rfl) rfl (KR 0 rfl (KW rfl) cR (KR 2 rfl (KT P7 rfl) cR (qT 3 rfl (fun _ h=>KS U3 rfl rfl (h.KN i8) rfl) cR (KR 4 rfl (PM rfl rfl (by omega)) cR (O2 1 [.tmp 70] rfl zax rfl (z3v (cR.KN g7)) ?_)))))
 rintro _ w10 ⟨rfl,rfl⟩
 refine⟨cR,?_⟩
 rw[show(Wr p g E).n=(QR p g E).n+1 from rfl]
 refine KR 5 rfl (M0 rfl rfl) cR (KR 6 rfl (MO rfl) cR (qE (Ll.qb (e:=[(0,_),(2,_),(3,_),(6,_),(10,_),(69,_)]) ?_)))
 have gH:=cR.KN i8
 have wS:=cR.KN g7
 refine KZ rfl (fun h9=>?_) (fun h9=>?_)
 ·exact absurd (by omega) h9
 ·refine It (KM (qN rfl (qV (Lj (news:=hdC (QR p g E)) z05 rfl OT rfl (KY.cells (n:=8) gH rfl) rfl) (An rfl (An rfl (qV (NA (parts:=[(0,.tmp 76),(1,.tmp 77),(2,.tmp 78)]) (cs:=[_,_,_,_,_,_,_,_,_,_]) zbM rfl z9O rfl rfl) (KU rfl rfl (MH rfl (cs:=gwC (QR p g E) t u x) rfl) ?_)))))));rintro _ w11 ⟨k,rfl,hk,aQ,aH⟩;refine KO rfl (KO rfl (py (KP Tryz.func82 rfl ?_)));have Ce:=cR.trans aQ;have z02:=dR.size;have z28:=iJ.size;have zdd:=cR.size;have lbx:=wS.lt;refine⟨_,rfl,k,x,rfl,aH,Ce.KN g7,by omega,by omega,by omega,R.ext j9 Ce (fun j hj=>?_),(dR.trans Cc).trans Ce.kp⟩;rcases hj with hj|hj|hj
  ·exact .inl (.inl (.inl hj))
  ·exact .inl (.inr hj)
  ·exact .inr (by omega)
structure PL {t:TypeId}{u:Value}{p:LW}{g:List (List Nat)}{E:List (Nat×Nat)}(R:Src t u (Sy p g E))(k x:Nat)(X:Nat->Prop)(w:World):Prop where
 ok:NY p g E
 KN:KY w k (gwC (QR p g E) t u x) 133
 ix:KY w x (elC (Wr p g E) 223 (Uj t u (R5 p g E) (Wr p g E).size)) 271
 xk:X k
 xx:X x
 inv:R.inv X w
 lt:∀j,X j->j<w.heap.size
 x1:X 1
 x2:X 2
 gam:KY w 1 (NM .gamma) 298
 una:KY w 2 (NM .unary) 298
section
variable {t:TypeId}{u:Value}{p:LW}{g:List (List Nat)}{E:List (Nat×Nat)}{R:Src t u (Sy p g E)}{k x:Nat}{X Y S:Nat->Prop}{w w':World}
theorem PL.grow (h:PL R k x X w)(hx:Ext w w')(hY:∀j,Y j->X j\/(w.heap.size<=j/\j<w'.heap.size))(bV:∀j,X j->Y j):PL R k x Y w':=
 ⟨h.ok,hx.KN h.KN,hx.KN h.ix,bV _ h.xk,bV _ h.xx,R.ext h.inv hx (fun j hj=>(hY j hj).imp id And.left),fun j hj=>by
  rcases hY j hj with e| e
  ·have:=h.lt j e;have:=hx.size;omega
  ·exact e.2,bV _ h.x1,bV _ h.x2,hx.KN h.gam,hx.KN h.una⟩
theorem PL.ext (h:PL R k x X w)(hx:Ext w w'):PL R k x X w':=h.grow hx (fun j hj=> .inl hj) fun j hj=>hj
theorem PL.less (h:PL R k x Y w)(bV:∀j,X j->Y j)(hk:X k)(hx:X x)(h1:X 1)(h2:X 2):PL R k x X w:=
 ⟨h.ok,h.KN,h.ix,hk,hx,R.ext h.inv (Ext.refl w) (fun j hj=> .inl (bV j hj)),fun j hj=>h.lt j (bV j hj),h1,h2,h.gam,h.una⟩
theorem PL.step (h:PL R k x X w)(hk:Kp S w w')(hS:∀j,S j->X j/\j≠k/\j≠x/\j≠1/\j≠2)(hY:∀j,Y j->X j\/(w.heap.size<=j/\j<w'.heap.size))(bV:∀j,X j->Y j):PL R k x Y w':=
 ⟨h.ok,hk.KN h.KN (fun e=>(hS _ e).2.1 rfl),hk.KN h.ix (fun e=>(hS _ e).2.2.1 rfl),bV _ h.xk,bV _ h.xx,R.step h.inv hk (fun j hj=>(hS j hj).1) (fun j hj=>(hY j hj).imp id And.left),fun j hj=>by
  rcases hY j hj with e| e
  ·have:=h.lt j e;have:=hk.size;omega
  ·exact e.2,bV _ h.x1,bV _ h.x2,hk.KN h.gam (fun e=>(hS _ e).2.2.2.1 rfl),hk.KN h.una (fun e=>(hS _ e).2.2.2.2 rfl)⟩
theorem PL.own (h:PL R k x X w)(hk:Kp S w w')(hS:∀j,S j->X j/\j≠k/\j≠x/\j≠1/\j≠2):PL R k x X w':=
 ⟨h.ok,hk.KN h.KN (fun e=>(hS _ e).2.1 rfl),hk.KN h.ix (fun e=>(hS _ e).2.2.1 rfl),h.xk,h.xx,R.own h.inv hk (fun j hj=>(hS j hj).1),fun j hj=>by have:=h.lt j hj;have:=hk.size;omega,h.x1,h.x2,hk.KN h.gam (fun e=>(hS _ e).2.2.2.1 rfl),hk.KN h.una (fun e=>(hS _ e).2.2.2.2 rfl)⟩
theorem PL.src (h:PL R k x X w)(hk:Kp (fun j=>¬X j) w w')(hI:R.inv X w'):PL R k x X w':=
 ⟨h.ok,hk.KN h.KN (fun e=>e h.xk),hk.KN h.ix (fun e=>e h.xx),h.xk,h.xx,hI,fun j hj=>by have:=h.lt j hj;have:=hk.size;omega,h.x1,h.x2,hk.KN h.gam (fun e=>e h.x1),hk.KN h.una (fun e=>e h.x2)⟩
def PL.R2 (R:Src t u (Sy p g E))(h:NY p g E):Src 223 (Uj t u (R5 p g E) (Wr p g E).size) (T6 (R7 p g E g.length) (Wr p g E)):=
 z8q R (R5 p g E) (Wr p g E).size _ (by have:=h.len;omega) (by have:=h.small;omega) h.index
theorem PL.cells (h:PL R k x X w):KY w k [I ((QR p g E).n:Int),I ((QR p g E).m:Int),I ((QR p g E).p.Lf:Int),I ((QR p g E).p.chain:Int),I ((QR p g E).p.interval:Int),I ((QR p g E).p.zeta:Int),I ((QR p g E).p.most:Int),I ((QR p g E).bits:Int),.iface t u,ptr x 0] 133:=h.KN
theorem z7z (h:PL R k x X w):Lk Tryz.prog 27 [ptr k 0] w fun v w'=>v=I (g.length:Int)/\w'=w:=by
 have hB:=h.cells
 refine KJ (e:=[(0,_)]) Tryz.func27 rfl Tryz.ntmps27 rfl rfl (qN rfl (KO rfl (py (run_seq (qN rfl (An rfl (qV (LQ Z6 rfl rfl) (py (KH rfl (It (qN rfl (An rfl (qV (L6 rfl) ?_)))))))))))))
 refine qV (KT RO rfl) (qV (KT P7 rfl) (qV (KS U3 rfl rfl hB rfl) (KO rfl (py (KP Tryz.func27 rfl ?_)))))
 exact⟨_,rfl,rfl,rfl⟩
theorem z0V (h:PL R k x X w){b v c:Nat}(hv:v<g.length)(hr:Rd w (.slice (some ⟨b,0,none⟩) 1 c) 1 1 [I (v:Int)]):Lk Tryz.prog 128 [ptr k 0,.slice (some ⟨b,0,none⟩) 1 c] w fun v w'=>v=I 0/\w'=w:=by
 have hB:=h.cells
 have hn:(QR p g E).n=g.length:=rfl
 refine KJ (e:=[(0,_),(1,_)]) Tryz.func128 rfl Tryz.ntmps128 rfl rfl (qN rfl (KO rfl (py (run_seq (qN rfl (An rfl (qV (LQ Z6 rfl rfl) (py (KH rfl (It (run_seq (qN rfl (An rfl ?_)))))))))))))
 refine qV (LM Mw rfl) (An rfl (py (KL (MV (α:=Nat) (0) (fun i=>[(0,ptr k 0),(9,.slice (some ⟨b,0,none⟩) 1 c),(10,I 1),(11,I (i:Int))]) (fun i w'=>w'=w/\i<=1) (fun i=>1-i) ?hI ?hround))))
 case hI=>exact⟨rfl,Nat.zero_le _⟩
 case hround=>
  rintro i w2 ⟨rfl,hi⟩ ih
  try dsimp only
  refine qN rfl (qV (LX rfl rfl) (py (run_seq (KZ rfl (fun h0=>?_) (fun h0=>?_)))))
  ·have iG:i=0:=by omega
   subst iG;refine It (run_seq (KL (qN rfl (qV (LC Mw LG rfl rfl (by omega)) (qV (Lm U3 rfl rfl (LV hr rfl)) (KO rfl (qM rfl (An rfl (qV (LX rfl rfl) (Ly (An rfl (An rfl (An rfl ?_)))))))))))));refine qV (L6 rfl) (qV (KT RO rfl) (qV (KT P7 rfl) (qV (KS U3 rfl rfl hB rfl) (qV (Ou rfl rfl) (Ly (qV (Ls rfl rfl) (py (KH rfl (It (KM (KQ rfl (LH rfl rfl (An rfl ?_)))))))))))));refine py ?_;exact(ih 1 _ ⟨rfl,by omega⟩ (by omega)).qb
  ·refine KX rfl (qN rfl (KO rfl (py (KP Tryz.func128 rfl ?_))));exact⟨_,rfl,rfl,rfl⟩
theorem z3B {p:LW}{g:List (List Nat)}{E:List (Nat×Nat)}{v a n:Nat}{s:Bytes}(hs:((Lg (M7 p g E g.length)).drop (a / 8)).take n=s)(ha:(M7 p g E v).length=a)(hv:v<g.length)(hn:a+(SC p g E v).length<=8*(a / 8+n)):∃rest,(Lc s).drop (a%8)=SC p g E v++rest:=by
 have iK:∃r,M7 p g E g.length=M7 p g E (v+1)++r:=by
  have key:∀d i,∃r,M7 p g E (i+d)=M7 p g E i++r:=fun d i=>by
   induction d with
   |zero=>exact⟨[],by simp⟩
   | succ d ih =>
     obtain⟨r,hr⟩:=ih;exact⟨r++SC p g E (i+d),by rw[<-Nat.add_assoc,O0,hr,List.append_assoc]⟩
  obtain⟨r,hr⟩:=key (g.length-(v+1)) (v+1);rw[show v+1+(g.length-(v+1))=g.length by omega] at hr;exact⟨r,hr⟩
 obtain⟨r,hr⟩:=iK
 obtain⟨z,hz,-,-⟩:=Np (M7 p g E g.length)
 rw[<-hs,PK,Oy,hz,hr,O0,List.drop_take,List.drop_drop,show 8*(a / 8)+a%8=a by omega,List.append_assoc,List.append_assoc,List.drop_left' ha,List.take_append,List.take_of_length_le (by omega)]
 exact⟨_,rfl⟩
theorem z0U (h:PL R k x X w){v:Nat}(hv:v<g.length):Lk Tryz.prog 166 [ptr k 0,I (v:Int)] w fun r w'=>∃(b a e:Nat) (s:Bytes) (rest:List Bool),r= .tuple #[ptr b 0,I (e:Int),I 0]/\OQ w' b s a/\(Lc s).drop a=SC p g E v++rest/\a+(SC p g E v).length=e/\w.heap.size<=b/\PL R k x (fun j=>X j\/j=b) w'/\Kp (fun j=>¬X j) w w':=by
 have hn:=h.ok.gr.n
 have pR:=h.ok.pk.bits
 have hB:=h.cells
 have Cf:=UP p g E (n:=g.length) (i:=v) (by omega)
 have wT:=UP p g E (n:=g.length) (i:=v+1) (by omega)
 have o8:=RA p g E (g.length-(v+1)) (v+1)
 rw[show v+1+(g.length-(v+1))=g.length by omega] at o8
 have dP:=O0 p g E v
 have kw:=congrArg List.length dP
 rw[List.length_append] at kw
 refine KJ (e:=[(0,_),(1,_)]) Tryz.func166 rfl Tryz.ntmps166 rfl rfl (qN rfl (KO rfl (KO rfl (KO rfl (qM rfl (An rfl (qV (L6 rfl) (qV (KT z1F rfl) (qV (KS SU rfl rfl hB rfl) (An rfl (La [.tmp 17,.tmp 18] z86 rfl (Xd h.ok.ef (PL.R2 R h.ok) h.inv h.lt h.xx h.ix Cf) ?_)))))))))))
 rintro _ w1 ⟨rfl,lw,aM⟩
 have h1:=h.src aM lw
 have ai:=h1.cells
 refine An rfl (qV (Lu rfl rfl) (qV (Lu rfl rfl) (KO rfl (KO rfl (py (run_seq (qN rfl (An rfl (qV (M0 rfl rfl) (py (KH rfl (It (qN rfl ?_)))))))))))))
 refine An rfl (qV (L6 rfl) (qV (KT z1F rfl) (qV (KS SU rfl rfl ai rfl) (An rfl (LH rfl rfl ?_)))))
 rw[show(v:Int)+1=((v+1:Nat):Int) by omega]
 refine La [.tmp 29,.tmp 31] z86 rfl (Xd h1.ok.ef (PL.R2 R h1.ok) h1.inv h1.lt h1.xx h1.ix wT) ?_
 rintro _ w2 ⟨rfl,cH,am⟩
 have h2:=h1.src am cH
 have ak:=h2.cells
 have dR:=aM.trans am
 obtain⟨al,yV⟩:∃n,(M7 p g E v).length=n:=⟨_,rfl⟩
 obtain⟨bl,eN⟩:∃n,(M7 p g E (v+1)).length=n:=⟨_,rfl⟩
 rw[yV,eN]
 have Fa:(QR p g E).bits=(M7 p g E g.length).length:=rfl
 refine An rfl (qV (Lu rfl rfl) (qV (Lu rfl rfl) (KO rfl (KO rfl (py (Ll.qb (e:=[(0,_),(4,_),(5,_),(6,_),(7,_),(8,_),(9,_)]) ?_))))))
 refine run_seq (KL (qN rfl (An rfl (qV (M0 rfl rfl) (KO rfl (py (KH rfl (qN rfl (An rfl (An rfl (qV (LU rfl rfl) (Ly (An rfl ?_)))))))))))))
 refine An rfl (An rfl (qV (L6 rfl) (qV (KT RO rfl) (qV (KT PT rfl) (qV (KS U3 rfl rfl ak rfl) (qV ((by first|exact LF rfl U3 Mq (by omega)|exact N0 rfl U3 Mq)) ?_))))))
 refine qV (LU rfl rfl) (Ly (qV (Ls rfl rfl) (KO rfl (py (KH rfl (It (KM (qN rfl (An rfl (qV (zcF rfl rfl rfl (by simp only[IntKind.bits];omega) (by omega)) ?_))))))))))
 refine qV (Lw rfl Mq U3 (by omega)) (KO rfl (py (Ll.qb (e:=[(0,_),(4,_),(5,_),(6,_),(7,_),(8,_),(9,_),(10,_)]) ?_)))
 refine qN rfl (An rfl (qV (L6 rfl) (qV (KT z7a rfl) (qV (KS Yw rfl rfl ak rfl) (An rfl (LH rfl rfl (An rfl (qV (Pp rfl rfl) (qV (Lw rfl Mq U3 (by omega)) (qV (RE rfl rfl (by omega)) (An rfl (qV (Md rfl rfl (by omega)) ?_))))))))))))
 have yT:28+al / 8+((bl+7) / 8-al / 8)<=(Sy p g E).length:=by have:=h.ok.len;unfold R5 at this;omega
 rw[show 28+((al / 8:Nat):Int)=((28+al / 8:Nat):Int) by omega]
 rw[show((((bl+7)%18446744073709551616:Nat):Int)) / 8-((al / 8:Nat):Int)=(((bl+7) / 8-al / 8:Nat):Int) by omega]
 refine Mi rfl rfl (yci (args:=[.tmp 62,.tmp 68]) R.cr R.mr rfl rfl) (R.rd (28+al / 8) ((bl+7) / 8-al / 8) h2.inv h2.lt yT) ?_
 rintro _ w3 ⟨rfl,BT,au⟩
 have h3:=h2.src au BT
 rw[z6v h.ok (al / 8) ((bl+7) / 8-al / 8) (by omega)]
 obtain⟨s,hs⟩:∃s,((Lg (M7 p g E g.length)).drop (al / 8)).take ((bl+7) / 8-al / 8)=s:=⟨_,rfl⟩
 rw[hs]
 refine An rfl (qV (Lu rfl rfl) (qV (Lu rfl rfl) (KO rfl (KO rfl (py (Ll.qb (e:=[(4,_),(5,_),(6,_),(7,_),(8,_),(9,_),(10,_),(11,_)]) ?_))))))
 refine run_seq (qN rfl (An rfl (qV (M0 rfl rfl) ?_)))
 have gm:s.length=(bl+7) / 8-al / 8:=by
  rw[<-hs,List.length_take,List.length_drop,Lq];omega
 obtain⟨rest,mT⟩:∃rest,(Lc s).drop (al%8)=SC p g E v++rest:=z3B hs yV hv (by omega)
 refine py (KH rfl (It (qN rfl (An rfl (La [.tmp 75] z2B rfl (RQ s (by omega) w3) ?_)))))
 rintro _ w4 ⟨b,rfl,ge,aB,hb⟩
 have lb:=ge.1.lt
 have h4:PL R k x (fun j=>X j\/j=b) w4:=h3.grow aB (fun j hj=>hj.imp id fun e=>by omega) (fun j hj=> .inl hj)
 have f9:¬X b:=fun e=>by have:=h3.lt b e;omega
 refine KO rfl (qM rfl (An rfl (An rfl (qV (Lw rfl Mq U3 (by omega)) (An rfl (qV (Tu rfl rfl (by omega)) (qV (Md rfl rfl (by omega)) ?_)))))))
 rw[show(al:Int)-8*((al / 8:Nat):Int)=((al%8:Nat):Int) by omega]
 refine La [.tmp 77,.tmp 82] z5w rfl (Ub ge (al%8) (by omega)) ?_
 rintro _ w5 ⟨rfl,qK,aj⟩
 have h5:=h4.own aj (fun j e=>by
  subst e
  exact⟨.inr rfl,fun e=>f9 (e▸h.xk),fun e=>f9 (e▸h.xx),fun e=>f9 (e▸h.x1),fun e=>f9 (e▸h.x2)⟩)
 refine qM rfl (An rfl (An rfl (qV (Lw rfl Mq U3 (by omega)) (An rfl (qV (Tu rfl rfl (by omega)) (qV (Md rfl rfl (by omega)) ?_))))))
 rw[show(bl:Int)-8*((al / 8:Nat):Int)=((bl-8*(al / 8):Nat):Int) by omega]
 refine KO rfl (KO rfl (KO rfl (py (Ll.qb (e:=[(4,_),(5,_),(6,_)]) ?_))))
 refine KP Tryz.func166 rfl ?_
 have z03:=(dR.trans au).size
 exact⟨_,rfl,b,al%8,bl-8*(al / 8),s,rest,rfl,qK,mT,by omega,by omega,h5,((dR.trans au).trans aB.kp).KK aj (fun j e=> .inl (by omega))⟩
end
def L9 (g:List (List Nat))(v:Nat):List Nat:=(g[v]?).getD []
def Ln (g:List (List Nat))(E:List (Nat×Nat))(v:Nat):Nat:=if L9 g v=[] then 0 else((E[v]?).getD (0,0)).1
def Ow (p:LW)(g:List (List Nat))(E:List (Nat×Nat))(v:Nat):List (Cd×Nat):=if L9 g v=[] then [] else Pw p.list v (L9 g v) (Ma g v (Ln g E v)) (Ln g E v)
theorem z3N (p:LW)(g:List (List Nat))(E:List (Nat×Nat))(v:Nat):SC p g E v=Ld (M5 p.list (L9 g v).length (Ln g E v))++Ld (Ow p g E v):=by
 unfold SC Ow Ln
 rw[<-NC]
 by_cases h:L9 g v=[]
 ·have h':(g[v]?).getD []=[]:=h;rw[if_pos h,if_pos h,h',h]
  rfl
 ·rw[if_neg h,if_neg h];have:=VY p.list v (ref:=Ma g v ((E[v]?).getD (0,0)).1) ((E[v]?).getD (0,0)).1 h;rw[<-this];rfl
section
variable {t:TypeId}{u:Value}{p:LW}{g:List (List Nat)}{E:List (Nat×Nat)}{R:Src t u (Sy p g E)}{k x:Nat}{X Y S:Nat->Prop}{w w':World}
theorem NY.ent (h:NY p g E){v:Nat}(hv:v<g.length):Ul p g E v (L9 g v).length ((E[v]?).getD (0,0)):=by
 have hl:=h.pk.el
 obtain⟨e,he⟩:∃e,E[v]? =some e:=⟨_,List.getElem?_eq_getElem (by omega)⟩
 have:=h.pk.ok.ent v e he
 rw[he];exact this
theorem NY.XQ (h:NY p g E){v:Nat}(hv:v<g.length):Ln g E v<=p.Lf/\Ln g E v<=v:=by
 unfold Ln
 split
 ·omega
 ·rcases h.ent hv with e| e
  ·rw[e];exact⟨Nat.zero_le _,Nat.zero_le _⟩
  ·exact⟨e.2.1,e.2.2.1⟩
theorem NY.suc (h:NY p g E){v:Nat}(hv:v<g.length):Lt (L9 g v)/\(L9 g v).length<=g.length/\∀y∈L9 g v,y<g.length:=by
 have hm:L9 g v∈g:=by
  unfold L9;rw[List.getElem?_eq_getElem hv];exact List.getElem_mem hv
 exact⟨h.gr.ok _ hm,h.gr.len hm,h.gr.lt _ hm⟩
theorem z1g (h:PL R k x X w){v:Nat}(hv:v<g.length):Lk Tryz.prog 130 [ptr k 0,I (v:Int)] w fun r w'=>∃(b a:Nat) (s:Bytes) (rest:List Bool),r= .tuple #[.agg #[I ((L9 g v).length:Int),I (Ln g E v:Int)],ptr b 0,I ((a+(Ld (Ow p g E v)).length:Nat):Int),I 0]/\OQ w' b s a/\(Lc s).drop a=Ld (Ow p g E v)++rest/\w.heap.size<=b/\PL R k x (fun j=>X j\/j=b) w'/\Kp (fun j=>¬X j) w w':=by
 have hn:=h.ok.gr.n
 obtain⟨dC,cP,o2⟩:=h.ok.suc hv
 have fX:=h.ok.XQ hv
 have p5:=z3N p g E v
 have wU:(L9 g v).length=0->Ln g E v=0:=fun e=>by unfold Ln;rw[if_pos (List.eq_nil_of_length_eq_zero e)]
 refine KJ (e:=[(0,_),(1,_)]) Tryz.func130 rfl Tryz.ntmps130 rfl rfl (qN rfl (KU rfl rfl (N3 (cs:=[_,_]) Ns rfl) ?_))
 rintro _ w1 ⟨b4,rfl,gh,ad,aJ⟩
 have l4:=aJ.lt
 have h1:PL R k x (fun j=>X j\/j=b4) w1:=h.grow ad (fun j hj=>hj.imp id fun e=>by omega) (fun j hj=> .inl hj)
 have aB:∀j,X j->j≠b4:=fun j hj e=>by have:=h.lt j hj;omega
 refine KO rfl (KO rfl (KO rfl (qM rfl (An rfl (An rfl (La [.tmp 13,.tmp 14] zcO rfl (z0U h1 hv) ?_))))))
 rintro _ w2 ⟨b,a,e,s,rest,rfl,dj,hd,he,hb,h2,am⟩
 have bq:=am.KN aJ (fun e=>e (.inr rfl))
 have HU:=h2.cells
 have lb:=dj.1.lt
 have f9:∀j,X j->j≠b:=fun j hj e=>by have:=h.lt j hj;have:=ad.size;omega
 have mU:∀j,j=b->(X j\/j=b4)\/j=b:=fun j e=> .inr e
 refine An rfl (qV (Lu (v:=ptr b 0) rfl rfl) (qV (Lu (v:=I (e:Int)) rfl rfl) (qV (Lu (v:=I 0) rfl rfl) (KO rfl (KO rfl (KO rfl (py (run_seq (qN rfl (An rfl (qV (M0 rfl rfl) (py (KH rfl ?_)))))))))))))
 refine It (qN rfl (An rfl (An rfl (qV (L6 rfl) (qV (KT RO rfl) (qV (KT Th rfl) (qV (Lj (news:=Qf p) VA rfl MP rfl (KY.cells (i:=2) (n:=5) HU rfl) rfl) (La [.tmp 29] VD rfl (NZ p w2) ?_))))))))
 rintro _ w3 ⟨rfl,ah⟩
 have h3:=h2.ext ah
 have o9:OQ w3 b s a:=⟨ah.KN dj.1,dj.2⟩
 rw[p5,List.append_assoc] at hd
 refine La [.tmp 24,.tmp 30] z8j rfl (Xl o9 p.list h.ok.M3.1 h3.gam h3.una (fun e=>f9 1 h.x1 e) (fun e=>f9 2 h.x2 e) (L9 g v).length (Ln g E v) (by omega) fX.1 wU _ hd) ?_
 rintro _ w4 ⟨rfl,ge,aw⟩
 have EI:=Nn hd
 have h4:=h3.own aw (fun j e=>⟨.inr e,fun e'=>f9 k h.xk (e'▸e),fun e'=>f9 x h.xx (e'▸e),fun e'=>f9 1 h.x1 (e'▸e),fun e'=>f9 2 h.x2 (e'▸e)⟩)
 have cj:=aw.KN (ah.KN bq) (fun e=>by omega)
 have gm:=congrArg List.length p5
 rw[List.length_append] at gm
 refine An rfl (qV (Lu (v:= .agg #[I ((L9 g v).length:Int),I (Ln g E v:Int)]) rfl rfl) (qV (Lu (v:=I 0) rfl rfl) (KU rfl rfl (N3 (cs:=[_,_]) Ns rfl) ?_)))
 rintro _ w5 ⟨b11,rfl,iz,aR,aH⟩
 refine L0 rfl (Lz (news:=[I ((L9 g v).length:Int),I (Ln g E v:Int)]) Ns rfl rfl rfl rfl aH (by simp)) ?_
 rintro w6 ⟨mV,aT⟩
 replace mV:KY w6 b11 [I ((L9 g v).length:Int),I (Ln g E v:Int)] 239:=mV
 have cF:Ext w4 w6:=aR.KK aT (fun j e=>by omega)
 have h6:=h4.ext cF
 have kr:OQ w6 b s (a+(Ld (M5 p.list (L9 g v).length (Ln g E v))).length):=⟨cF.KN ge.1,ge.2⟩
 refine KO rfl (py (Ll.qb (e:=[(4,_),(5,_),(6,_),(7,_),(8,_),(9,_),(10,_),(11,_)]) ?_))
 refine run_seq (qN rfl (An rfl (qV (M0 rfl rfl) (Ly (An rfl (An rfl (La [.tmp 37] Tn rfl (P8 kr) ?_)))))))
 rintro _ w6 ⟨rfl,rfl⟩
 refine An rfl (qV (LU rfl rfl) (Ly (qV (Ls rfl rfl) (py (KH rfl (It (qN rfl (qV (Lj (news:=[I ((L9 g v).length:Int),I (Ln g E v:Int)]) YS rfl Ns rfl (KY.cells (n:=2) mV rfl) rfl) (An rfl (An rfl ?_))))))))))
 have bJ:=cF.KN cj
 refine L0 rfl (Lz (news:=[I ((L9 g v).length:Int),I (Ln g E v:Int)]) Ns rfl rfl rfl rfl bJ (by simp)) ?_
 rintro w7 ⟨ba,aA⟩
 replace ba:KY w7 b4 [I ((L9 g v).length:Int),I (Ln g E v:Int)] 239:=ba
 have h7:=(h6.own aA (fun j e=>⟨.inl (.inr e),fun e'=>aB k h.xk (e'▸e),fun e'=>aB x h.xx (e'▸e),fun e'=>aB 1 h.x1 (e'▸e),fun e'=>aB 2 h.x2 (e'▸e)⟩)).less (X:=fun j=>X j\/j=b) (fun j hj=>hj.imp .inl id) (.inl h.xk) (.inl h.xx) (.inl h.x1) (.inl h.x2)
 have HV:OQ w7 b s (a+(Ld (M5 p.list (L9 g v).length (Ln g E v))).length):=⟨aA.KN kr.1 (by omega),kr.2⟩
 refine KO rfl (KO rfl (KO rfl (py (Lh Tryz.func130 (.cell YS rfl Ns rfl (KY.cells (n:=2) ba (news:=[_,_]) rfl) rfl (.tmp rfl (.tmp rfl (.tmp rfl .nil)))) (⟨_,rfl,b,a+(Ld (M5 p.list (L9 g v).length (Ln g E v))).length,s,rest,?_,HV,EI,by have:=ad.size;omega,h7,?_⟩)))))
 ·rw[show a+(Ld (M5 p.list (L9 g v).length (Ln g E v))).length+(Ld (Ow p g E v)).length=e by omega]
  rfl
 ·have nX:Kp (fun j=>¬X j) w w4:=((ad.kp.trans (am.L2 fun j e e'=>e (.inl e'))).trans ah.kp).KK aw (fun j e=> .inl (by have:=ad.size;omega));exact(nX.trans cF.kp).KK aA (fun j e=> .inl (by omega))
end
section
variable {t:TypeId}{u:Value}{p:LW}{g:List (List Nat)}{E:List (Nat×Nat)}{R:Src t u (Sy p g E)}{k x gb pb fb:Nat}{X Y S:Nat->Prop}{w w':World}
abbrev Z2 (w:World)(vv:Value)(l:List Nat):Prop:=Sl w vv 46 1 l.length (l.map Lp)
def OP (E:List (Nat×Nat))(v:Nat):Nat:=((E[v]?).getD (0,0)).2
structure TdM (R:Src t u (Sy p g E))(k x gb pb fb:Nat)(X:Nat->Prop)(w:World):Prop where
 gw:PL R k x X w
 bg:KY w gb [ptr k 0] 28
 bp:KY w pb [I (p.Lf:Int),I (p.chain:Int),I (p.interval:Int),I (p.zeta:Int),I (p.most:Int)] 77
 bf:KY w fb [.func (.func 129) #[] #[ptr gb 0,ptr pb 0,ptr fb 0]] 237
 xg:X gb
 xp:X pb
 xf:X fb
theorem TdM.step (h:TdM R k x gb pb fb X w)(hk:Kp S w w')(hS:∀j,S j->X j->False)(h2:PL R k x Y w')(bV:∀j,X j->Y j):TdM R k x gb pb fb Y w':=
 ⟨h2,hk.KN h.bg (fun e=>hS _ e h.xg),hk.KN h.bp (fun e=>hS _ e h.xp),hk.KN h.bf (fun e=>hS _ e h.xf),bV _ h.xg,bV _ h.xp,bV _ h.xf⟩
def RV (R:Src t u (Sy p g E))(k x gb pb fb v behind:Nat)(X:Nat->Prop)(w:World):Prop:=
 Lk Tryz.prog 129 [I (v:Int),I (behind:Int),ptr gb 0,ptr pb 0,ptr fb 0] w fun r w'=>∃vv,r= .tuple #[vv,I 0]/\Z2 w' vv (L9 g v)/\(∀b,vv.ownBlock=some b->w.heap.size<=b)/\PL R k x (fun j=>X j\/vv.ownBlock=some j) w'/\Kp (fun j=>¬X j) w w'
theorem NY.back (h:NY p g E){v:Nat}(hv:v<g.length)(hq:0<Ln g E v):Ln g E v<=v/\OP E v=OP E (v-Ln g E v)+1/\Ma g v (Ln g E v)=L9 g (v-Ln g E v)/\0<(L9 g (v-Ln g E v)).length/\(L9 g (v-Ln g E v)).length<=p.most/\(L9 g v).length<=p.most/\L9 g v≠[]/\OP E v<=p.chain:=by
 have bG:L9 g v≠[]:=fun e=>by unfold Ln at hq;rw[if_pos e] at hq;omega
 have hb:Ln g E v=((E[v]?).getD (0,0)).1:=by unfold Ln;rw[if_neg bG]
 rcases h.ent hv with e|⟨h1,h2,h3,l,e',h4,h5,h6,h7⟩
 ·rw[hb,e] at hq;cases hq
 ·rw[<-hb] at h1 h2 h3 h4 h5;have HW:=of_decide_eq_true h7;have hs:L9 g (v-Ln g E v)=l:=by unfold L9;rw[h4];rfl
  refine⟨h3,?_,?_,by rw[hs];omega,by rw[hs];omega,by omega,bG,?_⟩
  ·unfold OP;rw[h5];exact h6
  ·unfold Ma;rw[if_neg (by omega)];rfl
  ·show((E[v]?).getD (0,0)).2<=_;omega
theorem z4e (av:NY p g E)(iH:g.length<50){v:Nat}(hv:v<g.length){b a:Nat}{s:Bytes}{rest:List Bool}(hR:OQ w b s a)(hd:(Lc s).drop a=Ld (Ow p g E v)++rest)(hG:KY w 1 (NM .gamma) 298)(hU:KY w 2 (NM .unary) 298)(h1:¬1=b)(h2:¬2=b)
  {vb:Value} (ep:Ln g E v=0->vb= .slice none 0 0) (hS:0<Ln g E v->Z2 w vb (L9 g (v-Ln g E v))) (yH:∀j,vb.ownBlock=some j->j≠b):
  Lk Tryz.prog 131 [ptr b 0,I (v:Int),I (g.length:Int),.agg #[I ((L9 g v).length:Int),I (Ln g E v:Int)],vb,lpV p.list] w fun r w'=>∃vv,r= .tuple #[vv,I 0]/\Z2 w' vv (L9 g v)/\(∀j,vv.ownBlock=some j->w.heap.size<=j)/\OQ w' b s (a+(Ld (Ow p g E v)).length)/\Kp (fun j=>j=b) w w':=by
 obtain⟨dC,cP,o2⟩:=av.suc hv
 have fX:=av.XQ hv
 by_cases bG:L9 g v=[]
 ·have wU:Ln g E v=0:=by unfold Ln;rw[if_pos bG]
  have Cg:Ow p g E v=[]:=by unfold Ow;rw[if_pos bG]
  rw[wU,ep wU,Cg,bG];refine(XN p.list av.M3.1 v (by omega) g.length (by omega)).mono fun r w' hr=>?_;obtain⟨rfl,hx⟩:=hr;exact⟨_,rfl,Sl.nil _ _ _,fun j e=>(by cases e),⟨hx.KN hR.1,hR.2⟩,hx.kp⟩
 ·have Cg:Ow p g E v=Pw p.list v (L9 g v) (Ma g v (Ln g E v)) (Ln g E v):=by unfold Ow;rw[if_neg bG]
  have ja:Lt (Ma g v (Ln g E v))/\(Ma g v (Ln g E v)).length<=60:=by
   have hn:=av.gr.n;rcases RF g v (Ln g E v) with e| e
   ·rw[e];exact⟨⟨List.Pairwise.nil,fun y hy=>(by cases hy)⟩,by simp⟩
   ·exact⟨av.gr.ok _ e,by have:=av.gr.len e;omega⟩
  have G6:=TE av.M3.1 (x:=v) (by omega) dC ja.1 fX.1 (by omega) ja.2;rw[Cg] at hd⊢;rcases Nat.eq_zero_or_pos (Ln g E v) with h0|h0
  ·have kI:Ma g v (Ln g E v)=[]:=by unfold Ma;rw[if_pos h0]
   rw[ep h0];have:=Uo hR p.list av.M3.1 v (by omega) g.length (by omega) (ra:=none) (rc:=0) (L9 g v) (Ma g v (Ln g E v)) dC bG (by omega) o2 ja.1 (Ln g E v) fX.1 (fun _=>kI) hG hU h1 h2 (fun w2 am=>by rw[kI];exact(Sl.nil _ 46 1).rd) (by rw[kI];exact Nat.le_refl _) (by omega) rest hd;rw[kI] at this⊢;exact this
  ·obtain⟨q1,q2,q3,q4,q5,q6,q7,q8⟩:=av.back hv h0;have Ch:=hS h0;rw[<-q3] at Ch
   obtain⟨ga,gc,rfl,jj⟩:∃a c,vb= .slice a (Ma g v (Ln g E v)).length c/\(Ma g v (Ln g E v)).length<=c:=by
    rcases Ch.shape with⟨-,e⟩|⟨b,c,e,hc⟩
    ·rw[q3] at e;omega
    ·exact⟨_,c,e,hc⟩
   exact Uo hR p.list av.M3.1 v (by omega) g.length (by omega) (ra:=ga) (rc:=gc) (L9 g v) (Ma g v (Ln g E v)) dC bG (by omega) o2 ja.1 (Ln g E v) fX.1 (fun e=>by omega) hG hU h1 h2 (fun w2 am=>(Ch.kp am fun j e=>yH j e).rd) jj (by omega) rest hd
end
section
variable {t:TypeId}{u:Value}{p:LW}{g:List (List Nat)}{E:List (Nat×Nat)}{R:Src t u (Sy p g E)}{k x gb pb fb:Nat}{X Y S:Nat->Prop}{w w':World}
theorem Uk (iH:g.length<50){v behind:Nat}(hv:v<g.length)(yY:behind+OP E v<=p.chain)(ht:TdM R k x gb pb fb X w)
  (ih:0<Ln g E v->∀(X':Nat->Prop) (w':World),TdM R k x gb pb fb X' w'->RV R k x gb pb fb (v-Ln g E v) (behind+1) X' w'):RV R k x gb pb fb v behind X w:=by
 have av:=ht.gw.ok
 have hn:=av.gr.n
 have Kd:p.chain<=1000000:=by have:=av.M3.2.1;omega
 obtain⟨dC,cP,o2⟩:=av.suc hv
 have fX:=av.XQ hv
 have vJ:=ht.bg
 unfold RV
 refine KJ (e:=[(0,_),(1,_),(2,_),(3,_),(4,_)]) Tryz.func129 rfl Tryz.ntmps129 rfl rfl (qN rfl (KO rfl (KO rfl (qM rfl (qV (KS Z6 rfl rfl vJ rfl) (An rfl (La [.tmp 16,.tmp 17] zcm rfl (z1g ht.gw hv) ?_)))))))
 rintro _ w1 ⟨b,a,s,rest,rfl,lL,o5,bS,h1,aM⟩
 have lb1:=lL.1.lt
 have ly:∀j,X j->j≠b:=fun j hj e=>by have:=ht.gw.lt j hj;omega
 refine An rfl (qV (Lu (v:= .agg #[I ((L9 g v).length:Int),I (Ln g E v:Int)]) rfl rfl) (qV (Lu (v:=ptr b 0) rfl rfl) (qV (Lu (v:=I ((a+(Ld (Ow p g E v)).length:Nat):Int)) rfl rfl) (qV (Lu (v:=I 0) rfl rfl) (KU rfl rfl (N3 (cs:=[_,_]) Ns rfl) ?_)))))
 rintro _ w2 ⟨b9,rfl,nV,af,cC⟩
 refine L0 rfl (Lz (news:=[I ((L9 g v).length:Int),I (Ln g E v:Int)]) Ns rfl rfl rfl rfl cC (by simp)) ?_
 rintro w3 ⟨cd,au⟩
 replace cd:KY w3 b9 [I ((L9 g v).length:Int),I (Ln g E v:Int)] 239:=cd
 have aX:Ext w1 w3:=af.KK au (fun j e=>by omega)
 have l93:=cd.lt
 have z13:=aX.size
 have h3:PL R k x (fun j=>(X j\/j=b)\/j=b9) w3:=h1.grow aX (fun j hj=>hj.imp id fun e=>by omega) (fun j hj=> .inl hj)
 have cm:Kp (fun j=>¬X j) w w3:=aM.trans aX.kp
 have oS:TdM R k x gb pb fb (fun j=>(X j\/j=b)\/j=b9) w3:=ht.step cm (fun j e e'=>e e') h3 (fun j hj=> .inl (.inl hj))
 have o9:OQ w3 b s a:=⟨aX.KN lL.1,lL.2⟩
 refine KO rfl (KO rfl (KO rfl (py (run_seq (qN rfl (An rfl (qV (M0 rfl rfl) (py (KH rfl (It (qN rfl (KO rfl (py ?_)))))))))))))
 refine run_seq (qN rfl (qV (KT Nt rfl) (qV (KS U3 rfl rfl cd rfl) (qV (LU rfl rfl) (py (Ll.qb (e:=[(0,_),(1,_),(2,_),(3,_),(4,_),(7,_),(8,_),(9,_),(10,_),(11,_),(12,_),(13,_),(28,_)]) ?_))))))
 refine Lx (fun e' w'=>∃vb,e'=[(0,I (v:Int)),(2,ptr gb 0),(3,ptr pb 0),(9,ptr b9 0),(10,ptr b 0),(11,I ((a+(Ld (Ow p g E v)).length:Nat):Int)),(13,vb)]/\PL R k x (fun j=>(X j\/j=b)\/j=b9) w'/\Kp (fun j=>¬((X j\/j=b)\/j=b9)) w3 w'/\(Ln g E v=0->vb= .slice none 0 0)/\(0<Ln g E v->Z2 w' vb (L9 g (v-Ln g E v)))/\(∀j,vb.ownBlock=some j->j≠b)) ?cq (fun cq=>?cJ)
 case cq=>
  rintro e' w4 ⟨vb,rfl,h4,aw,tz,eY,Ci⟩;have uQ:TdM R k x gb pb fb (fun j=>(X j\/j=b)\/j=b9) w4:=oS.step aw (fun j e e'=>e e') h4 (fun j hj=>hj);have jN:=aw.KN cd (fun e=>e (.inr rfl));have ge:OQ w4 b s a:=⟨aw.KN o9.1 (fun e=>e (.inl (.inr rfl))),o9.2⟩;have wV:=uQ.bg;have iO:=uQ.bp;have wW:=uQ.gw.cells;have ae:=Ext.Lb w4;refine run_seq ?_;have ngb:gb≠b:=ly gb ht.xg;have nk:k≠b:=ly k ht.gw.xk;have npb:pb≠b:=ly pb ht.xp;have n9:b9≠b:=by omega
  refine KV (fun w'=>Kp (fun j=>j=b) w4 w') (by kernel_rfl) rfl (KR 0 rfl (KW rfl) (ae.kp) (KR 1 rfl (KW rfl) (ae.kp) (qT 2 rfl (fun _ h=>(by first|exact KS Z6 rfl rfl (h.KN wV ngb) rfl|exact KS Z6 rfl rfl (h.KN wW nk) rfl)) (ae.kp) ?_)));refine KR 3 rfl (L6 rfl) (ae.kp) (KR 4 rfl (KT RO rfl) (ae.kp) (KR 5 rfl (KT P7 rfl) (ae.kp) (qT 6 rfl (fun _ h=>(by first|exact KS U3 rfl rfl (h.KN wV ngb) rfl|exact KS U3 rfl rfl (h.KN wW nk) rfl)) (ae.kp) ?_)));refine KR 8 rfl (KW rfl) (ae.kp) (qT 7 rfl (fun _ hS=>Lj (news:=[I ((L9 g v).length:Int),I (Ln g E v:Int)]) YS rfl Ns rfl (KY.cells (n:=2) (hS.KN jN n9) rfl) rfl) (ae.kp) (qT 9 rfl (fun _ h=>Lj (news:=Qf p) VA rfl MP rfl (KY.cells (n:=5) (h.KN iO npb) rfl) rfl) (ae.kp) (O2 10 [.tmp 80] rfl VD rfl (NZ p w4.drew) ?_)));rintro _ w5 ⟨rfl,aR⟩;refine⟨(ae.trans aR).kp,?_⟩;have db:=ae.trans aR;have h5:=h4.ext db;have qK:OQ w5 b s a:=⟨db.KN ge.1,ge.2⟩;have Cj:¬1=b:=fun e=>ly 1 ht.gw.x1 e;have Ck:¬2=b:=fun e=>ly 2 ht.gw.x2 e;refine O2 11 [.tmp 71,.tmp 72,.tmp 77,.tmp 78,.tmp 79,.tmp 81] rfl zb3 rfl (z4e av iH hv qK o5 h5.gam h5.una Cj Ck tz (fun e=>(eY e).ext db) Ci) ?_;rintro _ w6 ⟨vv,rfl,iI,m9,kr,aT⟩;refine⟨db.kp.trans aT,?_⟩;refine KR 12 rfl (KW rfl) (db.kp.trans aT) (KR 13 rfl (Lu (v:=vv) rfl rfl) (db.kp.trans aT) (KR 15 rfl (MO rfl) (db.kp.trans aT) (KR 14 rfl (Lu (v:=I 0) rfl rfl) (db.kp.trans aT) (KR 16 rfl (MO rfl) (db.kp.trans aT) (qE (run_seq (qN rfl (An rfl (qV (M0 rfl rfl) (An rfl (An rfl (La [.tmp 88] Tn rfl (P8 kr) ?_))))))))))));rintro _ w6 ⟨rfl,rfl⟩;refine An rfl (qV (M0 rfl rfl) (Ly (qV (Ls rfl rfl) (py (Ll.qb (e:=[(14,_),(92,_)]) ?_)))));refine KH rfl (It (qN rfl (An rfl (KO rfl (KO rfl (py (KP Tryz.func129 rfl ?_)))))));have z34:=aw.size;have z45:=db.size;have z03:=cm.size;have h6:=(h5.step (Y:=fun j=>((X j\/j=b)\/j=b9)\/vv.ownBlock=some j) aT (fun j e=>⟨.inl (.inr e),fun e'=>ly k ht.gw.xk (e'▸e),fun e'=>ly x ht.gw.xx (e'▸e),fun e'=>ly 1 ht.gw.x1 (e'▸e),fun e'=>ly 2 ht.gw.x2 (e'▸e)⟩) (fun j hj=>hj.imp id fun e=>⟨m9 j e,iI.lt e⟩) (fun j hj=> .inl hj)).less (X:=fun j=>X j\/vv.ownBlock=some j) (fun j hj=>hj.imp (fun e=> .inl (.inl e)) id) (.inl ht.gw.xk) (.inl ht.gw.xx) (.inl ht.gw.x1) (.inl ht.gw.x2);exact⟨_,rfl,vv,rfl,iI,fun j e=>by have:=m9 j e;omega,h6,((cm.trans (aw.L2 fun j e e'=>e (.inl (.inl e')))).trans db.kp).trans (aT.L2 fun j e e'=>ly j e' e)⟩
 case cJ=>
  refine KZ rfl (fun h0=>?_) (fun h0=>?_)
  ·have tR:0<Ln g E v:=by omega
   obtain⟨q1,q2,q3,q4,q5,q6,q7,q8⟩:=av.back hv tR;have lz:=oS.bp;have lA:=oS.bf;refine run_seq (qN rfl (qV (KT Nt rfl) (qV ((by first|exact KS U3 rfl rfl cd rfl|exact KS U3 rfl rfl lz rfl|exact KS U3 rfl rfl lA rfl)) ?_)));refine An rfl (qV (LU rfl rfl) (Ly (An rfl (An rfl (qV (KT TU rfl) (qV ((by first|exact KS U3 rfl rfl cd rfl|exact KS U3 rfl rfl lz rfl|exact KS U3 rfl rfl lA rfl)) ?_))))));refine qV (Ou rfl rfl) (Ly (qV (Ls rfl rfl) (An rfl (qV (KT Og rfl) (qV ((by first|exact KS U3 rfl rfl cd rfl|exact KS U3 rfl rfl lz rfl|exact KS U3 rfl rfl lA rfl)) ?_)))));refine qV (KT OD rfl) (qV ((by first|exact KS U3 rfl rfl cd rfl|exact KS U3 rfl rfl lz rfl|exact KS U3 rfl rfl lA rfl)) ?_);refine qV (LU rfl rfl) (Ly (qV (Ls rfl rfl) (py (Ll.qb (e:=[(0,_),(1,_),(2,_),(3,_),(4,_),(7,_),(8,_),(9,_),(10,_),(11,_),(12,_),(13,_),(45,_)]) ?_))));refine KH rfl (It (run_seq (qN rfl (qV ((by first|exact KS z7i rfl rfl cd rfl|exact KS z7i rfl rfl lz rfl|exact KS z7i rfl rfl lA rfl)) ?_))));refine An rfl (qV (KT Nt rfl) (qV ((by first|exact KS U3 rfl rfl cd rfl|exact KS U3 rfl rfl lz rfl|exact KS U3 rfl rfl lA rfl)) ?_));refine qV (Md rfl rfl (by omega)) ?_;rw[show(v:Int)-(Ln g E v:Int)=((v-Ln g E v:Nat):Int) by omega];refine An rfl (LH rfl rfl ?_);rw[show(behind:Int)+1=((behind+1:Nat):Int) by omega];have Fb:=ih tR _ w3 oS;unfold RV at Fb;refine Mi rfl rfl (Nk (args:=[.tmp 51,.tmp 53]) z7X rfl rfl) (Fb) ?_;rintro _ w4 ⟨vb,rfl,dU,oJ,h4,aw⟩
   obtain⟨vo,vc,rfl,rP⟩:∃o c,vb= .slice (some ⟨o,0,none⟩) (L9 g (v-Ln g E v)).length c/\w3.heap.size<=o:=by
    rcases dU.shape with⟨-,e⟩|⟨o,c,e,hc⟩
    ·omega
    ·exact⟨o,c,e,oJ o (by rw[e];rfl)⟩
   refine An rfl (qV (Lu (v:= .slice (some ⟨vo,0,none⟩) (L9 g (v-Ln g E v)).length vc) rfl rfl) (qV (Lu (v:=I 0) rfl rfl) (KO rfl (KO rfl (qM rfl (An rfl (qV (M0 rfl rfl) ?_)))))));have iO:=(oS.step aw (fun j e e'=>e e') h4 (fun j hj=> .inl hj)).bp;refine py (Ll.qb (e:=[(0,_),(2,_),(3,_),(7,_),(8,_),(9,_),(10,_),(11,_),(12,_),(13,_),(58,_)]) ?_);refine KH rfl (It (qN rfl (An rfl (qV (LM Li rfl) (qV (Mr rfl rfl) (Ly (An rfl (An rfl (qV (LM Li rfl) (qV (KT OD rfl) (qV (KS U3 rfl rfl iO rfl) (qV (LU rfl rfl) (Ly ?_)))))))))))));refine qV (Ls rfl rfl) (py (KH rfl (It ?_)));exact(cq _ _ ⟨_,rfl,h4.less (fun j hj=> .inl hj) h3.xk h3.xx h3.x1 h3.x2,aw,fun e=>by omega,fun _=>dU,fun j e=>by have e':vo=j:=ML e;omega⟩).qb
  ·refine It ?_;exact(cq _ _ ⟨_,rfl,h3,Kp.refl _ _,fun _=>rfl,fun e=>by omega,fun j e=>by cases e⟩).qb
theorem VV (iH:g.length<50):∀(d:Nat) {v behind:Nat} {X:Nat->Prop} {w:World},OP E v<=d->v<g.length->behind+OP E v<=p.chain->TdM R k x gb pb fb X w->RV R k x gb pb fb v behind X w
 | 0, v, behind, X, w, hd, hv, yY, ht => Uk iH hv yY ht fun h0 => by
   obtain⟨q1,q2,-⟩:=ht.gw.ok.back hv h0
   omega
 | d + 1, v, behind, X, w, hd, hv, yY, ht => Uk iH hv yY ht fun h0 X' w' HX => by
   obtain⟨q1,q2,-⟩:=ht.gw.ok.back hv h0;exact VV iH d (by omega) (by omega) (by omega) HX
theorem NY.z6u (h:NY p g E){v:Nat}(hv:v<g.length):OP E v<=p.chain:=by
 rcases h.ent hv with e|⟨h1,h2,h3,l,e',h4,h5,h6,h7⟩
 ·unfold OP;rw[e];exact Nat.zero_le _
 ·have HW:=of_decide_eq_true h7;unfold OP;omega
theorem z0I (iH:g.length<50){v:Nat}(hv:v<g.length)(h:PL R k x X w):Lk Tryz.prog 94 [ptr k 0,I (v:Int)] w fun r w'=>∃vv,r= .tuple #[vv,I 0]/\Z2 w' vv (L9 g v)/\(∀b,vv.ownBlock=some b->w.heap.size<=b)/\PL R k x (fun j=>X j\/vv.ownBlock=some j) w'/\Kp (fun j=>¬X j) w w':=by
 refine KJ (e:=[(0,_),(1,_)]) Tryz.func94 rfl Tryz.ntmps94 rfl rfl (qN rfl (KU rfl rfl (MH rfl (cs:=[ptr k 0]) rfl) ?_))
 rintro _ w1 ⟨gb,rfl,HY,ad,vJ⟩
 refine KO rfl (KO rfl (py (run_seq (qN rfl (qV (KS Z6 rfl rfl vJ rfl) (An rfl (KU rfl rfl (Tx (parts:=[(0,.tmp 10)]) (cs:=[_]) (zs:=[Value.int .i64 0]) Mw LG rfl (by kernel_rfl) rfl rfl rfl (by decide)) ?_)))))))
 rintro _ w2 ⟨vb,rfl,⟨ep,af,Ke⟩,HZ⟩
 have h2:=(h.ext ad).ext af
 have sx:=af.KN vJ
 have Cl:=h2.cells
 have z1:=ad.size
 have z2:=af.size
 refine La [.tmp 9,.tmp 11] z9V rfl (z0V h2 hv HZ.rd) ?_
 rintro _ w2 ⟨rfl,rfl⟩
 refine KO rfl (qM rfl (An rfl (qV (M0 rfl rfl) (py (KH rfl (It (qN rfl (qV (KS Z6 rfl rfl sx rfl) (qV (L6 rfl) (qV (KT RO rfl) (qV (KT Th rfl) (qV (Lj (news:=Qf p) VA rfl MP rfl (KY.cells (i:=2) (n:=5) Cl rfl) rfl) (KU rfl rfl (N3 (cs:=[_,_,_,_,_]) MP rfl) ?_)))))))))))))
 rintro _ w3 ⟨pb,rfl,pR,ah,oI⟩
 refine L0 rfl (Lz (news:=Qf p) MP rfl rfl rfl rfl oI (by simp)) ?_
 rintro w4 ⟨iO,aw⟩
 replace iO:KY w4 pb [I (p.Lf:Int),I (p.chain:Int),I (p.interval:Int),I (p.zeta:Int),I (p.most:Int)] 77:=iO
 have dl:Ext w2 w4:=ah.KK aw (fun j e=>by omega)
 refine qM rfl (KU rfl rfl (N3 (cs:=[_]) z8n rfl) ?_)
 rintro _ w5 ⟨fb,rfl,Kf,aR,cU⟩
 refine qM rfl (qV (Zj (first:=[]) (caps:=[.tmp 2,.tmp 7,.tmp 8]) rfl rfl) (L0 rfl (Mt z8n rfl rfl rfl cU (by simp)) ?_))
 rintro w6 ⟨wX,aT⟩
 have cF:Ext w4 w6:=aR.KK aT (fun j e=>by omega)
 have gX:=dl.trans cF
 have z6:=gX.size
 have lg:=sx.lt
 have lp:=iO.lt
 have lf:=wX.lt
 have z24:=dl.size
 have z3:=ah.size
 have z46:=cF.size
 have gZ:=(ad.trans af).trans gX
 have h6:PL R k x (fun j=>X j\/j=gb\/j=pb\/j=fb) w6:=h.grow gZ (fun j hj=>hj.imp id fun e=>by omega) (fun j hj=> .inl hj)
 have tH:TdM R k x gb pb fb (fun j=>X j\/j=gb\/j=pb\/j=fb) w6:=⟨h6,gX.KN sx,cF.KN iO,wX,.inr (.inl rfl),.inr (.inr (.inl rfl)),.inr (.inr (.inr rfl))⟩
 have wY:=tH.bf
 have eA:=VV iH _ (behind:=0) (Nat.le_refl _) hv (by have:=h.ok.z6u hv;omega) tH
 unfold RV at eA
 refine qM rfl (qV (KS z7i rfl rfl wY rfl) (An rfl (Mi rfl rfl (Nk (args:=[.tmp 23,.const (Value.int .i64 0)]) z7X rfl rfl) (eA) ?_)))
 rintro _ w7 ⟨vv,rfl,gK,nQ,h7,aA⟩
 refine qV (Lu (v:=vv) rfl rfl) (qV (Lu (v:=I 0) rfl rfl) (KO rfl (KO rfl (py (Ll.qb (e:=[(4,_),(5,_)]) ?_)))))
 refine KP Tryz.func94 rfl ?_
 exact⟨_,rfl,vv,rfl,gK,fun j e=>by have:=nQ j e;omega,h7.less (fun j hj=>hj.imp .inl id) (.inl h.xk) (.inl h.xx) (.inl h.x1) (.inl h.x2),gZ.kp.trans (aA.L2 fun j e e'=>e (.inl e'))⟩
end
def ZZ (b:Bool):Value:= .int .u8 (if b then 1 else 0)
structure Sj (w:World)(m gi:Nat)(L:List Bool):Prop where
 KN:KY w m [I 2,.slice (some ⟨gi,0,none⟩) L.length L.length,.slice none 0 0,.bool false] 110
 sl:Sl w (.slice (some ⟨gi,0,none⟩) L.length L.length) 154 1 L.length (L.map ZZ)
 ne:gi≠m
 n:L.length<=4096
 n2:2<=L.length
section
variable {w w':World}{m gi:Nat}{L:List Bool}{S:Nat->Prop}
theorem Sj.kp (h:Sj w m gi L)(hk:Kp S w w')(h1:¬S m)(h2:¬S gi):Sj w' m gi L:=
 ⟨hk.KN h.KN h1,h.sl.kp hk fun g e=>by cases e;exact h2,h.ne,h.n,h.n2⟩
theorem Sj.ext (h:Sj w m gi L)(hx:Ext w w'):Sj w' m gi L:=h.kp (S:=fun _=>False) hx id id
theorem Sj.ltm (h:Sj w m gi L):m<w.heap.size:=h.KN.lt
theorem Sj.ltg (h:Sj w m gi L):gi<w.heap.size:=h.sl.lt rfl
theorem Sj.get (h:Sj w m gi L){i:Nat}{b:Bool}(hi:L[i]? =some b):w.cell? ⟨gi,0+i*1,none⟩=some (ZZ b):=
 LV h.sl.rd (by rw[List.getElem?_map,hi];rfl)
theorem z2L (B:Nat)(hB:2<=B/\B<=4096)(w:World):Lk Tryz.prog 22 [I 2,I (B:Int)] w fun v w'=>∃m gi,v= .tuple #[ptr m 0,I 0]/\Sj w' m gi (List.replicate B false)/\w.heap.size<=m/\w.heap.size<=gi/\Ext w w':=by
 refine KJ (e:=[(0,_),(1,_)]) Tryz.func22 rfl Tryz.ntmps22 rfl rfl (qN rfl (KO rfl (KO rfl (py (run_seq (qN rfl (An rfl (qV (LX rfl rfl) (Ly (An rfl (An rfl (An rfl (qV (LU rfl rfl) ?_)))))))))))))
 refine Ly (qV (Ls rfl rfl) (An rfl (An rfl (qV (LU rfl rfl) (Ly (qV (Ls rfl rfl) (py (KH rfl (It (qN rfl (An rfl (An rfl (KU rfl rfl (pmk (c:=B) (n:=B) OA WK rfl rfl rfl (Nat.le_refl _) (by omega) (by simp only[maxLen];omega)) ?_)))))))))))))
 rintro _ w1 ⟨gi,rfl,⟨s6,ad,ai⟩,jc⟩
 refine qV (NA (parts:=[(0,.tmp 17),(1,.tmp 19)]) (cs:=[_,_,_,_]) zcj rfl zcK rfl rfl) (KU rfl rfl (MH rfl (cs:=[I 2,.slice (some ⟨gi,0,none⟩) B B,.slice none 0 0,.bool false]) rfl) ?_)
 rintro _ w2 ⟨m,rfl,hm,af,ak⟩
 refine KO rfl (KO rfl (py (KP Tryz.func22 rfl ?_)))
 have:=ad.size
 have lg:=jc.lt (g:=gi) rfl
 refine⟨_,rfl,m,gi,rfl,⟨by rw[List.length_replicate];exact ak,?_,by omega,by rw[List.length_replicate];omega,by rw[List.length_replicate];omega⟩,by omega,by omega,ad.trans af⟩
 rw[List.length_replicate,List.map_replicate]
 exact jc.ext af
def Mz (L:List Bool)(s n:Nat)(b:Bool):List Bool:=L.take s++(List.replicate n b++L.drop (s+n))
theorem My {L:List Bool}{s n:Nat}{b:Bool}(h:s+n<=L.length):(Mz L s n b).length=L.length:=by
 unfold Mz
 rw[List.length_append,List.length_append,List.length_take,List.length_replicate,List.length_drop];omega
theorem z32 (L:List Bool)(s:Nat)(b:Bool):Mz L s 0 b=L:=by simp[Mz]
theorem z3Q {L:List Bool}{s n:Nat}{b:Bool}(h:s+n<L.length):(Mz L s n b).set (s+n) b=Mz L s (n+1) b:=by
 have h1:(L.take s++List.replicate n b).length=s+n:=by rw[List.length_append,List.length_take,List.length_replicate];omega
 unfold Mz
 rw[<-List.append_assoc,List.set_append_right _ _ (by omega),h1,Nat.sub_self,List.drop_eq_getElem_cons h,List.set_cons_zero,List.replicate_succ',List.append_assoc,List.append_assoc]
 rfl
theorem Xo (h:Sj w m gi L)(s n:Nat)(b:Bool)(hs:s+n<=L.length):Lk Tryz.prog 108 [ptr m 0,.agg #[I (s:Int),I (n:Int)],ZZ b] w fun v w'=>v= .tuple #[]/\Sj w' m gi (Mz L s n b)/\Kp (fun k=>k=gi) w w':=by
 have hn:=h.n
 refine KJ (e:=[(0,_),(1,_),(2,_)]) Tryz.func108 rfl Tryz.ntmps108 rfl rfl (qN rfl (KU rfl rfl (MH rfl (cs:=[I (s:Int),I (n:Int)]) rfl) ?_))
 rintro _ w1 ⟨b4,rfl,gh,ad,aJ⟩
 have lg:=h.ltg
 have l4:=aJ.lt
 have h1:=h.ext ad
 refine qM rfl (qV (KT MS rfl) (qV (KS U3 rfl rfl aJ rfl) (An rfl (py (KL (MV (α:=Nat) (0) (fun i=>[(0,ptr m 0),(2,ZZ b),(4,ptr b4 0),(8,I (n:Int)),(9,I (i:Int))]) (fun i w'=>Sj w' m gi (Mz L s i b)/\Kp (fun k=>k=gi) w1 w'/\i<=n) (fun i=>n-i) ?hI ?hround))))))
 case hI=>exact⟨by rw[z32];exact h1,Kp.refl _ _,Nat.zero_le _⟩
 case hround=>
  rintro i w2 ⟨h2,am,hi⟩ ih
  try dsimp only
  refine qN rfl (qV (LX rfl rfl) (py (run_seq (KZ rfl (fun h0=>?_) (fun h0=>?_)))))
  ·have aW:i<n:=by omega
   have hl:=My (L:=L) (s:=s) (n:=i) (b:=b) (by omega);have ak:=h2.KN;have bq:=am.KN aJ (by omega);have hg:=Ext.Lb w2;refine It (run_seq (KL (qN rfl (An rfl (KO rfl (py (Le [10] (fun w'=>Ext w2 w') (by kernel_rfl) rfl (qL [1,2,3,9,10] 0 rfl (fun _ h=>KW rfl) hg (qL [2,3,9,10] 1 rfl (fun _ h=>L6 rfl) hg (qL [3,9,10] 2 rfl (fun _ h=>KT Q5 rfl) hg (qL [9,10] 3 rfl (fun _ h=>(by first|exact KS OA rfl rfl (h.KN ak) rfl|exact KS OA rfl rfl (h.KN bq) rfl)) hg ?_)))))))))));refine qL [5,7,9,10] 4 rfl (fun _ h=>KT MN rfl) hg (qL [7,9,10] 5 rfl (fun _ h=>(by first|exact KS U3 rfl rfl (h.KN ak) rfl|exact KS U3 rfl rfl (h.KN bq) rfl)) hg ?_);refine qL [7,9,10] 6 rfl (fun _ h=>KW rfl) hg (qL [9,10] 7 rfl (fun _ h=>PM rfl rfl (by omega)) hg (qL [9,10] 8 rfl (fun _ h=>KW rfl) hg (qL [10] 9 rfl (fun _ h=>LC OA WK rfl rfl (by omega)) hg (LD [10] (by kernel_rfl) (by kernel_rfl) (qO 10 (Lv (i:=10) rfl rfl (MY WK rfl rfl rfl (h2.ext hg).sl (by rw[List.length_map,hl];omega)) ?_))))));rintro w3 ⟨cM,au⟩;refine⟨trivial,?_⟩
   have h3:Sj w3 m gi (Mz L s (i+1) b):=by
    refine⟨?_,?_,h2.ne,by rw[My (by omega)];exact h.n,by rw[My (by omega)];exact h.n2⟩
    ·rw[My (by omega),<-hl];exact au.KN (hg.KN ak) (fun e=>h2.ne e.symm)
    ·rw[show 0+(s+i)*1=s+i by omega,<-List.map_set,z3Q (by omega)] at cM;rw[My (by omega),<-hl];exact cM
   refine qE (KM (KQ rfl (LH rfl rfl (An rfl (py ?_)))));exact(ih (i+1) _ ⟨h3,am.trans (hg.kp.trans au),by omega⟩ (by omega)).qb
  ·have aW:i=n:=by omega
   subst aW;refine KX rfl (M8 Tryz.func108 rfl ?_);exact⟨_,rfl,rfl,h2,ad.kp.trans am⟩
end
structure ZX (L:List Bool)(a:Nat):Prop where
 a2:2<=a
 le:a<=L.length
 tk:∀i,2<=i->i<a->L[i]? =some true
 fr:∀i,a<=i->i<L.length->L[i]? =some false
section
variable {w w':World}{m gi a:Nat}{L:List Bool}{S:Nat->Prop}
theorem T8 {l bm : Nat}(hm : Sj w m gi L)(hp : ZX L a)(ha : a < L.length)(jW : KY w bm [ptr m 0] 55)(J : World -> Prop)(hJ : ∀ w w', J w -> Ext w w' -> J w')
  (hround:∀w',Ext w w'->Xs Tryz.prog l [.agg #[I (a:Int),I ((L.length-a:Nat):Int)]] w' fun v w''=>(v= .bool true/\J w''/\KY w'' bm [ptr m 0] 55/\Sj w'' m gi L)\/(v= .bool false/\J w'')):
  Lk Tryz.prog 63 [.func (.yield l) #[] #[],ptr bm 0] w fun v w'=>v= .tuple #[]/\J w':=by
 have hn:=hm.n
 have rt:=hp.a2
 have hB:=hm.KN
 refine KJ (e:=[(0,_),(1,_)]) Tryz.func63 rfl Tryz.ntmps63 rfl rfl (qN rfl (qV ((by first|exact KS Wo rfl rfl jW rfl|exact KS Wo rfl rfl hB rfl)) ?_))
 refine qV (L6 rfl) (qV (KT z1P rfl) (qV ((by first|exact KS U3 rfl rfl jW rfl|exact KS U3 rfl rfl hB rfl)) ?_))
 refine KO rfl (py (KL (MV (α:=Nat) (2) (fun i=>[(0,.func (.yield l) #[] #[]),(1,ptr bm 0),(3,I (i:Int))]) (fun i w'=>KY w' bm [ptr m 0] 55/\Sj w' m gi L/\((2<=i/\i<=a/\Ext w w')\/(i=L.length+1/\J w'))) (fun i=>L.length+1-i) ?hI ?hround)))
 case hI=>exact⟨jW,hm,.inl ⟨Nat.le_refl _,rt,Ext.refl _⟩⟩
 case hround=>
  rintro i w1 ⟨pi,o8,fN⟩ ih;have ai:=o8.KN
  try dsimp only
  refine run_seq (qN rfl (An rfl (qV ((by first|exact KS Wo rfl rfl pi rfl|exact KS Wo rfl rfl ai rfl)) ?_)));refine qV (L6 rfl) (qV (KT Q5 rfl) (qV ((by first|exact KS OA rfl rfl pi rfl|exact KS OA rfl rfl ai rfl)) ?_));refine qV (LM OA rfl) (qV (LX rfl rfl) (py (KZ rfl (fun h0=>?_) (fun h0=>?_))))
  ·have sy : 2 <= i /\ i <= a /\ Ext w w1 := by
    rcases fN with h| h
    ·exact h
    ·omega
   obtain⟨di,Kg,ad⟩:=sy;refine It (run_seq (KL (qN rfl (An rfl (qV (NA (parts:=[(0,.tmp 18)]) (cs:=[_,_]) Nh rfl zdH rfl rfl) (KU rfl rfl (N3 (cs:=[_,_]) Nh rfl) ?_))))));rintro _ w2 ⟨b4,rfl,gh,af,aJ⟩;refine L0 rfl (Lz (news:=[I (i:Int),I 0]) Nh rfl rfl rfl rfl aJ (by simp)) ?_;rintro w3 ⟨dA,au⟩;replace dA:KY w3 b4 [I (i:Int),I 0] 97:=dA;have aX:Ext w1 w3:=af.KK au (fun j e=>by omega);have lB:=aX.KN pi;have kw:=o8.ext aX;have ao:=kw.KN;refine py (run_seq (KL (MV (α:=Nat) (i) (fun j=>[(0,.func (.yield l) #[] #[]),(1,ptr bm 0),(3,I (j:Int)),(4,ptr b4 0)]) (fun j w'=>w'=w3/\i<=j/\j<=L.length/\(i<j->i=a)) (fun j=>L.length-j) ?hI ?hround)))
   case hI=>exact⟨rfl,Nat.le_refl _,by omega,fun h=>absurd h (by omega)⟩
   case hround =>
    rintro j w4 ⟨rfl,gI,Kh,Cm⟩ ih2
    try dsimp only
    rcases Nat.lt_or_ge j L.length with hj|hj
    ·obtain⟨b,hb⟩:∃b,L[j]? =some b:=⟨_,List.getElem?_eq_getElem hj⟩;have bc:=kw.get hb;refine run_seq (qN rfl (An rfl (qV ((by first|exact KS Wo rfl rfl lB rfl|exact KS Wo rfl rfl ao rfl)) ?_)));refine qV (L6 rfl) (qV (KT Q5 rfl) (qV ((by first|exact KS OA rfl rfl lB rfl|exact KS OA rfl rfl ao rfl)) ?_));refine qV (LM OA rfl) (qV (LX rfl rfl) (MR (An rfl (qV ((by first|exact KS Wo rfl rfl lB rfl|exact KS Wo rfl rfl ao rfl)) ?_))));refine qV (L6 rfl) (qV (KT Q5 rfl) (qV ((by first|exact KS OA rfl rfl lB rfl|exact KS OA rfl rfl ao rfl)) ?_));refine An rfl (qV (LC OA WK rfl rfl (by omega)) ?_)
     cases b with
     | true =>
       refine qV (Lm (v:= .int .u8 1) z60 rfl rfl bc) ?_
       have I0:i<a:=by
        rcases Nat.lt_or_ge i a with h| h
        ·exact h
        ·have:=hp.fr j (by omega) hj;rw[this] at hb;cases hb
       have qe:j=i:=by
        rcases Nat.lt_or_ge i j with h| h
        ·have:=Cm h;omega
        ·omega
       subst qe;refine qV (Mr rfl rfl) (Ly (qV (LR rfl rfl) (py (KH rfl (KX rfl (qN rfl (An rfl (qV (KT MN rfl) (qV (KS U3 rfl rfl dA rfl) (qV (Md rfl rfl (by omega)) (qV (KT MS rfl) (L0 rfl (Mt LG rfl rfl rfl dA (by simp)) ?_))))))))))));rintro w5 ⟨aK,aj⟩;rw[show(j:Int)-(j:Int)=0 by omega] at aK;replace aK:KY w5 b4 [I (j:Int),I 0] 97:=aK;have ce:Ext w1 w5:=aX.KK aj (fun q e=>by have:=af.size;omega);refine qM rfl (qV (KT MS rfl) (qV (KS U3 rfl rfl aK rfl) (qV (LU rfl rfl) (An rfl (qS (qS (qS (qS (qV (Ls rfl rfl) (py (KH rfl (It (KM ?_)))))))))))));refine KQ rfl (An rfl (LH rfl rfl (KO rfl (py ?_))))
       exact(ih (j+1) w5 ⟨ce.KN pi,o8.ext ce,.inl ⟨by omega,by omega,ad.trans ce⟩⟩ (by omega)).qb
     | false =>
       refine qV (Lm (v:= .int .u8 0) z60 rfl rfl bc) (qV (Mr rfl rfl) (MR (qV (LR rfl rfl) ?_)))
       have sA:i=a:=by
        rcases Nat.lt_or_ge i a with h| h
        ·rcases Nat.lt_or_ge i j with h2|h2
         ·exact Cm h2
         ·have e:j=i:=by omega
          subst e;have:=hp.tk j di h;rw[this] at hb;cases hb
        ·omega
       refine py (L3 rfl (It (KL (KQ rfl (An rfl (LH rfl rfl (KO rfl (py (KM ?_)))))))));exact(ih2 (j+1) _ ⟨rfl,by omega,by omega,fun _=>sA⟩ (by omega)).qb
    ·have I1:j=L.length:=by omega
     subst I1;have sA:=Cm (by omega);subst sA;refine run_seq (qN rfl (An rfl (qV ((by first|exact KS Wo rfl rfl lB rfl|exact KS Wo rfl rfl ao rfl)) ?_)));refine qV (L6 rfl) (qV (KT Q5 rfl) (qV ((by first|exact KS OA rfl rfl lB rfl|exact KS OA rfl rfl ao rfl)) ?_));refine qV (LM OA rfl) (qV (LX rfl rfl) (Ly (An rfl (qS (qS (qS (qS (qS (qS (qS (qS (qV (Ls rfl rfl) (py ?_)))))))))))));refine KH rfl (KX rfl (qN rfl (An rfl (qV (KT MN rfl) (qV (KS U3 rfl rfl dA rfl) (qV (Md rfl rfl (by omega)) (qV (KT MS rfl) (L0 rfl (Mt LG rfl rfl rfl dA (by simp)) ?_))))))));rintro w5 ⟨aK,aj⟩;rw[show(L.length:Int)-(i:Int)=((L.length-i:Nat):Int) by omega] at aK;replace aK:KY w5 b4 [I (i:Int),I ((L.length-i:Nat):Int)] 97:=aK;have ce:Ext w1 w5:=aX.KK aj (fun q e=>by have:=af.size;omega);refine qM rfl (qV (KT MS rfl) (qV (KS U3 rfl rfl aK rfl) (qV (LU rfl rfl) (MR (An rfl (An rfl (qV (Lj (news:=[I (i:Int),I ((L.length-i:Nat):Int)]) YE rfl Nh rfl (KY.cells (n:=2) aK rfl) rfl) (z1B rfl rfl (yy (args:=[.tmp 49]) rfl rfl) (hround w5 (ad.trans ce)) ?_))))))));rintro v w6 hv;rcases hv with⟨rfl,wZ,Cn,I2⟩|⟨rfl,wZ⟩
     ·refine qV ((by first|exact LN rfl|exact Na rfl)) ?_;refine qV (LR rfl rfl) (py (KH rfl (It (KM (KQ rfl (An rfl (LH rfl rfl (KO rfl (py ?_)))))))));exact(ih (L.length+1) w6 ⟨Cn,I2,.inr ⟨rfl,wZ⟩⟩ (by omega)).qb
     ·refine qV ((by first|exact LN rfl|exact Na rfl)) ?_;refine qV (LR rfl rfl) (py (L3 rfl (KP Tryz.func63 rfl ?_)));exact⟨_,rfl,rfl,wZ⟩
  ·rcases fN with⟨-,h,-⟩|⟨-,wZ⟩
   ·omega
   ·refine KX rfl (M8 Tryz.func63 rfl ?_);exact⟨_,rfl,rfl,wZ⟩
theorem SK (w:World)(m:Nat):Lk Tryz.prog 35 [ptr m 0] w fun v w'=>∃bm,v= .func (.func 63) #[] #[ptr bm 0]/\KY w' bm [ptr m 0] 55/\w.heap.size<=bm/\Ext w w':=by
 refine KJ (e:=[(0,_)]) Tryz.func35 rfl Tryz.ntmps35 rfl rfl (qN rfl (KU rfl rfl (MH rfl (cs:=[ptr m 0]) rfl) ?_))
 rintro _ w1 ⟨bm,rfl,jW,ad,ai⟩
 refine KO rfl (qM rfl (qV (Zj (first:=[]) (caps:=[.tmp 1]) rfl rfl) (KO rfl (py (KP Tryz.func35 rfl ?_)))))
 exact⟨_,rfl,bm,rfl,ai,by omega,ad⟩
theorem z18 (h:Sj w m gi L)(hp:ZX L a)(ha:a<L.length):Lk Tryz.prog 18 [ptr m 0] w fun v w'=>v=I ((L.length-a:Nat):Int)/\Ext w w':=by
 have hn:=h.n
 refine KJ (e:=[(0,_)]) Tryz.func18 rfl Tryz.ntmps18 rfl rfl (qN rfl (KO rfl (qM rfl (KU rfl rfl (N3 (cs:=[_]) LG rfl) ?_))))
 rintro _ w1 ⟨b3,rfl,dZ,ad,ao⟩
 refine L0 rfl (Mt LG rfl rfl rfl ao (by simp)) ?_
 rintro w2 ⟨cV,am⟩
 replace cV:KY w2 b3 [I 0] 3:=cV
 have af:Ext w w2:=ad.KK am (fun j e=>by omega)
 refine py (run_seq (qN rfl (An rfl (qV (ZB Wo rfl rfl) (py (L3 rfl (qN rfl (An rfl (La [.tmp 7] zbb rfl (SK w2 m) ?_)))))))))
 rintro _ w3 ⟨bm,rfl,jW,mU,ah⟩
 have cE:=af.trans ah
 have cZ:=ah.KN cV
 have kw:=h.ext cE
 have l3:=cZ.lt
 have l32:=cV.lt
 have lm:=jW.lt
 have lmm:=h.ltm
 have lmg:=h.ltg
 have z1:=ad.size
 refine py (KL (OK (ps:=[9]) (p:=[]) (q:=[_]) rfl zaR ?_))
 rintro l wl eZ eO co hD Rc dc eG
 have Co:=z4C dc eG
 have zl:=eZ.size
 refine Lk.mono (T8 (kw.ext eZ) hp ha (eZ.KN jW)
  (fun w'=>Rc .ready none w'/\KY w' b3 [I ((L.length-a:Nat):Int)] 3/\Kp (fun k=>k=l\/k=b3) wl w')
  (fun w w' h hx=>⟨hx.kp.rc (S:=fun _=>False) dc h.1 id,hx.KN h.2.1,h.2.2.trans hx.kp⟩) ?_) ?_
 ·intro w4 aB;have im:=Kp.rc (S:=fun _=>False) aB dc eG id;have cB:=aB.KN (eZ.KN cZ);have z4:=aB.size;refine PX dc im rfl rfl (KQ rfl (KU rfl rfl (N3 (cs:=[_,_]) Nh rfl) ?_));rintro _ w5 ⟨b4,rfl,gh,aR,aJ⟩;refine L0 rfl (Lz (news:=[I (a:Int),I ((L.length-a:Nat):Int)]) Nh rfl rfl rfl rfl aJ (by simp)) ?_;rintro w6 ⟨bJ,aT⟩;replace bJ:KY w6 b4 [I (a:Int),I ((L.length-a:Nat):Int)] 97:=bJ;have cF:Ext w4 w6:=aR.KK aT (fun j e=>by omega);have I3:=Kp.rc (S:=fun _=>False) cF dc im id;have z46:=cF.size;have l4:=bJ.lt;refine py (run_beginRound rfl dc I3 ?_);rintro w7 h7 aA;have iw:=aA.KN (cF.KN cB) (by omega);have ba:=aA.KN bJ (by omega);refine KL (KQ rfl (qV ((by first|exact KS U3 rfl rfl iw rfl|exact KS U3 rfl rfl ba rfl)) ?_));refine qV (KT MS rfl) (qV ((by first|exact KS U3 rfl rfl iw rfl|exact KS U3 rfl rfl ba rfl)) ?_);refine LH rfl rfl ?_;rw[show(0:Int)+((L.length-a:Nat):Int)=((L.length-a:Nat):Int) by omega];refine L0 rfl (Mt LG rfl rfl rfl iw (by simp)) ?_;rintro w8 ⟨mc,bh⟩;have h8:=Kp.rc bh dc h7 (by omega);refine py (KM (P9 dc h8 ?_));intro w9 h9 aL;have mW:Kp (fun k=>k=l\/k=b3) w4 w9:=((cF.kp.trans (aA.L2 fun k e=> .inl e)).trans (bh.L2 fun k e=> .inr e)).trans (aL.L2 fun k e=> .inl e);exact .inl ⟨rfl,⟨h9,aL.KN mc (by omega),aB.kp.trans mW⟩,mW.KN (aB.KN (eZ.KN jW)) (by omega),((kw.ext eZ).ext aB).kp mW (by omega) (by omega)⟩
 ·rintro v wz ⟨rfl,im,I4,eR⟩;refine⟨_,_,im,by simp,fun wy ip=>?_⟩;have zz:=eR.size;have zy:=ip.size;have I5:=ip.KN I4 (by omega);have x8:=ip.heap (eR.heap hD (by omega)) (by omega);refine KM (qN rfl (qV (KS U3 rfl rfl I5 rfl) (KO rfl (py (z6e (by simp) (Vd x8) Tryz.func18 rfl ?_)))));have z3:=ah.size;have da:Kp (fun k=>k=w3.heap.size) wy (Ot [.mk w3.heap.size] wy):=Mf wy w3.heap.size (.deferred none);have Cp:Kp (fun k=>k=l\/k=b3\/k=w3.heap.size) w3 (Ot [.mk w3.heap.size] wy):=((eZ.kp.trans (eR.L2 fun k e=>by omega)).trans (ip.L2 fun k e=>by omega)).trans (da.L2 fun k e=>by omega);exact⟨_,rfl,rfl,cE.KK Cp (fun k e=>by omega)⟩
end
section
variable {w w':World}{m gi a:Nat}{L:List Bool}{S:Nat->Prop}
theorem Zz (h:Sj w m gi L)(hp:ZX L a){n:Nat}(cG:1<=n)(ob:a+n<=L.length):Lk Tryz.prog 72 [ptr m 0,I (n:Int)] w fun v w'=>v= .tuple #[.agg #[I (a:Int),I (n:Int)],I 0]/\Sj w' m gi (Mz L a n true)/\Kp (fun k=>k=gi) w w':=by
 have hn:=h.n
 refine KJ (e:=[(0,_),(1,_)]) Tryz.func72 rfl Tryz.ntmps72 rfl rfl (qN rfl (KU rfl rfl (MH rfl (cs:=[ptr m 0]) rfl) ?_))
 rintro _ w1 ⟨b2,rfl,bT,ad,ak⟩
 refine KU rfl rfl (MH rfl (cs:=[I (n:Int)]) rfl) ?_
 rintro _ w2 ⟨b3,rfl,dZ,af,ao⟩
 refine KU rfl rfl (N3 (cs:=[_,_]) Nh rfl) ?_
 rintro _ w3 ⟨b4,rfl,gh,ah,aJ⟩
 refine KU rfl rfl (N3 (cs:=[_]) z3u rfl) ?_
 rintro _ w4 ⟨b5,rfl,gD,aB,aF⟩
 have l2:=ak.lt
 have l3:=ao.lt
 have l4:=aJ.lt
 have l5:=aF.lt
 have z1:=ad.size
 have z2:=af.size
 have z3:=ah.size
 have z4:=aB.size
 have e8:=aB.KN (ah.KN (af.KN ak))
 have cB:=aB.KN (ah.KN ao)
 have cj:=aB.KN aJ
 refine py (run_seq (KL (qN rfl (qV ((by first|exact KS Wo rfl rfl e8 rfl|exact KS Wo rfl rfl cB rfl)) ?_))))
 refine qV (LQ Wo rfl rfl) (KO rfl (py (KH rfl (qN rfl (qV ((by first|exact KS U3 rfl rfl e8 rfl|exact KS U3 rfl rfl cB rfl)) ?_)))))
 refine qV (LX rfl rfl) (Ly (KO rfl (py (KH rfl (It (KM (run_seq (qN rfl (qV ((by first|exact KS Wo rfl rfl e8 rfl|exact KS Wo rfl rfl cB rfl)) ?_)))))))))
 refine La [.tmp 15] zbb rfl (SK w4 m) ?_
 rintro _ w5 ⟨bm,rfl,jW,mU,aR⟩
 have bB:=(((ad.trans af).trans ah).trans aB).trans aR
 have qm:=h.ext bB
 have lm:=jW.lt
 have lmm:=h.ltm
 have lmg:=h.ltg
 have z5:=aR.size
 refine py (KL (OK (ps:=[17]) (p:=[]) (q:=[_]) rfl zaR ?_))
 rintro l wl eZ eO co hD Rc dc eG
 have Co:=z4C dc eG
 have zl:=eZ.size
 have vF:=aR.trans eZ
 refine Lk.mono (T8 (qm.ext eZ) hp (by omega) (eZ.KN jW)
  (fun w'=>Rc .done (some .ret) w'/\KY w' b4 [I (a:Int),I (n:Int)] 97/\KY w' b5 [I 0] 35/\Sj w' m gi (Mz L a n true)/\Kp (fun k=>k=l\/k=b4\/k=b5\/k=gi) wl w')
  (fun w w' h hx=>⟨hx.kp.rc (S:=fun _=>False) dc h.1 id,hx.KN h.2.1,hx.KN h.2.2.1,h.2.2.2.1.ext hx,h.2.2.2.2.trans hx.kp⟩) ?_) ?_
 ·intro w6 aG;have im:=Kp.rc (S:=fun _=>False) aG dc eG id;have z6:=aG.size;refine PX dc im rfl rfl (KQ rfl (KU rfl rfl (N3 (cs:=[_,_]) Nh rfl) ?_));rintro _ w7 ⟨b6,rfl,nN,bL,aN⟩;refine L0 rfl (Lz (news:=[I (a:Int),I ((L.length-a:Nat):Int)]) Nh rfl rfl rfl rfl aN (by simp)) ?_;rintro w8 ⟨i7,bh⟩;replace i7:KY w8 b6 [I (a:Int),I ((L.length-a:Nat):Int)] 97:=i7;have gY:Ext w6 w8:=bL.KK bh (fun j e=>by omega);have Cq:=Kp.rc (S:=fun _=>False) gY dc im id;have z8:=gY.size;have l6:=i7.lt;refine py (run_beginRound rfl dc Cq ?_);rintro w9 h9 aL;have pj:=(vF.trans aG).trans gY;have lC:=aL.KN (pj.KN cB) (by omega);have jO:=aL.KN (pj.KN e8) (by omega);have i8:=aL.KN i7 (by omega);have I6:=((((qm.ext eZ).ext aG).ext gY).kp aL (by omega) (by omega));refine KL (qN rfl (qV (KT MS rfl) (qV ((by first|exact KS U3 rfl rfl lC rfl|exact KS U3 rfl rfl jO rfl|exact KS U3 rfl rfl i8 rfl)) ?_)));refine qV ((by first|exact KS U3 rfl rfl lC rfl|exact KS U3 rfl rfl jO rfl|exact KS U3 rfl rfl i8 rfl)) ?_;refine qV (Ou rfl rfl) (MR (py (L3 rfl (qN rfl (qV ((by first|exact KS U3 rfl rfl lC rfl|exact KS U3 rfl rfl jO rfl|exact KS U3 rfl rfl i8 rfl)) ?_)))));refine qV (KT MS rfl) (L0 rfl (Mt LG rfl rfl rfl i8 (by simp)) ?_);rintro w10 ⟨gH,ax⟩;replace gH:KY w10 b6 [I (a:Int),I (n:Int)] 97:=gH;have mX:=ax.KN jO (by omega);have Cr:=I6.kp ax (by omega) (by omega);have fj:=Kp.rc ax dc h9 (by omega);refine qM rfl (qV (KS Wo rfl rfl mX rfl) (qV (Lj (news:=[I (a:Int),I (n:Int)]) YE rfl Nh rfl (KY.cells (n:=2) gH rfl) rfl) (La [.tmp 24,.tmp 25,.const (Value.int .u8 1)] z7U rfl (Xo Cr a n true ob) ?_)));rintro _ w11 ⟨rfl,Cs,aP⟩;have x9:=aP.KN gH (by omega);have xa:=aP.KN (ax.KN (aL.KN (pj.KN cj) (by omega)) (by omega)) (by omega);have xc:=aP.KN (ax.KN (aL.KN (pj.KN aF) (by omega)) (by omega)) (by omega);have m8:=Kp.rc aP dc fj (by omega);refine py (Ll.qb (e:=[(4,_),(5,_),(6,_)]) ?_);refine qN rfl (qV (Lj (news:=[I (a:Int),I (n:Int)]) YE rfl Nh rfl (KY.cells (n:=2) x9 rfl) rfl) (L0 rfl (Lz (news:=[I (a:Int),I (n:Int)]) Nh rfl rfl rfl rfl xa (by simp)) ?_));rintro w12 ⟨xd,aU⟩;refine L0 rfl (Mt z3u rfl rfl rfl (aU.KN xc (by omega)) (by simp)) ?_;rintro w13 ⟨xe,cz⟩;have Ct:=Kp.rc cz dc (Kp.rc aU dc m8 (by omega)) (by omega);refine py ?_
  -- AT: Code.ret
  refine SS dc Ct ?_;intro w14 I7 cX
  exact .inr ⟨rfl,I7,cX.KN (cz.KN xd (by omega)) (by omega),cX.KN xe (by omega),((Cs.kp aU (by omega) (by omega)).kp cz (by omega) (by omega)).kp cX (by omega) (by omega),
   (((((((aG.kp.trans gY.kp).trans (aL.L2 fun k e=>by omega)).KK ax (fun k e=>by omega)).trans (aP.L2 fun k e=>by omega)).trans (aU.L2 fun k e=>by omega)).trans (cz.L2 fun k e=>by omega)).trans (cX.L2 fun k e=>by omega))⟩
 ·rintro v wz ⟨rfl,im,Cu,Cv,I8,eR⟩;refine⟨_,_,im,by simp,fun wy ip=>?_⟩;have zz:=eR.size;have zy:=ip.size;have Cw:=ip.KN Cu (by omega);have Cy:=ip.KN Cv (by omega);have x8:=ip.heap (eR.heap hD (by omega)) (by omega);have da:=Mf wy w5.heap.size (.deferred none);have I9:=da.KN Cw (by omega);have Ia:=da.KN Cy (by omega);refine Rz (by simp) (Vd x8) Tryz.func72 (.cell YE rfl Nh rfl (KY.cells (n:=2) I9 (news:=[_,_]) rfl) rfl (.cell1 U35 rfl rfl ((Ia).cell _) .nil)) ?_;have Cz:Kp (fun k=>k=gi) w (Ot [.mk w5.heap.size] wy):=((((bB.kp.trans eZ.kp).KK eR (fun k e=>by omega)).KK ip (fun k e=>by omega)).KK da (fun k e=>by omega));exact⟨_,rfl,rfl,(I8.kp ip (by omega) (by omega)).kp da (by omega) (by omega),Cz⟩
end
section
variable {w w':World}{m gi a:Nat}{L:List Bool}{S:Nat->Prop}
theorem z3n (h:Sj w m gi L)(s n:Nat)(cG:1<=n)(cP:2<=s)(gS:s+n<=L.length):Lk Tryz.prog 117 [ptr m 0,.agg #[I (s:Int),I (n:Int)]] w fun v w'=>v= .bool true/\Ext w w':=by
 have hn:=h.n
 refine KJ (e:=[(0,_),(1,_)]) Tryz.func117 rfl Tryz.ntmps117 rfl rfl (qN rfl (KU rfl rfl (MH rfl (cs:=[I (s:Int),I (n:Int)]) rfl) ?_))
 rintro _ w1 ⟨b3,rfl,dZ,ad,ao⟩
 have hg:=Ext.Lb w1
 have jP:=(h.ext ad).KN
 refine KO rfl (py (run_seq (KV (fun w'=>Ext w1 w') (by kernel_rfl) rfl (KR 0 rfl (KT MS rfl) hg (qT 1 rfl (fun _ h=>(by first|exact KS U3 rfl rfl (h.KN ao) rfl|exact KS U3 rfl rfl (h.KN jP) rfl)) hg ?_)))))
 refine KR 2 rfl (Ou rfl rfl) hg (OL (KR 3 rfl (KW rfl) hg (KR 4 rfl (KT MN rfl) hg (qT 5 rfl (fun _ h=>(by first|exact KS U3 rfl rfl (h.KN ao) rfl|exact KS U3 rfl rfl (h.KN jP) rfl)) hg ?_))))
 refine KR 6 rfl (KW rfl) hg (KR 7 rfl (L6 rfl) hg (KR 8 rfl (KT z1P rfl) hg (qT 9 rfl (fun _ h=>(by first|exact KS U3 rfl rfl (h.KN ao) rfl|exact KS U3 rfl rfl (h.KN jP) rfl)) hg ?_)))
 refine KR 10 rfl (Ou rfl rfl) hg (OL (KR 11 rfl (LR rfl rfl) hg (KR 12 rfl (KW rfl) hg (KR 13 rfl (KT MN rfl) hg (qT 14 rfl (fun _ h=>(by first|exact KS U3 rfl rfl (h.KN ao) rfl|exact KS U3 rfl rfl (h.KN jP) rfl)) hg ?_)))))
 refine KR 15 rfl (KW rfl) hg (KR 16 rfl (L6 rfl) hg (KR 17 rfl (KT Q5 rfl) hg (qT 18 rfl (fun _ h=>(by first|exact KS OA rfl rfl (h.KN ao) rfl|exact KS OA rfl rfl (h.KN jP) rfl)) hg ?_)))
 refine KR 19 rfl (LM OA rfl) hg (KR 20 rfl (LX rfl rfl) hg (OL (KR 21 rfl (LR rfl rfl) hg (KR 22 rfl (KW rfl) hg (KR 23 rfl (KT MS rfl) hg (qT 24 rfl (fun _ h=>(by first|exact KS U3 rfl rfl (h.KN ao) rfl|exact KS U3 rfl rfl (h.KN jP) rfl)) hg ?_))))))
 refine KR 25 rfl (KW rfl) hg (KR 26 rfl (L6 rfl) hg (KR 27 rfl (KT Q5 rfl) hg (qT 28 rfl (fun _ h=>(by first|exact KS OA rfl rfl (h.KN ao) rfl|exact KS OA rfl rfl (h.KN jP) rfl)) hg ?_)))
 refine KR 29 rfl (LM OA rfl) hg (KR 30 rfl (KT MN rfl) hg (qT 31 rfl (fun _ h=>(by first|exact KS U3 rfl rfl (h.KN ao) rfl|exact KS U3 rfl rfl (h.KN jP) rfl)) hg ?_))
 refine KR 32 rfl (Md rfl rfl (by omega)) hg (KR 33 rfl (Qv rfl rfl) hg (OL (KR 34 rfl (LR rfl rfl) hg (KR 35 rfl (MO rfl) hg (qE (Ll.qb (e:=[(4,_)]) ?_))))))
 refine KP Tryz.func117 rfl ?_
 exact⟨_,rfl,rfl,ad.trans hg⟩
theorem z0i {b5:Nat}(c d:Bool)(hB:KY w b5 [ZZ d] 154)(tr:c=d):Lk Tryz.prog 155 [ZZ c,ptr b5 0] w fun v w'=>v= .bool false/\w'=w:=by
 subst tr
 cases c with
 | true =>
   replace hB:KY w b5 [.int .u8 1] 154:=hB;show Lk Tryz.prog 155 [.int .u8 1,ptr b5 0] w _;refine KJ (e:=[(0,_),(1,_)]) Tryz.func155 rfl Tryz.ntmps155 rfl rfl (qN rfl (KO rfl (qM rfl (An rfl (qV (KS z60 rfl rfl hB rfl) (qV (M0 rfl rfl) (Ly (KO rfl (py (KP Tryz.func155 rfl ?_))))))))))
   exact⟨_,rfl,rfl,rfl⟩
 | false =>
   replace hB:KY w b5 [.int .u8 0] 154:=hB;show Lk Tryz.prog 155 [.int .u8 0,ptr b5 0] w _;refine KJ (e:=[(0,_),(1,_)]) Tryz.func155 rfl Tryz.ntmps155 rfl rfl (qN rfl (KO rfl (qM rfl (An rfl (qV (KS z60 rfl rfl hB rfl) (qV (M0 rfl rfl) (Ly (KO rfl (py (KP Tryz.func155 rfl ?_))))))))));exact⟨_,rfl,rfl,rfl⟩
theorem z3D {b5 b o n cap:Nat}(hn:n<=4096)(c:Bool)(hB:KY w b5 [ZZ c] 154)(hR:Rd w (.slice (some ⟨b,o,none⟩) n cap) 1 n (List.replicate n (ZZ c))):
  Lk Tryz.prog 184 [.slice (some ⟨b,o,none⟩) n cap,.func (.func 155) #[] #[ptr b5 0]] w fun v w'=>v=I (-1)/\w'=w:=by
 refine KJ (e:=[(0,_),(1,_)]) Tryz.func184 rfl Tryz.ntmps184 rfl rfl (qN rfl (KO rfl (py (run_seq (qN rfl (An rfl (qV (LM OA rfl) (An rfl (py (KL (MV (α:=Nat) (0) (fun i=>[(0,.slice (some ⟨b,o,none⟩) n cap),(1,.func (.func 155) #[] #[ptr b5 0]),(7,I (n:Int)),(8,I (i:Int))]) (fun i w'=>w'=w/\i<=n) (fun i=>n-i) ?hI ?hround)))))))))))
 case hI=>exact⟨rfl,Nat.zero_le _⟩
 case hround=>
  rintro i w1 ⟨rfl,hi⟩ ih
  try dsimp only
  refine qN rfl (qV (LX rfl rfl) (py (run_seq (KZ rfl (fun h0=>?_) (fun h0=>?_)))))
  ·refine It (run_seq (KL (qN rfl (An rfl (KO rfl (qM rfl (An rfl (An rfl (An rfl (qV (LC OA WK rfl rfl (by omega)) (qV (Lm (v:=ZZ c) z60 rfl rfl (LV hR (by rw[List.getElem?_replicate,if_pos (by omega)]))) ?_)))))))))));refine Mi rfl rfl (Nk (args:=[.tmp 15]) zck rfl rfl) (z0i c c hB rfl) ?_;rintro _ w1 ⟨rfl,rfl⟩;refine py (KH rfl (It (KM (KQ rfl (LH rfl rfl (An rfl (py ?_)))))));exact(ih (i+1) _ ⟨rfl,by omega⟩ (by omega)).qb
  ·refine KX rfl (qN rfl (KO rfl (py (KP Tryz.func184 rfl ?_))));exact⟨_,rfl,rfl,rfl⟩
theorem z2P {b5 b o n cap:Nat}(hn:n<=4096)(c:Bool)(hB:KY w b5 [ZZ c] 154)(hR:Rd w (.slice (some ⟨b,o,none⟩) n cap) 1 n (List.replicate n (ZZ c))):
  Lk Tryz.prog 154 [.slice (some ⟨b,o,none⟩) n cap,.func (.func 155) #[] #[ptr b5 0]] w fun v w'=>v= .bool false/\w'=w:=by
 refine KJ (e:=[(0,_),(1,_)]) Tryz.func154 rfl Tryz.ntmps154 rfl rfl (qN rfl (KO rfl (qM rfl (An rfl (An rfl (La [.tmp 5,.tmp 6] z9W rfl (z3D hn c hB hR) ?_))))))
 rintro _ w ⟨rfl,rfl⟩
 refine qV (Ou rfl rfl) (Ly (KO rfl (py (KP Tryz.func154 rfl ?_))))
 exact⟨_,rfl,rfl,rfl⟩
theorem z3x (h:Sj w m gi L)(s n:Nat)(c:Bool)(cG:1<=n)(gS:s+n<=L.length)(hc:∀i,s<=i->i<s+n->L[i]? =some c):Lk Tryz.prog 118 [ptr m 0,.agg #[I (s:Int),I (n:Int)],ZZ c] w fun v w'=>v= .bool true/\Ext w w':=by
 have hn:=h.n
 refine KJ (e:=[(0,_),(1,_),(2,_)]) Tryz.func118 rfl Tryz.ntmps118 rfl rfl (qN rfl (KU rfl rfl (MH rfl (cs:=[I (s:Int),I (n:Int)]) rfl) ?_))
 rintro _ w1 ⟨b4,rfl,gh,ad,aJ⟩
 refine KU rfl rfl (MH rfl (cs:=[ZZ c]) (by cases c<;>rfl)) ?_
 rintro _ w2 ⟨b5,rfl,gD,af,aF⟩
 have hg:=Ext.Lb w2
 have aI:=ad.trans af
 have jP:=(h.ext aI).KN
 have bq:=af.KN aJ
 have dP:=(h.ext aI).ext hg
 refine KO rfl (py (run_seq (KV (fun w'=>Ext w2 w') (by kernel_rfl) rfl (KR 0 rfl (KW rfl) hg (KR 1 rfl (L6 rfl) hg (KR 2 rfl (KT Q5 rfl) hg (qT 3 rfl (fun _ h=>(by first|exact KS OA rfl rfl (h.KN bq) rfl|exact KS OA rfl rfl (h.KN jP) rfl)) hg ?_)))))))
 refine KR 4 rfl (KT MN rfl) hg (qT 5 rfl (fun _ h=>(by first|exact KS U3 rfl rfl (h.KN bq) rfl|exact KS U3 rfl rfl (h.KN jP) rfl)) hg ?_)
 refine KR 6 rfl (KT MN rfl) hg (qT 7 rfl (fun _ h=>(by first|exact KS U3 rfl rfl (h.KN bq) rfl|exact KS U3 rfl rfl (h.KN jP) rfl)) hg ?_)
 refine KR 8 rfl (KT MS rfl) hg (qT 9 rfl (fun _ h=>(by first|exact KS U3 rfl rfl (h.KN bq) rfl|exact KS U3 rfl rfl (h.KN jP) rfl)) hg ?_)
 refine KR 10 rfl (PM rfl rfl (by omega)) hg (KR 12 rfl (Zj (first:=[]) (caps:=[.tmp 5]) rfl rfl) hg ?_)
 rw[show(s:Int)+(n:Int)=((s+n:Nat):Int) by omega]
 refine KR 11 rfl (z8X (i:=s) (j:=s+n) OA WK rfl rfl rfl (by omega) (by omega)) hg ?_
 rw[show s+n-s=n by omega]
 have hR:Rd w2.drew (.slice (some ⟨gi,0+s*1,none⟩) n (L.length-s)) 1 n (List.replicate n (ZZ c)):=by
  have h1:=Q0 (OO dP.sl.rd (i:=s) (by omega) (Nat.le_refl _)) (i:=n) (by omega);rw[if_neg (by omega)] at h1
  have e:((L.map ZZ).drop s).take n=List.replicate n (ZZ c):=by
   apply List.ext_getElem?;intro i;rw[List.getElem?_take,List.getElem?_drop,List.getElem?_map,List.getElem?_replicate];by_cases hi:i<n
   ·rw[if_pos hi,if_pos hi,hc (s+i) (by omega) (by omega)];rfl
   ·rw[if_neg hi,if_neg hi]
  rw[e] at h1
  have e2:(some (⟨gi,0,none⟩:Addr)).map (fun x=>x.add (s*1))=some ⟨gi,0+s*1,none⟩:=by
   show some (Addr.add _ _)=_;unfold Addr.add;split
   ·rename_i h0;rw[h0]
   ·rfl
  rw[e2] at h1;exact h1
 refine O2 13 [.tmp 18,.tmp 19] rfl zaW rfl (z2P (by omega) c ((hg.KN aF)) hR) ?_
 rintro _ w3 ⟨rfl,rfl⟩
 refine⟨hg,?_⟩
 refine KR 14 rfl ((by first|exact LN rfl|exact Na rfl)) hg ?_
 refine KR 15 rfl (MO rfl) hg (qE (KP Tryz.func118 rfl ?_))
 exact⟨_,rfl,rfl,aI.trans hg⟩
theorem z1l (h:Sj w m gi L)(s n:Nat)(cG:1<=n)(cP:2<=s)(gS:s+n<=L.length)(hc:∀i,s<=i->i<s+n->L[i]? =some true):Lk Tryz.prog 84 [ptr m 0,.agg #[I (s:Int),I (n:Int)]] w fun v w'=>v=I 0/\Sj w' m gi (Mz L s n false)/\Kp (fun k=>k=gi) w w':=by
 refine KJ (e:=[(0,_),(1,_)]) Tryz.func84 rfl Tryz.ntmps84 rfl rfl (qN rfl (KU rfl rfl (MH rfl (cs:=[I (s:Int),I (n:Int)]) rfl) ?_))
 rintro _ w1 ⟨b3,rfl,dZ,ad,ao⟩
 have h1:=h.ext ad
 have l3:=ao.lt
 have lg:=h.ltg
 refine KO rfl (py (run_seq (KL (qN rfl (An rfl (qV (LQ Wo rfl rfl) (KO rfl (py (KH rfl (qN rfl (An rfl (qV (Lj (news:=[I (s:Int),I (n:Int)]) YE rfl Nh rfl (KY.cells (n:=2) ao rfl) rfl) (La [.tmp 12,.tmp 13] z9M rfl (z3n h1 s n cG cP gS) ?_)))))))))))))
 rintro _ w2 ⟨rfl,af⟩
 have h2:=h1.ext af
 have cV:=af.KN ao
 refine qV ((by first|exact LN rfl|exact Na rfl)) ?_
 refine An rfl (An rfl (qV (Lj (news:=[I (s:Int),I (n:Int)]) YE rfl Nh rfl (KY.cells (n:=2) cV rfl) rfl) (La [.tmp 17,.tmp 18,.const (Value.int .u8 1)] zcu rfl (z3x h2 s n true cG gS hc) ?_)))
 rintro _ w3 ⟨rfl,ah⟩
 have h3:=h2.ext ah
 have cZ:=ah.KN cV
 have jP:=h3.KN
 refine qV ((by first|exact LN rfl|exact Na rfl)) ?_
 refine qV (Ls rfl rfl) (KO rfl (py (KH rfl (qN rfl (An rfl (qV (L6 rfl) (qV (KT z7l rfl) (qV (KS U4 rfl rfl jP rfl) (KO rfl (py (KH rfl ?_)))))))))))
 have cZ:=ah.KN cV
 refine KQ rfl (An rfl (qV (Lj (news:=[I (s:Int),I (n:Int)]) YE rfl Nh rfl (KY.cells (n:=2) cZ rfl) rfl) (La [.tmp 5,.tmp 6,.const (Value.int .u8 0)] z7U rfl (Xo h3 s n false gS) ?_)))
 rintro _ w4 ⟨rfl,h4,aw⟩
 refine py (Ll.qb (e:=[(4,_)]) ?_)
 refine KM (qN rfl (KO rfl (py (KP Tryz.func84 rfl ?_))))
 exact⟨_,rfl,rfl,h4,((ad.trans af).trans ah).kp.trans aw⟩
end
structure Dev where
 due:Int
 Nz:List Int
 z77:Int
 mask:UInt8
 B:Nat
 N:Nat
 sf:Int->Option Bytes
 cache:List (Int×Bytes)
 down:Bool
 calls:Int
 reads:Int
def zeros (n:Nat):Bytes:=List.replicate n 0
def Dev.kept (D:Dev)(n:Int):Bytes:=(D.sf n).getD (zeros (512*D.N))
def Rl (l:List (Int×Bytes))(n:Int):Option Bytes:=(l.reverse.find? fun x=>x.1==n).map (·.2)
def Dev.now (D:Dev)(n:Int):Bytes:=(Rl D.cache n).getD (D.kept n)
def Dev.has (D:Dev)(n:Int):Bool:=decide (0<=n/\n<(D.B:Int))
def Dev.count (D:Dev):Dev:={D with calls:=D.calls+1,due:=if D.due=0 then 0 else D.due-1}
structure Dev.Ok (D:Dev):Prop where
 hB:16<=D.B/\D.B<=4096
 hN:1<=D.N/\D.N<=8
 due:0<=D.due/\D.due<=9223372036854775807
 sf:∀n s,D.sf n=some s->0<=n/\n<(D.B:Int)/\s.length=512*D.N
 cache:∀x∈D.cache,0<=x.1/\x.1<(D.B:Int)/\x.2.length=512*D.N
 len:0<=D.calls
 reads:True
def Dev.Bd (D:Dev):Prop:=D.calls<1000000000000/\D.cache.length<1000000000000/\True
def wr (x:Int×Bytes):List Value:=[I x.1,S x.2]
def wrs (l:List (Int×Bytes)):List Value:=l.flatMap wr
@[simp] theorem wrs_length (l:List (Int×Bytes)):(wrs l).length=l.length*2:=by
 induction l with
 |nil=>rfl
 |cons x r ih=>simp[wrs,wr,List.flatMap_cons] at ih⊢;omega
def T4 (kp ca:Value)(m:Nat)(D:Dev):List Value:=[I D.due,kp,I D.z77,Oq D.mask,I (D.B:Int),I (D.N:Int),.map (some m),ca,.bool D.down,I D.calls,I D.reads]
@[simp] theorem devCs_length (kp ca:Value) (m:Nat) (D:Dev):(T4 kp ca m D).length=11:=rfl
abbrev KI:Int->Value:=fun z=> .int .i64 z
structure N7 (w:World)(p m:Nat)(kp ca:Value)(D:Dev):Prop where
 KN:KY w p (T4 kp ca m D) 107
 map:∃kv,S3 KI w m kv/\∀n,getL kv n=(D.sf n).map S
 cache:Sl w ca 308 2 D.cache.length (wrs D.cache)
 Nz:Sl w kp 3 1 D.Nz.length (D.Nz.map I)
 ok:D.Ok
def fpD (p m:Nat)(kp ca:Value):Nat->Prop:=fun k=>k=p\/k=m\/ca.ownBlock=some k\/kp.ownBlock=some k
def R0 (w:World)(p:Nat)(D:Dev)(F:Nat->Prop):Prop:=∃m kp ca,N7 w p m kp ca D/\∀k,F k↔fpD p m kp ca k
def Upd (F F':Nat->Prop)(w w':World):Prop:=Kp F w w'/\∀k,F' k->F k\/w.heap.size<=k
theorem Upd.trans {F F' F'':Nat->Prop}{a b c:World}(h:Upd F F' a b)(k:Upd F' F'' b c):Upd F F'' a c:=
 ⟨h.1.KK k.1 fun i hi=>(h.2 i hi).symm,fun i hi=>by
  rcases k.2 i hi with h'|h'
  ·exact h.2 i h'
  ·exact .inr (Nat.le_trans h.1.size h')⟩
theorem Ext.VL {F:Nat->Prop}{w w':World}(h:Ext w w'):Upd F F w w':=⟨h.kp,fun _ h=> .inl h⟩
theorem N7.pm {w:World}{p m:Nat}{kp ca:Value}{D:Dev}(h:N7 w p m kp ca D):¬p=m:=fun e=>by
 obtain⟨kv,⟨⟨es,c,hh,-⟩,-⟩,-⟩:=h.map
 obtain⟨fz,hb,-⟩:=h.KN
 rw[e] at hb;rw[hb] at hh;cases hh
theorem Oe {w:World}{v:Value}{e size n:Nat}{cs:List Value}{b:Nat}(h:Sl w v e size n cs)(hb:v.ownBlock=some b):∃xs fz,w.heap[b]? =some (.cells xs e fz):=by
 rcases h.2 with⟨hz,-⟩|⟨g,cap,cur,hv,-,hg,-⟩
 ·rw[hz] at hb;cases hb
 ·rw[hv] at hb;cases hb;exact⟨_,_,hg⟩
theorem N7.kp {S:Nat->Prop}{w w':World}{p m:Nat}{kp ca:Value}{D:Dev}(h:N7 w p m kp ca D)(k:Kp S w w')(hn:∀i,fpD p m kp ca i->¬S i):N7 w' p m kp ca D:=
 ⟨k.KN h.KN (hn p (.inl rfl)),let ⟨kv,h1,h2⟩:=h.map;⟨kv,k.map h1 (hn m (.inr (.inl rfl))),h2⟩,h.cache.kp k fun g hg=>hn g (.inr (.inr (.inl hg))),h.Nz.kp k fun g hg=>hn g (.inr (.inr (.inr hg))),h.ok⟩
theorem N7.ext {w w':World}{p m:Nat}{kp ca:Value}{D:Dev}(h:N7 w p m kp ca D)(k:Ext w w'):N7 w' p m kp ca D:=h.kp k fun _ _=>id
theorem Dev.Ok.count {D:Dev}(h:D.Ok):D.count.Ok:=by
 have:=h.due
 have:=h.len
 refine⟨h.hB,h.hN,?_,h.sf,h.cache,?_,h.reads⟩
 ·simp only[Dev.count];split<;>omega
 ·simp only[Dev.count];omega
theorem N7.turn {w w':World}{p m:Nat}{kp ca:Value}{D D':Dev}(h:N7 w p m kp ca D)(hb:KY w' p (T4 kp ca m D') 107)(k:Kp (fun i=>i=p) w w')(h1:D'.sf=D.sf)(h2:D'.cache=D.cache)(h3:D'.Nz=D.Nz)(h4:D'.N=D.N)(av:D'.Ok):N7 w' p m kp ca D':=by
 obtain⟨fz,hp,-⟩:=h.KN
 refine⟨hb,let ⟨kv,hm,hs⟩:=h.map;⟨kv,k.map hm fun e=>h.pm e.symm,by rw[h1];exact hs⟩,?_,?_,av⟩
 ·rw[h2];refine h.cache.kp k fun g hg pn=>?_;obtain⟨xs,fz',hx⟩:=Oe h.cache hg;rw[pn,hp] at hx;cases hx
 ·rw[h3];refine h.Nz.kp k fun g hg pn=>?_;obtain⟨xs,fz',hx⟩:=Oe h.Nz hg;rw[pn,hp] at hx;cases hx
def VL (f:Int->Option Bytes)(n:Int)(s:Bytes):Int->Option Bytes:=fun x=>if x=n then some s else f x
def z3h (c:Bytes)(i:Nat)(x:Bytes):Bytes:=c.take i++x++c.drop (i+x.length)
def mixN (mask:UInt8)(a b:Bytes):Nat->Bytes
 |0=>a
 |s+1=>if mask.toNat / 2^s%2=1 then z3h (mixN mask a b s) (512*s) ((b.drop (512*s)).take 512) else mixN mask a b s
theorem Zx (c x:Bytes)(i:Nat)(h:i+x.length<=c.length):(z3h c i x).length=c.length:=by
 simp[z3h];omega
theorem Rq (mask:UInt8)(a b:Bytes)(N:Nat)(ha:a.length=512*N)(hb:b.length=512*N):∀s,s<=N->(mixN mask a b s).length=512*N
 |0,_=>ha
 | s + 1, h => by
   have ih:=Rq mask a b N ha hb s (by omega);simp only[mixN];split
   ·rw[Zx _ _ _ (by simp[ih];omega),ih]
   ·exact ih
def Dev.fallTo (D:Dev)(l:List Int)(tn:Int)(mk:UInt8):Nat->(Int->Option Bytes)
 |0=>D.sf
 | i + 1 => match D.cache[i]? with
   |none=>D.fallTo l tn mk i
   | some x => if (i : Int) = tn then VL (D.fallTo l tn mk i) x.1 (mixN mk (((D.fallTo l tn mk i) x.1).getD (zeros (512 * D.N))) x.2 D.N)
     else if(i:Int)∈l then VL (D.fallTo l tn mk i) x.1 x.2 else D.fallTo l tn mk i
def Dev.z61 (D:Dev)(l:List Int)(tn:Int)(mk:UInt8):Dev:=
 {D with sf:=D.fallTo l tn mk D.cache.length,cache:=[],due:=0,Nz:=[],z77:=0,mask:=0,down:=true}
theorem Dev.Ok.put {D:Dev}(h:D.Ok){n:Int}{s:Bytes}(hn:0<=n/\n<(D.B:Int))(hs:s.length=512*D.N):Dev.Ok {D with sf:=VL D.sf n s}:=
 ⟨h.hB,h.hN,h.due,fun x t hx=>by
  simp only[VL] at hx;split at hx
  ·rename_i e
   cases hx;exact⟨by omega,by rw[e];exact hn.2,hs⟩
  ·exact h.sf x t hx,h.cache,h.len,h.reads⟩
theorem Dev.Ok.kept {D:Dev}(h:D.Ok)(n:Int):(D.kept n).length=512*D.N:=by
 unfold Dev.kept
 cases hs:D.sf n with
 |none=>simp[zeros]
 |some s=>exact(h.sf n s hs).2.2
theorem N7.put {w w':World}{p m:Nat}{kp ca:Value}{D:Dev}{kv:List (Int×Value)}{n:Int}{s:Bytes}(h:N7 w p m kp ca D)(hs:∀n,getL kv n=(D.sf n).map S)(hm:S3 KI w' m (putL kv n (S s)))(k:Kp (fun i=>i=m) w w')
  (av:Dev.Ok {D with sf:=VL D.sf n s}):N7 w' p m kp ca {D with sf:=VL D.sf n s}:=by
 obtain⟨kv0,⟨⟨es,c,hh,-⟩,-⟩,-⟩:=h.map
 refine⟨k.KN h.KN h.pm,⟨_,hm,fun x=>?_⟩,?_,?_,av⟩
 ·rw[z5l,hs x];simp only[VL];split<;>rfl
 ·refine h.cache.kp k fun g hg pn=>?_;obtain⟨xs,fz',hx⟩:=Oe h.cache hg;rw[pn,hh] at hx;cases hx
 ·refine h.Nz.kp k fun g hg pn=>?_;obtain⟨xs,fz',hx⟩:=Oe h.Nz hg;rw[pn,hh] at hx;cases hx
theorem Rd.kpm {w w':World}{v:Value}{size n m:Nat}{cs:List Value}{kv:List (Int×Value)}(h:Rd w v size n cs)(hm:S3 KI w m kv)(k:Kp (fun i=>i=m) w w'):Rd w' v size n cs:=by
 obtain⟨h1,h2⟩:=h
 refine⟨h1,h2.imp id fun⟨b,off,cap,hv,hc⟩=>⟨b,off,cap,hv,fun j u hj=>?_⟩⟩
 have yZ:=hc j u hj
 obtain⟨⟨es,c,hh,-⟩,-⟩:=hm
 have bG:¬b=m:=fun e=>by
  rw[e] at yZ;simp[World.cell?,hh] at yZ
 have aO:b<w.heap.size:=by
  rcases Nat.lt_or_ge b w.heap.size with h'|h'
  ·exact h'
  ·simp[World.cell?,Array.getElem?_eq_none h'] at yZ
 rw[<-yZ]
 simp only[World.cell?,k.block b aO bG]
theorem N7.zcs {w:World}{p m:Nat}{kp ca:Value}{D:Dev}(h:N7 w p m kp ca D){g:Nat}(hg:ca.ownBlock=some g):¬g=p/\¬g=m/\¬kp.ownBlock=some g:=by
 obtain⟨xs,fz',hx⟩:=Oe h.cache hg
 refine⟨fun e=>?_,fun e=>?_,fun e=>?_⟩
 ·obtain⟨fz,hb,-⟩:=h.KN;rw[e,hb] at hx;cases hx
 ·obtain⟨kv,⟨⟨es,c,hh,-⟩,-⟩,-⟩:=h.map;rw[e,hh] at hx;cases hx
 ·obtain⟨ys,fy,hy⟩:=Oe h.Nz e;rw[hx] at hy;cases hy
theorem N7.zbp {w:World}{p m:Nat}{kp ca:Value}{D:Dev}(h:N7 w p m kp ca D){g:Nat}(hg:kp.ownBlock=some g):¬g=p/\¬g=m/\¬ca.ownBlock=some g:=by
 obtain⟨xs,fz',hx⟩:=Oe h.Nz hg
 refine⟨fun e=>?_,fun e=>?_,fun e=>?_⟩
 ·obtain⟨fz,hb,-⟩:=h.KN;rw[e,hb] at hx;cases hx
 ·obtain⟨kv,⟨⟨es,c,hh,-⟩,-⟩,-⟩:=h.map;rw[e,hh] at hx;cases hx
 ·obtain⟨ys,fy,hy⟩:=Oe h.cache e;rw[hx] at hy;cases hy
theorem N7.lt {w:World}{p m:Nat}{kp ca:Value}{D:Dev}(h:N7 w p m kp ca D):∀k,fpD p m kp ca k->k<w.heap.size:=by
 intro k hk
 rcases hk with rfl|rfl|hc|hc
 ·exact h.KN.lt
 ·obtain⟨kv,hm,-⟩:=h.map;exact hm.lt
 ·exact h.cache.lt hc
 ·exact h.Nz.lt hc
theorem R0.kp {S F:Nat->Prop}{w w':World}{p:Nat}{D:Dev}(h:R0 w p D F)(k:Kp S w w')(hn:∀i,F i->¬S i):R0 w' p D F:=by
 obtain⟨m,kp,ca,h1,h2⟩:=h
 exact⟨m,kp,ca,h1.kp k fun i hi=>hn i ((h2 i).2 hi),h2⟩
theorem R0.ext {F:Nat->Prop}{w w':World}{p:Nat}{D:Dev}(h:R0 w p D F)(k:Ext w w'):R0 w' p D F:=h.kp k fun _ _=>id
theorem R0.lt {F:Nat->Prop}{w:World}{p:Nat}{D:Dev}(h:R0 w p D F):∀k,F k->k<w.heap.size:=by
 obtain⟨m,kp,ca,h1,h2⟩:=h
 intro k hk
 rcases (h2 k).1 hk with rfl|rfl|hc|hc
 ·exact h1.KN.lt
 ·obtain⟨kv,hm,-⟩:=h1.map;exact hm.lt
 ·exact h1.cache.lt hc
 ·exact h1.Nz.lt hc
theorem Uu (n:Nat):((List.replicate n (Value.int .u8 0)).drop 0).take n=(zeros n).map Oq:=by
 simp[zeros,Oq]
section
variable {w:World}{p m:Nat}{kp ca:Value}{D:Dev}
theorem z1r (h:N7 w p m kp ca D):Lk Tryz.prog 110 [ptr p 0] w fun v w'=>v=I (D.B:Int)/\w'=w:=by
 have hM:=h.KN
 refine KJ (e:=[(0,_)]) Tryz.func110 rfl Tryz.ntmps110 rfl rfl (qN rfl (KO rfl (py (run_seq (qN rfl (An rfl (qV (LQ ZY rfl rfl) (py (KH rfl (It (qN rfl (An rfl (qV (L6 rfl) ?_)))))))))))))
 refine qV (KT V7 rfl) (qV (KT TZ rfl) (qV (KS U3 rfl rfl hM rfl) (KO rfl (py (KP Tryz.func110 rfl ?_)))))
 exact⟨_,rfl,rfl,rfl⟩
theorem Vl (h:N7 w p m kp ca D):Lk Tryz.prog 71 [ptr p 0] w fun v w'=>v=I ((512*D.N:Nat):Int)/\w'=w:=by
 have hM:=h.KN
 have hN:=h.ok.hN
 refine KJ (e:=[(0,_)]) Tryz.func71 rfl Tryz.ntmps71 rfl rfl (qN rfl (KO rfl (py (run_seq (qN rfl (An rfl (qV (LQ ZY rfl rfl) (py (KH rfl (It (qN rfl (An rfl (qV (L6 rfl) ?_)))))))))))))
 refine qV (KT V7 rfl) (qV (KT TS rfl) (qV (KS U3 rfl rfl hM rfl) (qV (Tu rfl rfl (by omega)) (KO rfl (py (KP Tryz.func71 rfl (⟨_,rfl,?_,rfl⟩)))))))
 show I _=I _
 congr 1;omega
theorem Xc (h:N7 w p m kp ca D):Lk Tryz.prog 163 [ptr p 0] w fun v w'=>v=I (if D.down then 8 else 0)/\w'=w:=by
 have hM:=h.KN
 refine KJ (e:=[(0,_)]) Tryz.func163 rfl Tryz.ntmps163 rfl rfl (qN rfl (KO rfl (py (run_seq (KL (qN rfl (An rfl (qV (LQ ZY rfl rfl) (KO rfl (py (KH rfl (qN rfl (An rfl ?_)))))))))))))
 refine qV (L6 rfl) (qV (KT XT rfl) (qV (KS U4 rfl rfl hM rfl) (KO rfl (py (LO rfl (fun hd=>?_) (fun hd=>?_))))))
 ·refine qN rfl (KO rfl (py (KP Tryz.func163 rfl ?_)));exact⟨_,rfl,by simp[hd,resVal],rfl⟩
 ·refine It (KM (qN rfl (KO rfl (py (KP Tryz.func163 rfl ?_)))));exact⟨_,rfl,by simp[hd,resVal],rfl⟩
theorem z29 (n:Int)(h:N7 w p m kp ca D):Lk Tryz.prog 164 [ptr p 0,I n] w fun v w'=>v= .bool (D.has n)/\w'=w:=by
 have hM:=h.KN
 refine KJ (e:=[(0,_),(1,_)]) Tryz.func164 rfl Tryz.ntmps164 rfl rfl (qN rfl (KO rfl (qM rfl (An rfl (qV (Ou rfl rfl) (ND (fun h1=>?_) (fun h1=>?_)))))))
 ·refine An rfl (An rfl (An rfl (qV (L6 rfl) (qV (KT V7 rfl) (qV (KT TZ rfl) (qV (KS U3 rfl rfl hM rfl) (qV (LX rfl rfl) (qV (LR rfl rfl) (KO rfl (py (KP Tryz.func164 rfl (⟨_,rfl,?_,rfl⟩))))))))))));simp[Dev.has,h1,resVal]
 ·refine An rfl (qS (qS (qS (qS (qS (qS (qS (qV (Ls rfl rfl) (KO rfl (py (KP Tryz.func164 rfl (⟨_,rfl,?_,rfl⟩))))))))))));simp[Dev.has,h1,resVal]
theorem Z1 (n:Int)(h:N7 w p m kp ca D):Lk Tryz.prog 188 [ptr p 0,I n] w fun v w'=>v=S (D.kept n)/\Ext w w':=by
 have hM:=h.KN
 have hN:=h.ok.hN
 have eL:maxLen=9223372036854775807:=rfl
 obtain⟨kv,mY,mj⟩:=h.map
 refine KJ (e:=[(0,_),(1,_)]) Tryz.func188 rfl Tryz.ntmps188 rfl rfl (qN rfl (KO rfl (py (run_seq (qN rfl (An rfl (qV (L6 rfl) (qV (KT Xx rfl) (qV (KS YJ rfl rfl hM rfl) (An rfl (qV (zeo (k:=n) (K:=KI) YJ (Ng U3) WR rfl rfl mY) ?_)))))))))))
 rw[mj n]
 cases hs:D.sf n with
 | some s =>
   refine An rfl (qV (Lu rfl rfl) (qV (Lu rfl rfl) (KO rfl (KO rfl (qM rfl (An rfl (py (L3 rfl (qN rfl (An rfl (KO rfl (py (KP Tryz.func188 rfl ?_)))))))))))))
   exact⟨_,rfl,by simp[Dev.kept,hs,resVal],Ext.refl w⟩
 | none =>
   refine An rfl (qV (Lu rfl rfl) (qV (Lu rfl rfl) (KO rfl (KO rfl (qM rfl (An rfl (py (KH rfl (It (qN rfl (An rfl (La [.tmp 18] z94 rfl (Vl h) ?_))))))))))));rintro _ w1 ⟨rfl,rfl⟩;refine KU rfl rfl (pmk (c:=512*D.N) (n:=512*D.N) M4 SJ rfl rfl rfl (by omega) (by omega) (by omega)) ?_;rintro _ w1 ⟨b1,rfl,⟨bS,ad,ai⟩,-⟩;refine qV (z3f (l:=zeros (512*D.N)) M4 U5 U9 rfl ai (Uu _) (by simp[zeros])) ?_;refine KO rfl (py (KP Tryz.func188 rfl ?_));exact⟨_,rfl,by simp[Dev.kept,hs,resVal],ad⟩
theorem ZP (h:N7 w p m kp ca D)(hc:D.calls<1000000000000):Lk Tryz.prog 185 [ptr p 0] w fun v w'=>v= .bool (decide (D.due=1))/\N7 w' p m kp ca D.count/\Kp (fun k=>k=p) w w':=by
 have hM:=h.KN
 have po:=h.ok.due
 have aD:=h.ok.len
 refine KJ (e:=[(0,_)]) Tryz.func185 rfl Tryz.ntmps185 rfl rfl (qN rfl (KO rfl (qM rfl (An rfl (qV (L6 rfl) (qV (KT z1L rfl) (qV (KS U3 rfl rfl hM rfl) (LH rfl rfl (qV (L6 rfl) (qV (KT z1L rfl) (L0 rfl (Mt LG rfl rfl rfl hM (by simp)) ?_)))))))))))
 rintro w1 ⟨dw,aM⟩
 refine py (run_seq (qN rfl (An rfl (qV (L6 rfl) (qV (KT S0 rfl) (qV (KT UW rfl) (qV (KS U3 rfl rfl dw rfl) (qV (Mr rfl rfl) (py (KZ rfl (fun h0=>?_) (fun h0=>?_)))))))))))
 ·refine qN rfl (KO rfl (py (KP Tryz.func185 rfl ?_)));have e0:(T4 kp ca m D).set (0+9) (I (D.calls+1))=T4 kp ca m D.count:=by simp[T4,Dev.count,h0]
  rw[e0] at dw;exact⟨_,rfl,by simp[resVal];omega,h.turn dw aM rfl rfl rfl rfl h.ok.count,aM⟩
 ·refine It (qN rfl (An rfl (qV (L6 rfl) (qV (KT S0 rfl) (qV (KT UW rfl) (qV (KS U3 rfl rfl dw rfl) (qV (Md rfl rfl (by omega)) (qV (L6 rfl) (qV (KT S0 rfl) (qV (KT UW rfl) (L0 rfl (Mt LG rfl rfl rfl dw (by simp)) ?_)))))))))));rintro w2 ⟨lS,am⟩;refine qM rfl (An rfl (qV (L6 rfl) (qV (KT S0 rfl) (qV (KT UW rfl) (qV (KS U3 rfl rfl lS rfl) (qV (Mr rfl rfl) (KO rfl (py (Ll.qb (e:=[(2,_)]) ?_)))))))));refine KP Tryz.func185 rfl ?_;have e0:((T4 kp ca m D).set (0+9) (I (D.calls+1))).set (0+0+0) (I (D.due-1))=T4 kp ca m D.count:=by simp[T4,Dev.count,h0]
  rw[e0] at lS;exact⟨_,rfl,by simp[resVal];omega,h.turn lS (aM.trans am) rfl rfl rfl rfl h.ok.count,aM.trans am⟩
end
theorem z2d (xs:List (Int×Bytes))(j:Nat)(h:j<xs.length):((wrs xs).drop (j*2)).take 2=wr xs[j]:=by
 induction xs generalizing j with
 |nil=>simp at h
 | cons x r ih =>
   cases j with
   |zero=>simp[wrs,wr,List.flatMap_cons]
   | succ j =>
     have e:(wrs (x::r))=I x.1::S x.2::wrs r:=by simp[wrs,wr,List.flatMap_cons]
     rw[e,show(j+1)*2=(j*2)+1+1 by omega]
     simpa using ih j (by simpa using h)
theorem Wc (a:Option Addr)(n cap:Nat)(w:World):Lk Tryz.prog 187 [.slice a n cap] w fun v w'=>∃b,v= .func (.func 204) #[] #[ptr b 0]/\UD w b [.slice a n cap] 105 w':=by
 refine KJ (e:=[(0,_)]) Tryz.func187 rfl Tryz.ntmps187 rfl rfl (qN rfl (KU rfl rfl (MH rfl rfl) ?_))
 rintro _ w1 ⟨b1,rfl,hN⟩
 refine KO rfl (qM rfl (qV (Zj (first:=[]) (caps:=[.tmp 1]) rfl rfl) (KO rfl (py (KP Tryz.func187 rfl ?_)))))
 exact⟨_,rfl,_,rfl,hN⟩
theorem Y4 (l bx:Nat)(ca:Value)(xs:List (Int×Bytes))(J:Nat->World->Prop)(Jx:World->Prop)(w:World)(hn:xs.length<4611686018427387904)
  (hJ:∀i w,J i w->(∃T,KY w bx [ca] T)/\Sl w ca 308 2 xs.length (wrs xs))
  (hround:∀i w x,xs.reverse[i]? =some x->J i w->Xs Tryz.prog l [I ((xs.length:Int)-1-i),.agg (wr x).toArray] w fun v w'=>(v= .bool true/\J (i+1) w')\/(v= .bool false/\Jx w')) (h0:J 0 w):
  Lk Tryz.prog 204 [.func (.yield l) #[] #[],ptr bx 0] w fun v w'=>v= .tuple #[]/\(J xs.length w'\/Jx w'):=by
 obtain⟨⟨T,hM⟩,hS⟩:=hJ 0 w h0
 obtain⟨a,cap,rfl,ha⟩:=hS.rd.shape
 refine KJ (e:=[(0,_),(1,_)]) Tryz.func204 rfl Tryz.ntmps204 rfl rfl (qN rfl (qV (KS Vt rfl rfl hM rfl) (qV (LM Vt rfl) (qV (Md rfl rfl (by omega)) (KO rfl (py (KL ?_)))))))
 rw[show(xs.length:Int)-1=(xs.length:Int)-1-((0:Nat):Int) by omega]
 refine MV (α:=Nat) (0) (fun i=>[(0,.func (.yield l) #[] #[]),(1,ptr bx 0),(3,I ((xs.length:Int)-1-i))]) (fun i w=>i<=xs.length/\J i w) (fun i=>xs.length-i) ?hI ?hround
 case hI=>exact⟨by omega,h0⟩
 case hround=>
  rintro i w1 ⟨hi,hj⟩ ih
  try dsimp only
  obtain⟨⟨T1,dw⟩,jc⟩:=hJ i w1 hj;refine run_seq (qN rfl (An rfl (qV (Ou rfl rfl) (py (KZ rfl (fun jk=>?_) (fun jk=>?_))))))
  ·have aO:i<xs.length:=by omega
   have yX:=jc.shape;rcases yX with⟨-,h⟩|⟨gb,cap',kH,jj⟩
   ·omega
   cases kH;obtain⟨x,hx⟩:∃x,xs.reverse[i]? =some x:=⟨_,List.getElem?_eq_getElem (by simpa using aO)⟩
   have gB:((wrs xs).drop ((xs.length-1-i)*2)).take 2=wr x:=by
    rw[z2d xs _ (by omega)]
    congr 1
    rw[List.getElem?_reverse aO,List.getElem?_eq_getElem (by omega)] at hx;exact ML hx
   have hz:((xs.length:Int)-1-i)=((xs.length-1-i:Nat):Int):=by omega
   have hy:=hround i w1 x hx hj;rw[hz] at hy⊢;refine It (run_seq (KL (qN rfl (An rfl (An rfl (qV (KS Vt rfl rfl dw rfl) (An rfl (qV (LC Vt Ri rfl rfl (by omega)) (qV (Lj zaJ rfl Ri rfl (jc.part gB) rfl) (z1B rfl rfl (yy (args:=[.tmp 12,.tmp 16]) rfl rfl) (hy) ?_))))))))));rintro v w2 hv;rcases hv with⟨rfl,kf⟩|⟨rfl,af⟩
   ·refine qV ((by first|exact LN rfl|exact Na rfl)) ?_;refine py (KH rfl (It (KM (KQ rfl (An rfl (qV (Md rfl rfl (by omega)) (KO rfl (py ?_))))))));rw[show((xs.length-1-i:Nat):Int)-1=(xs.length:Int)-1-((i+1:Nat):Int) by omega];exact(ih (i+1) w2 ⟨by omega,kf⟩ (by omega)).qb
   ·refine qV ((by first|exact LN rfl|exact Na rfl)) ?_;refine py (L3 rfl (KP Tryz.func204 rfl ?_));exact⟨_,rfl,rfl,.inr af⟩
  ·refine KX rfl (M8 Tryz.func204 rfl ?_);have:i=xs.length:=by omega
   subst this;exact⟨_,rfl,rfl,.inl hj⟩
theorem z0t (xs:List (Int×Bytes))(n:Int)(i:Nat):(∀j x,j<i->xs.reverse[j]? =some x->x.1≠n)->∀x,xs.reverse[i]? =some x->x.1=n->Rl xs n=some x.2:=by
 intro fO x hx he
 have aO:i<xs.reverse.length:=by
  rcases Nat.lt_or_ge i xs.reverse.length with h| h
  ·exact h
  ·rw[List.getElem?_eq_none h] at hx;cases hx
 have:xs.reverse.find? (fun x=>x.1==n)=some x:=by
  rw[List.find?_eq_some_iff_getElem];refine⟨by simp[he],i,aO,?_,fun j hj=>?_⟩
  ·rw[List.getElem?_eq_getElem aO] at hx;exact ML hx
  ·have:=fO j _ hj (List.getElem?_eq_getElem (by omega))
   simpa using this
 simp[Rl,this]
theorem z1v (xs:List (Int×Bytes))(n:Int):(∀j x,j<xs.length->xs.reverse[j]? =some x->x.1≠n)->Rl xs n=none:=by
 intro fO
 have:xs.reverse.find? (fun x=>x.1==n)=none:=by
  rw[List.find?_eq_none];intro x hx;obtain⟨j,hj,rfl⟩:=List.getElem_of_mem hx;have:=fO j _ (by simpa using hj) (List.getElem?_eq_getElem hj)
  simpa using this
 simp[Rl,this]
theorem z6V {w:World}{p m:Nat}{kp ca:Value}{D:Dev}(n:Int)(h:N7 w p m kp ca D)(hc:D.cache.length<1000000000000):
  Lk Tryz.prog 165 [ptr p 0,I n] w fun v w'=>v=S (D.now n)/\Ext w w':=by
 have hM:=h.KN
 have aD:=h.ok.len
 have eM:=hc
 obtain⟨a,cap,rfl,ha⟩:=h.cache.rd.shape
 refine KJ (e:=[(0,_),(1,_)]) Tryz.func165 rfl Tryz.ntmps165 rfl rfl (qN rfl (KU rfl rfl (MH rfl rfl) ?_))
 rintro _ w1 ⟨b3,rfl,dZ,ad,ao⟩
 refine KU rfl rfl (N3 (cs:=[_]) WR rfl) ?_
 rintro _ w2 ⟨b4,rfl,gh,af,aJ⟩
 replace h:=(h.ext ad).ext af
 have lS:=h.KN
 refine py (run_seq (qN rfl (An rfl (qV (L6 rfl) (qV (KT To rfl) (qV (KS Vt rfl rfl lS rfl) (La [.tmp 10] zbk rfl (Wc a D.cache.length cap _) ?_)))))))
 rintro _ w3 ⟨bx,rfl,f9,ah,g7⟩
 replace h:=h.ext ah
 replace ao:=ah.KN (af.KN ao)
 replace aJ:=ah.KN aJ
 refine py (KL (OK (ps:=[12,13]) (p:=[]) (q:=[_]) rfl zcn ?_))
 rintro l w4 aB hl co hD Rc dc eG
 have Ki:=z4C dc eG
 have h3:=h
 replace h:=h.ext aB
 replace ao:=aB.KN ao
 replace aJ:=aB.KN aJ
 have CA:=g7.lt
 have lT:=ao.lt
 have dC:=ad.size
 have cP:=af.size
 have o2:=ah.size
 have Ib:bx<w3.heap.size:=g7.lt
 replace g7:=aB.KN g7
 refine Lk.mono (Y4 l bx (.slice a D.cache.length cap) D.cache
  (fun i w'=>Rc .ready none w'/\Kp (fun k=>k=l) w4 w'/\∀j x,j<i->D.cache.reverse[j]? =some x->x.1≠n)
  (fun w'=>Rc .done (some .ret) w'/\Kp (fun k=>k=l\/k=b4) w4 w'/\KY w' b4 [S (D.now n)] 9) w4 (by omega) ?_ ?_ ⟨eG,Kp.refl _ _,by omega⟩) ?_
 ·rintro i w' ⟨h1,h2,-⟩;refine⟨⟨_,h2.KN g7 (by omega)⟩,h.cache.kp h2 fun g hg dW=>?_⟩;have:=h3.cache.lt hg;omega
 ·rintro i w' x hx ⟨h1,h2,fO⟩;refine PX dc h1 rfl rfl ?_;have vI:=h2.size;refine KQ rfl (KU rfl rfl (N3 (cs:=[_,_]) Ri rfl) ?_);rintro _ w5 ⟨b6,rfl,nN,aR,aN⟩;refine L0 rfl (Lz Ri rfl rfl rfl rfl aN (by simp)) ?_;rintro w6 ⟨mb,aT⟩;have aG:=aR.KK aT (fun i hi=>by omega);replace h1:=aG.rc dc h1 id;replace h2:=h2.trans aG.kp;have CB:=aR.size;have Ic:=mb.lt;refine py (run_beginRound rfl dc h1 ?_);rintro w7 h7 aA;have bE:=aA.KN mb (by omega);have i9:=(h2.trans aA).KN ao (by omega);refine KL (qN rfl (qV (KT UU rfl) (qV ((by first|exact KS U3 rfl rfl bE rfl|exact KS U3 rfl rfl i9 rfl)) ?_)));refine qV ((by first|exact KS U3 rfl rfl bE rfl|exact KS U3 rfl rfl i9 rfl)) ?_;refine qV (Mr rfl rfl) (py (KZ rfl (fun dx=>?_) (fun dx=>?_)))
  ·have en:=(h2.trans aA).KN aJ (by omega);refine qN rfl (qV (KT Xq rfl) (qV ((by first|exact KS U9 rfl rfl bE rfl|exact KS U9 rfl rfl i9 rfl)) ?_));refine L0 rfl (Mt WR rfl rfl rfl en (by simp)) ?_;rintro w8 ⟨bZ,bh⟩;refine py (SS dc (bh.rc dc h7 (by omega)) ?_);intro w9 h9 aL;refine .inr ⟨rfl,h9,((h2.trans aA).L2 fun _ h=> .inl h).trans ((bh.L2 fun _ h=> .inr h).trans (aL.L2 fun _ h=> .inl h)),?_⟩
   have CC:D.now n=x.2:=by
    unfold Dev.now;rw[z0t D.cache n i fO x hx dx]
    rfl
   rw[CC];exact aL.KN bZ (by omega)
  ·refine It (KM (P9 dc h7 ?_));intro w9 h9 aL;refine .inl ⟨rfl,h9,(h2.trans aA).trans aL,fun j y hj hy=>?_⟩;rcases Nat.lt_or_ge j i with qe|qe
   ·exact fO j y qe hy
   ·have:j=i:=by omega
    subst this;rw[hx] at hy;cases hy;exact dx
 ·rintro v w' ⟨rfl,⟨h1,h2,fO⟩|⟨h1,h2,hB⟩⟩
  ·refine⟨_,_,h1,by simp,fun w5 h5=>?_⟩;have aj:=h2.trans h5;have aR:Ext w3 w5:=aB.KK aj (fun i hi=>by omega);replace h3:=h3.ext aR;have i9:=aj.KN ao (by omega);have en:=aj.KN aJ (by omega);have sB:=aj.heap hD (by omega);refine KM (qN rfl (An rfl (qV (KS U3 rfl rfl i9 rfl) (La [.tmp 20,.tmp 21] z7Q rfl (Z1 n h3) ?_))));rintro _ w6 ⟨rfl,aG⟩;replace en:=aG.KN en;replace sB:=aG.heap sB id;refine L0 rfl (Mt WR rfl rfl rfl en (by simp)) ?_;rintro w7 ⟨bE,aA⟩;replace sB:=aA.heap sB (by omega);have bZ:=(Mf w7 w3.heap.size (.deferred none)).KN bE (by omega);refine py (Rz (by simp) (Vd sB) Tryz.func165 (.cell1 U9 rfl rfl ((bZ).cell _) .nil) ?_);refine⟨_,rfl,?_,?_⟩
   ·simp[Dev.now,z1v D.cache n fO,resVal]
   ·exact((((ad.trans (af.trans ah)).trans aR).trans aG).KK aA (fun i hi=>by omega)).KK (Mf w7 w3.heap.size (.deferred none)) (fun i hi=>by omega)
  ·refine⟨_,_,h1,by simp,fun w5 h5=>?_⟩;have sB:=(h2.trans (h5.L2 fun _ h=> .inl h)).heap hD (by omega);have aF:=h5.KN hB (by omega);have bZ:=(Mf w5 w3.heap.size (.deferred none)).KN aF (by omega);refine Rz (by simp) (Vd sB) Tryz.func165 (.cell1 U9 rfl rfl ((bZ).cell _) .nil) ?_;refine⟨_,rfl,rfl,?_⟩;exact(((ad.trans (af.trans (ah.trans aB))).KK h2 (fun i hi=>by omega)).KK h5 (fun i hi=>by omega)).KK (Mf w5 w3.heap.size (.deferred none)) (fun i hi=>by omega)
section
variable {w:World}{p m:Nat}{kp ca:Value}{D:Dev}
theorem z4T (h:N7 w p m kp ca D):Lk Tryz.prog 123 [ptr p 0] w fun v w'=>v= .bool D.down/\w'=w:=by
 have hM:=h.KN
 refine KJ (e:=[(0,_)]) Tryz.func123 rfl Tryz.ntmps123 rfl rfl (qN rfl (KO rfl (qM rfl (An rfl (qV (LQ ZY rfl rfl) (An rfl (An rfl (qV (L6 rfl) (qV (KT XT rfl) (qV (KS U4 rfl rfl hM rfl) (qV (Ls rfl rfl) (KO rfl (py ?_)))))))))))))
 refine KP Tryz.func123 rfl ?_
 exact⟨_,rfl,rfl,rfl⟩
end
theorem z2M (v:Value)(l:List Int)(x:Int)(w:World)(hl:l.length<=17592186044416)(hr:Rd w v 1 l.length (l.map I)):
  Lk Tryz.prog 182 [v,I x] w fun u w'=>(∃k,u=I k/\(0<=k↔x∈l))/\w'=w:=by
 obtain⟨a,cap,rfl,ha⟩:=hr.shape
 refine KJ (e:=[(0,_),(1,_)]) Tryz.func182 rfl Tryz.ntmps182 rfl rfl (qN rfl (KO rfl (py (run_seq (qN rfl (An rfl (qV (LM Mw rfl) (An rfl (py (KL (MV (α:=Nat) (0) (fun i=>[(0,.slice a l.length cap),(1,I x),(7,I (l.length:Int)),(8,I (i:Int))]) (fun i w'=>w'=w/\i<=l.length/\∀j,j<i->l[j]?≠some x) (fun i=>l.length-i) ?hI ?hround)))))))))))
 case hI=>exact⟨rfl,by omega,by omega⟩
 case hround =>
  rintro i _ ⟨rfl,hi,fO⟩ ih
  try dsimp only
  refine qN rfl (qV (LX rfl rfl) (py (run_seq (KZ rfl (fun aO=>?_) (fun aO=>?_)))))
  ·have fu:i<l.length:=by omega
   rcases hr.2 with⟨c,-,h⟩|⟨b,off,cap',kH,bc⟩
   ·omega
   cases kH;refine It (run_seq (KL (qN rfl (An rfl (KO rfl (qM rfl (An rfl (An rfl (An rfl (qV (LC Mw LG rfl rfl (by omega)) (qV (Lm U3 rfl rfl (bc (i*1) (I l[i]) (by simp[fu]))) ?_)))))))))));refine qV (Mr rfl rfl) (py (KZ rfl (fun dx=>?_) (fun dx=>?_)))
   ·refine qN rfl (An rfl (KO rfl (py (KP Tryz.func182 rfl (⟨_,rfl,⟨(i:Int),rfl,?_⟩,rfl⟩)))));constructor
    ·intro _;rw[dx];exact List.getElem_mem fu
    ·intro _;omega
   ·refine It (KM (KQ rfl (LH rfl rfl (An rfl (py ?_)))))
    exact(ih (i+1) _ ⟨rfl,by omega,fun j hj=>by
     rcases Nat.lt_or_ge j i with h| h
     ·exact fO j h
     ·have:j=i:=by omega
      subst this;rw[List.getElem?_eq_getElem fu]
      exact fun h=>dx (ML h).symm⟩ (by omega)).qb
  ·refine KX rfl (qN rfl (KO rfl (py (KP Tryz.func182 rfl (⟨_,rfl,⟨-1,rfl,?_⟩,rfl⟩)))));constructor
   ·intro h;omega
   ·intro h;obtain⟨j,hj,e⟩:=List.getElem_of_mem h;exact absurd (by rw[List.getElem?_eq_getElem hj,e]) (fO j (by omega))
theorem Xt (v:Value)(l:List Int)(x:Int)(w:World)(hl:l.length<=17592186044416)(hr:Rd w v 1 l.length (l.map I)):
  Lk Tryz.prog 203 [v,I x] w fun u w'=>u= .bool (decide (x∈l))/\w'=w:=by
 refine KJ (e:=[(0,_),(1,_)]) Tryz.func203 rfl Tryz.ntmps203 rfl rfl (qN rfl (KO rfl (qM rfl (An rfl (An rfl (La [.tmp 5,.tmp 6] z8y rfl (z2M v l x w hl hr) ?_))))))
 rintro _ w1 ⟨⟨k,rfl,hk⟩,rfl⟩
 refine qV (Ou rfl rfl) (KO rfl (py (KP Tryz.func203 rfl (⟨_,rfl,?_,rfl⟩))))
 simp only[resVal,hk]
theorem z0a (c x:Bytes)(rest:List Value)(i:Nat)(h:i+x.length<=c.length):Mh (c.map Oq++rest) i (x.map Oq)=(z3h c i x).map Oq++rest:=by
 unfold Mh z3h
 rw[List.take_append_of_le_length (by simp;omega),List.drop_append_of_le_length (by simp;omega)]
 simp
theorem TW {D:Dev}{l:List Int}{tn:Int}{mk:UInt8}{i:Nat}{x:Int×Bytes}(hx:D.cache[i]? =some x):D.fallTo l tn mk (i+1)=
  if(i:Int)=tn then VL (D.fallTo l tn mk i) x.1 (mixN mk (((D.fallTo l tn mk i) x.1).getD (zeros (512*D.N))) x.2 D.N)
   else if(i:Int)∈l then VL (D.fallTo l tn mk i) x.1 x.2 else D.fallTo l tn mk i:=by
 simp only[Dev.fallTo,hx]
theorem z66 {w : World}{p m : Nat}{kp ca cv : Value}{D : Dev}(h : N7 w p m kp ca D)(l : List Int)(tn : Int)(mk : UInt8)(hl : l.length <= 17592186044416)(hr : Rd w cv 1 l.length (l.map I))(eM : D.cache.length < 2000000000000) :
  Lk Tryz.prog 186 [ptr p 0,.agg #[cv,I tn,Oq mk]] w fun v w'=>v= .tuple #[]/\N7 w' p m (.slice none 0 0) (.slice none 0 0) (D.z61 l tn mk)/\Kp (fun k=>k=p\/k=m) w w':=by
 have aD:=h.ok.len
 have hN:=h.ok.hN
 have Id:=mk.toNat_lt
 have Ie:=h.pm
 have CD:=h.lt m (.inr (.inl rfl))
 have Fc:∀{w':World},Ext w w'->w.heap.size<=w'.heap.size:=fun h=>h.size
 obtain⟨a,cap,rfl,ha⟩:=h.cache.rd.shape
 obtain⟨ac,capc,rfl,Kj⟩:=hr.shape
 refine KJ (e:=[(0,_),(1,_)]) Tryz.func186 rfl Tryz.ntmps186 rfl rfl (qN rfl (KU rfl rfl (MH rfl rfl) ?_))
 rintro _ w1 ⟨b3,rfl,dZ,ad,ao⟩
 have h0:=h.ext ad
 have dC:=ad.size
 replace hr:=hr.ext ad
 have CA:=ao.lt
 have hM:=h0.KN
 refine py (run_seq (qN rfl (An rfl (qV (L6 rfl) (qV (KT To rfl) (qV (KS Vt rfl rfl hM rfl) (qV (LM Vt rfl) (An rfl (py (KL (MV (α:=Nat) (0) (fun i=>[(0,ptr p 0),(3,ptr b3 0),(11,.slice a D.cache.length cap),(12,I (D.cache.length:Int)),(13,I (i:Int))]) (fun i wi=>i<=D.cache.length/\N7 wi p m kp (.slice a D.cache.length cap) {D with sf:=D.fallTo l tn mk i}/\Rd wi (.slice ac l.length capc) 1 l.length (l.map I)/\KY wi b3 [.slice ac l.length capc,I tn,Oq mk] 102/\Kp (fun k=>k=m) w1 wi) (fun i=>D.cache.length-i) ?hI ?hround)))))))))))
 case hI=>exact⟨by omega,h0,hr,ao,Kp.refl _ _⟩
 case hround =>
  rintro i wi ⟨hi,hd,lq,fd,qW⟩ ih
  try dsimp only
  have If:=qW.size;refine qN rfl (qV (LX rfl rfl) (py (run_seq (KZ rfl (fun aO=>?_) (fun aO=>?_)))))
  ·have fu : i < D.cache.length := by omega
   have mZ:=hd.cache;rcases mZ.shape with⟨-,h⟩|⟨gb,cap',kH,jj⟩
   ·exact absurd h (by show ¬D.cache.length=0;omega)
   cases kH;obtain⟨x,hx⟩:∃x,D.cache[i]? =some x:=⟨_,List.getElem?_eq_getElem fu⟩;have E9:D.cache[i]=x:=by rw[List.getElem?_eq_getElem fu] at hx;exact ML hx
   have gB:((wrs D.cache).drop (i*2)).take 2=wr x:=by rw[z2d _ _ fu,E9]
   have ia:=hd.ok.cache x (List.mem_of_getElem? hx);simp only at ia;have ko:=mZ.part gB;refine It (run_seq (KL (qN rfl (An rfl (qV (LC Vt Ri rfl rfl (by omega)) (qV (Lj zaJ rfl Ri rfl ko rfl) (KU rfl rfl (N3 (cs:=[_,_]) Ri rfl) ?_)))))));rintro _ w2 ⟨b5,rfl,gD,af,aF⟩;refine KO rfl (L0 rfl (Lz Ri rfl rfl rfl rfl aF (by simp)) ?_);rintro w3 ⟨dh,au⟩;replace dh:KY w3 b5 [I x.1,S x.2] 308:=dh;have ah:Ext wi w3:=af.KK au (fun j hj=>by omega);have gy:=dh.lt;replace hd:=hd.ext ah;have kR:=hd.lt;replace lq:=lq.ext ah;have pp:=lq;replace fd:=ah.KN fd;have lT:=fd.lt;have cm:Kp (fun k=>k=m) w1 w3:=qW.trans ah.kp;have Ig:=ah.size;have Fe:¬b3=b5:=by have:=af.size;have:=fd;omega
   refine py (KL (qN rfl (An rfl (qV (KT z7I rfl) (qV ((by first|exact KS U3 rfl rfl fd rfl|exact KS U3 rfl rfl dh rfl)) ?_)))));refine qV (Mr rfl rfl) (KO rfl (py (KZ rfl (fun sC=>?_) (fun sC=>?_))))
   ·refine qN rfl (An rfl (qV (KT UU rfl) (qV ((by first|exact KS U3 rfl rfl fd rfl|exact KS U3 rfl rfl dh rfl)) ?_)));refine La [.tmp 23,.tmp 25] z7Q rfl (Z1 x.1 hd) ?_;rintro _ w4 ⟨rfl,aB⟩;obtain⟨k0,g9⟩:∃k0,Dev.kept {D with sf:=D.fallTo l tn mk i} x.1=k0:=⟨_,rfl⟩;have xh:k0.length=512*D.N:=by rw[<-g9];exact hd.ok.kept x.1
    rw[g9];refine KU rfl rfl (z4H U9 M4 U5 rfl) ?_;rintro _ w5 ⟨bb,capb,rest,rfl,⟨uj,aR,zd⟩,Ff⟩;have db:=aB.trans aR;replace hd:=hd.ext db;replace lq:=lq.ext db;replace fd:=db.KN fd;replace dh:=db.KN dh;have Ih:=zd.lt;have na:=hd.KN;have Fg:=db.size;have Ii:=aB.size;have Ij:=hd.KN.lt;refine KO rfl (py (run_seq (qN rfl (An rfl (qV (L6 rfl) (qV (KT V7 rfl) (qV (KT TS rfl) (qV (KS U3 rfl rfl na rfl) (An rfl (py (KL (MV (α:=Nat) (0) (fun s=>[(0,ptr p 0),(3,ptr b3 0),(5,ptr b5 0),(6,.slice (some ⟨bb,0,none⟩) k0.length capb),(11,.slice (some ⟨gb,0,none⟩) D.cache.length cap),(12,I (D.cache.length:Int)),(13,I (i:Int)),(32,I (D.N:Int)),(33,I (s:Int))]) (fun s ws=>s<=D.N/\KY ws bb ((mixN mk k0 x.2 s).map Oq++rest) 5/\Kp (fun k=>k=bb) w5 ws) (fun s=>D.N-s) ?hI ?hround))))))))))))
    case hI=>exact⟨by omega,zd,Kp.refl _ _⟩
    case hround=>
     rintro s ws ⟨hs,jd,fY⟩ ihs
     try dsimp only
     have xi:=fY.KN fd (by omega);have sD:=fY.KN dh (by omega);have eL:=Rq mk k0 x.2 D.N xh ia.2.2 s hs;refine qN rfl (qV (LX rfl rfl) (py (run_seq (KZ rfl (fun j4=>?_) (fun j4=>?_)))))
     ·have Ik:s<D.N:=by omega
      obtain⟨q,hq⟩:∃q,mk.toNat / 2^s=q:=⟨_,rfl⟩;have Kk:q<256:=by rw[<-hq];exact Nat.lt_of_le_of_lt (Nat.div_le_self _ _) Id
      refine It (run_seq (KL (qN rfl (An rfl (KO rfl (qM rfl (qV (KT z7t rfl) (qV (KS U5 rfl rfl xi rfl) (An rfl (qV (Ps s (2^s) rfl rfl (by simp only[IntKind.bits];omega) rfl) ?_))))))))));rw[hq];refine qV (zen rfl rfl (by omega) (by omega)) ?_;rw[Nat.and_one_is_mod];refine qV (Mr rfl rfl) (py (KZ rfl (fun mL=>?_) (fun mL=>?_)))
      ·have ng:q%2=1:=by omega
       refine KV (fun w'=>Kp (fun k=>k=bb) ws w') (by kernel_rfl) rfl (KR 0 rfl (KW rfl) ((Kp.refl _ ws).drew) (KR 1 rfl (KW rfl) ((Kp.refl _ ws).drew) (KR 2 rfl (Tu rfl rfl (by omega)) ((Kp.refl _ ws).drew) (KR 3 rfl (KW rfl) ((Kp.refl _ ws).drew) (KR 4 rfl (PM rfl rfl (by omega)) ((Kp.refl _ ws).drew) (KR 5 rfl (Tu rfl rfl (by omega)) ((Kp.refl _ ws).drew) (KR 7 rfl (KT Xq rfl) ((Kp.refl _ ws).drew) (qT 8 rfl (fun _ h=>KS U9 rfl rfl (h.KN sD (by omega)) rfl) ((Kp.refl _ ws).drew) (KR 9 rfl (KW rfl) ((Kp.refl _ ws).drew) (KR 10 rfl (Tu rfl rfl (by omega)) ((Kp.refl _ ws).drew) (KR 11 rfl (VJ U9 rfl rfl (by omega)) ((Kp.refl _ ws).drew) (KR 6 rfl (z8X (i:=s*512) (j:=(s+1)*512) M4 SJ rfl rfl rfl (by omega) (by omega)) ((Kp.refl _ ws).drew) (qO 12 ?_)))))))))))));refine Um (i:=12) rfl rfl rfl (zd9 M4 SJ rfl rfl ((Ext.Lb ws).KN jd) (by simp[eL];omega)) ?_;rintro _ w6 ⟨rfl,aN,aT⟩;refine⟨(Kp.refl _ ws).drew.trans aT,?_⟩
       have e6:((x.2.drop (s*512)).take ((s+1)*512-s*512)).map Oq=((x.2.drop (512*s)).take 512).map Oq:=by
        rw[show(s+1)*512-s*512=512 by omega,Nat.mul_comm]
       rw[e6,show 0+s*512*1=512*s by omega,z0a _ _ _ _ (by simp[eL,ia.2.2];omega)] at aN
       have em:mixN mk k0 x.2 (s+1)=z3h (mixN mk k0 x.2 s) (512*s) ((x.2.drop (512*s)).take 512):=by
        simp only[mixN,hq,ng,if_true]
       rw[<-em] at aN;refine qE (KM (KQ rfl (LH rfl rfl (An rfl (py ?_)))));exact(ihs (s+1) w6 ⟨by omega,aN,fY.trans ((Kp.refl _ ws).drew.trans aT)⟩ (by omega)).qb
      ·have ng:¬q%2=1:=by omega
       have em:mixN mk k0 x.2 (s+1)=mixN mk k0 x.2 s:=by simp only[mixN,hq,ng,if_false]
       rw[<-em] at jd;refine It (KM (KQ rfl (LH rfl rfl (An rfl (py ?_)))));exact(ihs (s+1) ws ⟨by omega,jd,fY⟩ (by omega)).qb
     ·have AY:s=D.N:=by omega
      subst AY;have tS:=hd.kp fY fun k hk ey=>by have:=kR k hk;omega
      obtain⟨kv,mY,mj⟩:=tS.map;have Fh:=tS.KN;have Fi:Ext w3 ws:=db.KK fY (fun j hj=>by omega);have sE:=pp.ext Fi;refine KX rfl (KV (fun w'=>Kp (fun k=>k=m) ws w') (by kernel_rfl) rfl (KR 0 rfl (KW rfl) ((Kp.refl _ ws).drew) (KR 1 rfl (L6 rfl) ((Kp.refl _ ws).drew) (KR 2 rfl (KT Xx rfl) ((Kp.refl _ ws).drew) (qT 3 rfl (fun _ hS=>(by first|exact KS YJ rfl rfl (hS.KN Fh tS.pm) rfl|exact KS YJ rfl rfl (hS.KN sD (by omega)) rfl)) ((Kp.refl _ ws).drew) ?_)))));refine KR 4 rfl (KT UU rfl) ((Kp.refl _ ws).drew) (qT 5 rfl (fun _ hS=>(by first|exact KS U3 rfl rfl (hS.KN Fh tS.pm) rfl|exact KS U3 rfl rfl (hS.KN sD (by omega)) rfl)) ((Kp.refl _ ws).drew) ?_);refine KR 6 rfl (KW rfl) ((Kp.refl _ ws).drew) (qT 7 rfl (fun _ h=>z3f (l:=mixN mk k0 x.2 D.N) M4 U5 U9 rfl (h.KN jd (by omega)) (Zq _ _ _ (by omega)) (by omega)) ((Kp.refl _ ws).drew) (qO 8 (Lv (i:=8) rfl rfl (zmu (k:=x.1) (K:=KI) YJ (Ng U3) rfl rfl rfl (Ext.map (Ext.Lb ws) mY)) ?_)));rintro w7 ⟨fP,aA⟩;refine⟨(Kp.refl _ ws).drew.trans aA,?_⟩;have ib:=(Kp.refl (fun i=>i=m) ws).drew.trans aA;have qn:=tS.put mj fP ib (tS.ok.put ⟨ia.1,ia.2.1⟩ (Rq mk k0 x.2 D.N xh ia.2.2 D.N (Nat.le_refl _)))
      have ef:VL (D.fallTo l tn mk i) x.1 (mixN mk k0 x.2 D.N)=D.fallTo l tn mk (i+1):=by
       rw[TW hx,if_pos sC,<-g9];rfl
      simp only[ef] at qn;refine qE (KM (KM (KQ rfl (LH rfl rfl (An rfl (py ?_))))));exact(ih (i+1) w7 ⟨by omega,qn,sE.kpm mY ib,ib.KN xi (by omega),cm.trans (Fi.kp.trans ib)⟩ (by omega)).qb
   ·have xj:=hd.KN;refine qN rfl (qV (KT z7D rfl) (qV ((by first|exact KS Mw rfl rfl fd rfl|exact KS Mw rfl rfl dh rfl)) ?_));refine An rfl (La [.tmp 66,.tmp 67] zcy rfl (Xt (.slice ac l.length capc) l (i:Int) w3 hl pp) ?_);rintro _ w4 ⟨rfl,rfl⟩;refine KO rfl (py (KZ rfl (fun aW=>?_) (fun aW=>?_)))
    ·obtain⟨kv,mY,mj⟩:=hd.map;refine KV (fun w'=>Kp (fun k=>k=m) w4 w') (by kernel_rfl) rfl (KR 0 rfl (KW rfl) ((Kp.refl _ w4).drew) (KR 1 rfl (L6 rfl) ((Kp.refl _ w4).drew) (KR 2 rfl (KT Xx rfl) ((Kp.refl _ w4).drew) (qT 3 rfl (fun _ hS=>(by first|exact KS YJ rfl rfl (hS.KN xj hd.pm) rfl|exact KS YJ rfl rfl (hS.KN dh (by omega)) rfl)) ((Kp.refl _ w4).drew) ?_))));refine KR 4 rfl (KT UU rfl) ((Kp.refl _ w4).drew) (qT 5 rfl (fun _ hS=>(by first|exact KS U3 rfl rfl (hS.KN xj hd.pm) rfl|exact KS U3 rfl rfl (hS.KN dh (by omega)) rfl)) ((Kp.refl _ w4).drew) ?_);refine KR 6 rfl (KT Xq rfl) ((Kp.refl _ w4).drew) (qT 7 rfl (fun _ hS=>(by first|exact KS U9 rfl rfl (hS.KN xj hd.pm) rfl|exact KS U9 rfl rfl (hS.KN dh (by omega)) rfl)) ((Kp.refl _ w4).drew) ?_);refine qO 8 (Lv (i:=8) rfl rfl (zmu (k:=x.1) (K:=KI) YJ (Ng U3) rfl rfl rfl (Ext.map (Ext.Lb w4) mY)) ?_);rintro w7 ⟨fP,aA⟩;refine⟨(Kp.refl _ w4).drew.trans aA,?_⟩;have ib:=(Kp.refl (fun i=>i=m) w4).drew.trans aA;have qn:=hd.put mj fP ib (hd.ok.put ⟨ia.1,ia.2.1⟩ ia.2.2)
     have ef:VL (D.fallTo l tn mk i) x.1 x.2=D.fallTo l tn mk (i+1):=by
      rw[TW hx,if_neg sC,if_pos aW]
     simp only[ef] at qn;refine qE (KM (KM (KQ rfl (LH rfl rfl (An rfl (py ?_))))));exact(ih (i+1) w7 ⟨by omega,qn,pp.kpm mY ib,ib.KN fd (by omega),cm.trans ib⟩ (by omega)).qb
    ·have ef:D.fallTo l tn mk i=D.fallTo l tn mk (i+1):=by
      rw[TW hx,if_neg sC,if_neg aW]
     rw[ef] at hd;refine It (KM (KM (KQ rfl (LH rfl rfl (An rfl (py ?_))))));exact(ih (i+1) w4 ⟨by omega,hd,pp,fd,cm⟩ (by omega)).qb
  ·have aW:i=D.cache.length:=by omega
   subst aW;have xj:=hd.KN;refine KX rfl (qN rfl (An rfl (qV (L6 rfl) (qV (KT To rfl) (L0 rfl (Mt z2H rfl rfl rfl xj (by simp)) ?_)))));rintro w5 ⟨aF,aj⟩;refine qM rfl (An rfl (qV (NA (parts:=[]) (cs:=[_,_,_,_]) z1X rfl zbD rfl rfl) (qV (L6 rfl) (qV (KT S0 rfl) (L0 rfl (Lz z1X rfl rfl rfl rfl aF (by simp)) ?_)))));rintro w6 ⟨aN,aT⟩;replace aN:KY w6 p [I 0,.slice none 0 0,I 0,Oq 0,I (D.B:Int),I (D.N:Int),.map (some m),.slice none 0 0,.bool D.down,I D.calls,I D.reads] 107:=aN;refine py (KQ rfl (An rfl (qV (L6 rfl) (qV (KT XT rfl) (L0 rfl (Mt QX rfl rfl rfl aN (by simp)) ?_)))));rintro w7 ⟨bE,aA⟩;refine py (M8 Tryz.func186 rfl ?_);have ic:=(aj.trans aT).trans aA;obtain⟨kv,mY,mj⟩:=hd.map;refine⟨_,rfl,rfl,⟨bE,⟨kv,ic.map mY fun e=>hd.pm e.symm,mj⟩,Sl.nil w7 _ _,Sl.nil w7 _ _,?_⟩,?_⟩
   ·exact⟨hd.ok.hB,hd.ok.hN,by simp[Dev.z61],hd.ok.sf,fun x hx=>by simp[Dev.z61] at hx,by have:=aD;simp[Dev.z61];omega,hd.ok.reads⟩
   ·exact((Ext.kp ad).trans (qW.L2 fun _ h=> .inr h)).trans (ic.L2 fun _ h=> .inl h)
def Dev.push (D:Dev)(n:Int)(s:Bytes):Dev:={D with cache:=D.cache++[(n,s)]}
theorem z5d {P:Program}{e:Env}{d:Option Nat}{ty t t':TypeId}{pos:String}{aft:Array Edge}{g:Option (Nat×Bool)}{x y:Operand}{w:World}{a b:Int}(hx:look e x=some (I a))(hy:look e y=some (I b)):Y P e ⟨d,.binOp .add t x y t',ty,pos,aft,g⟩ (I (IntKind.i64.wrap (a+b))) w w:=fun ρ hρ=>by simp[execOp,go_sem,hρ _ _ hx,hρ _ _ hy]
def Dev.z8k (D:Dev):Dev:=D.z61 D.Nz D.z77 D.mask
def Dev.write (D:Dev)(n:Int)(s:Bytes):Dev×Int:=
 if D.down then(D,8)
 else if D.has n=false\/s.length≠512*D.N then(D,1)
 else if D.due=1 then(((D.push n s).count).z8k,8) else((D.push n s).count,0)
def Dev.read (D:Dev)(n:Int):Dev×Bytes×Int:=
 if D.down then(D,[],8) else if D.has n=false then(D,[],1) else({D with reads:=IntKind.i64.wrap (D.reads+1)},D.now n,0)
def VI (w:World)(p m:Nat)(kp ca:Value)(D':Dev)(w':World):Prop:=∃kp' ca',N7 w' p m kp' ca' D'/\Upd (fpD p m kp ca) (fpD p m kp' ca') w w'
theorem VI.same {w w':World}{p m:Nat}{kp ca:Value}{D:Dev}(h:N7 w' p m kp ca D)(k:Ext w w'):VI w p m kp ca D w':=⟨kp,ca,h,k.VL⟩
theorem z5e {w w':World}{p m:Nat}{kp ca:Value}(k:Kp (fun i=>i=p\/i=m) w w'):Upd (fpD p m kp ca) (fpD p m (.slice none 0 0) (.slice none 0 0)) w w':=
 ⟨k.L2 fun i hi=>hi.elim .inl fun h=> .inr (.inl h),fun i hi=>by
  rcases hi with h|h|h| h
  ·exact .inl (.inl h)
  ·exact .inl (.inr (.inl h))
  ·cases h
  ·cases h⟩
section
variable {w:World}{p m:Nat}{kp ca:Value}{D:Dev}
theorem z4B (n:Int)(h:N7 w p m kp ca D)(hc:D.Bd):
  Lk Tryz.prog 127 [ptr p 0,I n] w fun v w'=>v= .tuple #[S (D.read n).2.1,I (D.read n).2.2]/\VI w p m kp ca (D.read n).1 w':=by
 refine KJ (e:=[(0,_),(1,_)]) Tryz.func127 rfl Tryz.ntmps127 rfl rfl (qN rfl (KO rfl (KO rfl (py (run_seq (qN rfl (An rfl (La [.tmp 7] z7Z rfl (Xc h) ?_))))))))
 rintro _ w1 ⟨rfl,rfl⟩
 cases hd:D.down with
 | true =>
   refine KO rfl (qM rfl (An rfl (qV (M0 rfl rfl) (py (KZ rfl (fun hz=>?_) (fun hz=>?_))))))
   ·refine qN rfl (An rfl (KO rfl (KO rfl (py (KP Tryz.func127 rfl ?_)))));have e:D.read n=(D,[],8):=by simp[Dev.read,hd]
    rw[e];exact⟨_,rfl,rfl,VI.same h (Ext.refl _)⟩
   ·exact absurd (by decide) hz
 | false =>
   refine KO rfl (qM rfl (An rfl (qV (M0 rfl rfl) (py (KZ rfl (fun hz=>?_) (fun hz=>?_))))))
   ·exact absurd hz (by decide)
   ·refine It (run_seq (qN rfl (An rfl (An rfl (La [.tmp 12,.tmp 13] z7R rfl (z29 n h) ?_)))));rintro _ w2 ⟨rfl,rfl⟩
    cases hh:D.has n with
    | false =>
      refine qV ((by first|exact LN rfl|exact Na rfl)) ?_;refine py (L3 rfl (qN rfl (KO rfl (KO rfl (py (KP Tryz.func127 rfl ?_))))));have e:D.read n=(D,[],1):=by simp[Dev.read,hd,hh]
      rw[e]
      exact⟨_,rfl,rfl,VI.same h (Ext.refl _)⟩
    | true =>
      refine qV ((by first|exact LN rfl|exact Na rfl)) ?_;refine py (KH rfl ?_);have hM:=h.KN;refine It (qN rfl (An rfl (qV (L6 rfl) (qV (KT z2E rfl) (qV (KS U3 rfl rfl hM rfl) (qV (z5d rfl rfl) (qV (L6 rfl) (qV (KT z2E rfl) (L0 rfl (Mt LG rfl rfl rfl hM (by simp)) ?_)))))))));rintro w3 ⟨CE,au⟩;have h3:=h.turn (D':={D with reads:=IntKind.i64.wrap (D.reads+1)}) CE au rfl rfl rfl rfl ⟨h.ok.hB,h.ok.hN,h.ok.due,h.ok.sf,h.ok.cache,h.ok.len,trivial⟩;refine qM rfl (An rfl (An rfl (La [.tmp 23,.tmp 24] zbv rfl (z6V n h3 hc.2.1) ?_)));rintro _ w4 ⟨rfl,aB⟩;refine KO rfl (KO rfl (py (KP Tryz.func127 rfl ?_)));have e:D.read n=({D with reads:=IntKind.i64.wrap (D.reads+1)},D.now n,0):=by simp[Dev.read,hd,hh]
      rw[e];exact⟨_,rfl,rfl,kp,ca,h3.ext aB,(au.L2 fun _ h=> .inl h).trans aB.kp,fun _ h=> .inl h⟩
theorem z2S (n : Int)(s : Bytes)(h : N7 w p m kp ca D)(hc : D.Bd)(hk : D.Nz.length <= 17592186044416) :
  Lk Tryz.prog 162 [ptr p 0,I n,S s] w fun v w'=>v=I (D.write n s).2/\VI w p m kp ca (D.write n s).1 w':=by
 have eL:maxLen=9223372036854775807:=rfl
 obtain⟨ff,eM,kZ⟩:=hc
 have Il:=h.ok.len
 refine KJ (e:=[(0,_),(1,_),(2,_)]) Tryz.func162 rfl Tryz.ntmps162 rfl rfl (qN rfl (KO rfl (py (run_seq (qN rfl (An rfl (La [.tmp 8] z7Z rfl (Xc h) ?_)))))))
 rintro _ w1 ⟨rfl,rfl⟩
 cases hd:D.down with
 | true =>
   refine KO rfl (qM rfl (An rfl (qV (M0 rfl rfl) (py (KZ rfl (fun hz=>?_) (fun hz=>?_))))))
   ·refine qN rfl (An rfl (KO rfl (py (KP Tryz.func162 rfl ?_))));have e:D.write n s=(D,8):=by simp[Dev.write,hd]
    rw[e];exact⟨_,rfl,rfl,VI.same h (Ext.refl _)⟩
   ·exact absurd (by decide) hz
 | false =>
   refine KO rfl (qM rfl (An rfl (qV (M0 rfl rfl) (py (KZ rfl (fun hz=>?_) (fun hz=>?_))))))
   ·exact absurd hz (by decide)
   ·refine It (run_seq (qN rfl (An rfl (An rfl (La [.tmp 13,.tmp 14] z7R rfl (z29 n h) ?_)))));rintro _ w2 ⟨rfl,rfl⟩
    cases hh:D.has n with
    | false =>
      refine qV ((by first|exact LN rfl|exact Na rfl)) ?_;refine An rfl (qS (qS (qS (qS (qS (qV (LR rfl rfl) (py (L3 rfl (qN rfl (KO rfl (py (KP Tryz.func162 rfl ?_))))))))))));have e:D.write n s=(D,1):=by simp[Dev.write,hd,hh]
      rw[e]
      exact⟨_,rfl,rfl,VI.same h (Ext.refl _)⟩
    | true =>
      have hn:0<=n/\n<(D.B:Int):=by simpa[Dev.has] using hh
      refine qV ((by first|exact LN rfl|exact Na rfl)) ?_;refine An rfl (An rfl (qV (R1 U9 rfl) (An rfl (La [.tmp 20] z94 rfl (Vl h) ?_))));rintro _ w3 ⟨rfl,rfl⟩;refine qV (M0 rfl rfl) (qV (Ls rfl rfl) (py (KZ rfl (fun co=>?_) (fun co=>?_))))
      ·refine qN rfl (KO rfl (py (KP Tryz.func162 rfl ?_)))
       have e:D.write n s=(D,1):=by
        have:s.length≠512*D.N:=by omega
        simp[Dev.write,hd,hh,this]
       rw[e];exact⟨_,rfl,rfl,VI.same h (Ext.refl _)⟩
      ·have gm:s.length=512*D.N:=by omega
       obtain⟨a,cap,rfl,ha⟩:=h.cache.rd.shape;have hM:=h.KN;refine It (qN rfl (An rfl (An rfl (qV (L6 rfl) (qV (KT To rfl) (qV (KS Vt rfl rfl hM rfl) (An rfl (An rfl (qV (NA (parts:=[(0,.tmp 29),(1,.tmp 30)]) (cs:=[_,_]) Ri rfl zb5 rfl rfl) (KU rfl rfl (Tx (parts:=[(0,.tmp 31)]) (cs:=[_,_]) (zs:=[Value.int .i64 0,Value.string ⟨#[]⟩]) Vt Ri rfl (by kernel_rfl) rfl rfl rfl (by decide)) ?_))))))))));rintro _ w4 ⟨b4,rfl,⟨gh,aB,aJ⟩,dU⟩;have nh:=h.cache.ext aB;refine KU rfl rfl (pap Vt Ri rfl (by decide) rfl rfl nh dU.rd (by intro c hc;simp at hc;rcases hc with rfl|rfl<;>rfl) (by omega) (by omega)) ?_;rintro v' w5 ⟨gd,aj,qo,-⟩;have Ci:oneV v'=true:=by rcases gd.shape with⟨rfl,-⟩|⟨g,cap,rfl,-⟩<;>rfl
       have h4:=h.ext aB
       have kE:∀g,(Value.slice a D.cache.length cap).ownBlock=some g->¬g=p:=fun g hg pn=>by
        obtain⟨xs,fz',hx⟩:=Oe h4.cache hg;obtain⟨fz,hb,-⟩:=h4.KN;rw[pn,hb] at hx;cases hx
       have na:=aj.KN h4.KN (fun hg=>kE p hg rfl);refine qV (L6 rfl) (qV (KT To rfl) (L0 rfl (Mt z2H rfl rfl Ci na (by simp)) ?_));rintro w6 ⟨aN,aT⟩;have dT:=h.KN.lt
       have h6:N7 w6 p m kp v' (D.push n s):=by
        refine⟨aN,?_,?_,?_,?_⟩
        ·obtain⟨kv,mY,mj⟩:=h4.map;exact⟨kv,aT.map (aj.map mY fun hg=>(h4.zcs hg).2.1 rfl) fun e=>h4.pm e.symm,mj⟩
        ·have e:wrs (D.push n s).cache=wrs D.cache++[I n,S s]:=by simp[Dev.push,wrs,wr]
         have e2:(D.push n s).cache.length=D.cache.length+1:=by simp[Dev.push]
         rw[e,e2];refine gd.kp aT fun g hg=>?_;rcases qo g hg with h'|h'
         ·exact(h4.zcs h').1
         ·have:=aB.size;omega
        ·refine(h4.Nz.kp aj fun g hg hc=>(h4.zbp hg).2.2 hc).kp aT fun g hg=>(h4.zbp hg).1
        ·refine⟨h.ok.hB,h.ok.hN,h.ok.due,h.ok.sf,fun x hx=>?_,h.ok.len,h.ok.reads⟩;simp only[Dev.push,List.mem_append,List.mem_singleton] at hx;rcases hx with hx|rfl
         ·exact h.ok.cache x hx
         ·exact⟨hn.1,hn.2,gm⟩
       refine py (Ll.qb (e:=[(0,_),(6,_)]) ?_);refine run_seq (qN rfl (An rfl (La [.tmp 36] zbw rfl (ZP h6 ff) ?_)));rintro _ w7 ⟨rfl,h7,aA⟩
       have hu:Upd (fpD p m kp (.slice a D.cache.length cap)) (fpD p m kp v') w3 w7:=by
        refine⟨(aB.kp.trans (aj.L2 fun i hi=> .inr (.inr (.inl hi)))).trans ((aT.L2 fun i hi=> .inl hi).trans (aA.L2 fun i hi=> .inl hi)),fun i hi=>?_⟩;rcases hi with h'|h'|h'|h'
        ·exact .inl (.inl h')
        ·exact .inl (.inr (.inl h'))
        ·rcases qo i h' with Fj|Fj
         ·exact .inl (.inr (.inr (.inl Fj)))
         ·have:=aB.size;exact .inr (by omega)
        ·exact .inl (.inr (.inr (.inr h')))
       refine py (KZ rfl (fun po=>?_) (fun po=>?_))
       ·have CG:=h7.KN;refine qN rfl (An rfl (An rfl (qV (L6 rfl) (qV (KT S0 rfl) (qV (KT z7y rfl) (qV (Lj zdZ rfl z65 rfl (KY.cells (n:=3) CG (news:=[_,_,_]) rfl) rfl) (La [.tmp 38,.tmp 43] za6 rfl (z66 h7 D.Nz D.z77 D.mask hk (h7.Nz.rd) (by show(D.cache++[(n,s)]).length<2000000000000;simp;omega)) ?_)))))));rintro _ w8 ⟨rfl,h8,bh⟩;refine qM rfl (KO rfl (py (KP Tryz.func162 rfl ?_)))
        have e:D.write n s=(((D.push n s).count).z8k,8):=by
         have ni:D.due=1:=po;simp[Dev.write,hd,hh,gm,ni]
        rw[e];exact⟨_,rfl,rfl,_,_,h8,hu.trans (z5e bh)⟩
       ·refine It (qN rfl (KO rfl (py (KP Tryz.func162 rfl ?_))))
        have e:D.write n s=((D.push n s).count,0):=by
         have ni:¬D.due=1:=po;simp[Dev.write,hd,hh,gm,ni]
        rw[e];exact⟨_,rfl,rfl,_,_,h7,hu⟩
end
section
variable {w:World}{p m:Nat}{kp ca:Value}{D:Dev}
def Dev.z2A (D:Dev)(n:Nat):List Bytes:=(List.range n).map fun j:Nat=>D.now (j:Int)
@[simp] theorem imageTo_length (D:Dev) (n:Nat):(D.z2A n).length=n:=by simp[Dev.z2A]
theorem z64 {w:World}{v:Value}{e size n:Nat}{cs:List Value}(h:Sl w v e size n cs):oneV v=true:=by
 rcases h.shape with⟨rfl,-⟩|⟨g,cap,rfl,-⟩<;>rfl
end
def Ug (b n:Int):Prop:=16<=b/\b<=4096/\1<=n/\n<=8
instance (b n:Int):Decidable (Ug b n):=by unfold Ug;infer_instance
def Dev.fresh (B N:Nat):Dev:=⟨0,[],0,0,B,N,fun _=>none,[],false,0,0⟩
theorem z3y (b n:Int)(w:World):Lk Tryz.prog 40 [.agg #[I b,I n]] w fun v w'=>v=I (if Ug b n then 0 else 1)/\Ext w w':=by
 refine KJ (e:=[(0,_)]) Tryz.func40 rfl Tryz.ntmps40 rfl rfl (qN rfl (KU rfl rfl (MH rfl rfl) ?_))
 rintro _ w1 ⟨b1,rfl,bS,ad,ai⟩
 by_cases hg:Ug b n
 ·obtain⟨g1,g2,g3,g4⟩:=hg;refine KO rfl (py (run_seq (qN rfl (qV (KT TZ rfl) (qV (KS U3 rfl rfl ai rfl) (qV (LX rfl rfl) (Ly (An rfl (qV (KT TZ rfl) (qV (KS U3 rfl rfl ai rfl) (qV (LU rfl rfl) (Ly (qV (Ls rfl rfl) ?_)))))))))))));refine An rfl (qV (KT TS rfl) (qV (KS U3 rfl rfl ai rfl) (qV (LX rfl rfl) (Ly (qV (Ls rfl rfl) (An rfl (qV (KT TS rfl) (qV (KS U3 rfl rfl ai rfl) (qV (LU rfl rfl) (Ly (qV (Ls rfl rfl) (py (KH rfl ?_)))))))))))));refine It (qN rfl (KO rfl (py (KP Tryz.func40 rfl ?_))));exact⟨_,rfl,by rw[if_pos ⟨g1,g2,g3,g4⟩];rfl,ad⟩
 ·refine KO rfl (py (run_seq (qN rfl (qV (KT TZ rfl) (qV (KS U3 rfl rfl ai rfl) (qV (LX rfl rfl) (ND (fun h1=>?_) (fun h1=>?_))))))))
  ·refine An rfl (qS (qS (qS (qV (LR rfl rfl) (An rfl (qS (qS (qS (qV (LR rfl rfl) (An rfl (qS (qS (qS ?_)))))))))))));refine qV (LR rfl rfl) (py (L3 rfl (qN rfl (KO rfl (py (KP Tryz.func40 rfl ?_))))));exact⟨_,rfl,by rw[if_neg hg];rfl,ad⟩
  ·refine An rfl (qV (KT TZ rfl) (qV (KS U3 rfl rfl ai rfl) (qV (LU rfl rfl) (qV (Ls rfl rfl) (ND (fun h2=>?_) (fun h2=>?_))))))
   ·refine An rfl (qS (qS (qS (qV (LR rfl rfl) (An rfl (qS (qS (qS (qV (LR rfl rfl) (py (L3 rfl (qN rfl (KO rfl ?_)))))))))))));refine py (KP Tryz.func40 rfl ?_);exact⟨_,rfl,by rw[if_neg hg];rfl,ad⟩
   ·refine An rfl (qV (KT TS rfl) (qV (KS U3 rfl rfl ai rfl) (qV (LX rfl rfl) (qV (Ls rfl rfl) (ND (fun h3=>?_) (fun h3=>?_))))))
    ·refine An rfl (qS (qS (qS (qV (LR rfl rfl) (py (L3 rfl (qN rfl (KO rfl (py (KP Tryz.func40 rfl ?_))))))))));exact⟨_,rfl,by rw[if_neg hg];rfl,ad⟩
    ·have:8<n:=by unfold Ug at hg;omega
     refine An rfl (qV (KT TS rfl) (qV (KS U3 rfl rfl ai rfl) (qV (LU rfl rfl) (MR (qV (Ls rfl rfl) (py (L3 rfl (qN rfl (KO rfl (py (KP Tryz.func40 rfl ?_)))))))))));exact⟨_,rfl,by rw[if_neg hg];rfl,ad⟩
theorem z8V (B N:Nat)(w:World)(hg:Ug B N):Lk Tryz.prog 21 [.agg #[I (B:Int),I (N:Int)]] w fun v w'=>∃p m,v= .tuple #[ptr p 0,I 0]/\N7 w' p m (.slice none 0 0) (.slice none 0 0) (Dev.fresh B N)/\Ext w w'/\w.heap.size<=p/\w.heap.size<=m:=by
 obtain⟨g1,g2,g3,g4⟩:=hg
 refine KJ (e:=[(0,_)]) Tryz.func21 rfl Tryz.ntmps21 rfl rfl (qN rfl (KU rfl rfl (MH rfl rfl) ?_))
 rintro _ w1 ⟨b1,rfl,bS,ad,ai⟩
 refine KO rfl (KO rfl (py (run_seq (qN rfl (qV (Lj U69 rfl z6i rfl (KY.cells (n:=2) ai (news:=[_,_]) rfl) rfl) (La [.tmp 5] zdA rfl (z3y B N _) ?_))))))
 rintro _ w2 ⟨rfl,af⟩
 rw[if_pos ⟨g1,g2,g3,g4⟩]
 replace ai:=af.KN ai
 refine KO rfl (qM rfl (An rfl (qV (M0 rfl rfl) (py (KZ rfl (fun hz=>?_) (fun hz=>?_))))))
 ·exact absurd hz (by decide)
 ·refine It (qN rfl (qV (Lj U69 rfl z6i rfl (KY.cells (n:=2) ai (news:=[_,_]) rfl) rfl) (KU rfl rfl (pmm) ?_)));rintro _ w3 ⟨m,rfl,hm,ah,CE⟩;refine qV (NA (parts:=[(1,.tmp 10),(2,.tmp 11)]) (cs:=[_,_,_,_,_,_,_,_,_,_,_]) zc8 rfl zc4 rfl rfl) (KU rfl rfl (MH rfl rfl) ?_);rintro _ w4 ⟨p,rfl,hp,aB,aJ⟩;refine KO rfl (KO rfl (py (KP Tryz.func21 rfl ?_)));have dC:=ad.size;have cP:=af.size;have o2:=ah.size;have Im:S3 KI w4 m []:=⟨⟨#[],0,aB.heap CE id,rfl⟩,by simp⟩;refine⟨_,rfl,p,m,rfl,⟨aJ,⟨[],Im,fun n=>rfl⟩,Sl.nil w4 _ _,Sl.nil w4 _ _,?_⟩,((ad.trans af).trans ah).trans aB,by omega,by omega⟩;exact⟨⟨by show 16<=B;omega,by show B<=4096;omega⟩,⟨by show 1<=N;omega,by show N<=8;omega⟩,(by simp[Dev.fresh]),(fun n s h=>by cases h),(fun x hx=>by cases hx),(by simp[Dev.fresh]),(by simp[Dev.fresh])⟩
def over (s:Bytes)(at':Nat)(d:Bytes):Bytes:=s.take at'++d++s.drop (at'+d.length)
def Dev.z8p (D:Dev)(n at':Int)(d:Bytes):Prop:=D.has n=true/\0<=at'/\at'+(d.length:Int)<=((512*D.N:Nat):Int)
instance (D:Dev) (n at':Int) (d:Bytes):Decidable (D.z8p n at' d):=by unfold Dev.z8p;infer_instance
def zdF (n:Int)(a:Nat)(d:Bytes)(x:Int×Bytes):Int×Bytes:=if x.1=n then(x.1,over x.2 a d) else x
def z7V (n:Int)(a:Nat)(d:Bytes)(l:List (Int×Bytes))(i:Nat):List (Int×Bytes):=(l.take i).map (zdF n a d)++l.drop i
@[simp] theorem corTo_length (n:Int) (a:Nat) (d:Bytes) (l:List (Int×Bytes)) (i:Nat):(z7V n a d l i).length=l.length:=by simp[z7V];omega
theorem z0R (l:List (Int×Bytes))(x:Int×Bytes)(n:Int):Rl (l++[x]) n=if x.1=n then some x.2 else Rl l n:=by
 unfold Rl
 rw[List.reverse_append,List.reverse_singleton,List.singleton_append,List.find?_cons]
 by_cases h:x.1=n
 ·simp[h]
 ·have hb:(x.1==n)=false:=by simpa using h
  simp[hb,h]
/-! ### Bounds -/
def Dev.Small (D:Dev)(k:Nat):Prop:=D.calls<=k/\D.cache.length<=k/\True/\D.Nz.length<=17592186044416
theorem Dev.Small.bd {D:Dev}{k:Nat}(h:D.Small k)(hk:k<1000000000000):D.Bd:=⟨by have:=h.1;omega,by have:=h.2.1;omega,trivial⟩
/-! ### By footprints -/
def z4g (w:World)(p:Nat)(F:Nat->Prop)(D':Dev)(w':World):Prop:=∃F',R0 w' p D' F'/\Upd F F' w w'
theorem VI.toA {w w':World}{p m:Nat}{kp ca:Value}{D':Dev}{F:Nat->Prop}(hF:∀k,F k↔fpD p m kp ca k)(h:VI w p m kp ca D' w'):z4g w p F D' w':=by
 have e:F=fpD p m kp ca:=funext fun k=>propext (hF k)
 subst e
 obtain⟨kp',ca',h1,h2⟩:=h
 exact⟨_,⟨m,kp',ca',h1,fun k=>Iff.rfl⟩,h2⟩
section
variable {w:World}{p:Nat}{D:Dev}{F:Nat->Prop}
theorem z3T (h:R0 w p D F):Lk Tryz.prog 123 [ptr p 0] w fun v w'=>v= .bool D.down/\w'=w:=by
 obtain⟨m,kp,ca,h1,hF⟩:=h;exact z4T h1
theorem z3C (h:R0 w p D F):Lk Tryz.prog 71 [ptr p 0] w fun v w'=>v=I ((512*D.N:Nat):Int)/\w'=w:=by
 obtain⟨m,kp,ca,h1,hF⟩:=h;exact Vl h1
theorem Rr (h:R0 w p D F):Lk Tryz.prog 110 [ptr p 0] w fun v w'=>v=I (D.B:Int)/\w'=w:=by
 obtain⟨m,kp,ca,h1,hF⟩:=h;exact z1r h1
theorem z09 (n:Int)(s:Bytes)(h:R0 w p D F){k:Nat}(hs:D.Small k)(hk:k<1000000000000):
  Lk Tryz.prog 162 [ptr p 0,I n,S s] w fun v w'=>v=I (D.write n s).2/\z4g w p F (D.write n s).1 w':=by
 obtain⟨m,kp,ca,h1,hF⟩:=h
 exact(z2S n s h1 (hs.bd hk) hs.2.2.2).mono fun v w' ⟨e,h2⟩=>⟨e,h2.toA hF⟩
theorem z3l (n:Int)(h:R0 w p D F){k:Nat}(hs:D.Small k)(hk:k<1000000000000):
  Lk Tryz.prog 127 [ptr p 0,I n] w fun v w'=>v= .tuple #[S (D.read n).2.1,I (D.read n).2.2]/\z4g w p F (D.read n).1 w':=by
 obtain⟨m,kp,ca,h1,hF⟩:=h
 exact(z4B n h1 (hs.bd hk)).mono fun v w' ⟨e,h2⟩=>⟨e,h2.toA hF⟩
theorem z7M (B N:Nat)(w:World)(hg:Ug B N):Lk Tryz.prog 21 [.agg #[I (B:Int),I (N:Int)]] w fun v w'=>∃p F,v= .tuple #[ptr p 0,I 0]/\R0 w' p (Dev.fresh B N) F/\Ext w w'/\∀i,F i->w.heap.size<=i:=
 (z8V B N w hg).mono fun v w' ⟨p,m,e,h,hx,h1,h2⟩=>⟨p,_,e,⟨m,_,_,h,fun k=>Iff.rfl⟩,hx,fun i hi=>by
  rcases hi with h|h|h| h
  ·omega
  ·omega
  ·cases h
  ·cases h⟩
end
theorem z4g.kpF {w w':World}{p:Nat}{F:Nat->Prop}{D':Dev}(h:z4g w p F D' w'):Kp F w w':=by
 obtain⟨F',-,hu⟩:=h
 exact hu.1
def nrm (z b:Int):Int:=(z.tmod b+b).tmod b
theorem PG (z b:Int)(hb:0<b): -b<z.tmod b/\z.tmod b<b:=by
 have h2:=Int.tmod_lt_of_pos z hb
 refine⟨?_,h2⟩
 have h3:=Int.tmod_lt_of_pos (-z) hb
 rw[Int.neg_tmod] at h3
 omega
theorem RD (z b:Int)(hb:0<b):0<=nrm z b/\nrm z b<b:=by
 obtain⟨h1,h2⟩:=PG z b hb
 unfold nrm
 exact⟨Int.tmod_nonneg _ (by omega),Int.tmod_lt_of_pos _ hb⟩
theorem z5O {D:Dev}{n:Int}{s:Bytes}(hd:D.down=false)(h0:D.due=0)(hn:0<=n/\n<(D.B:Int))(hs:s.length=512*D.N):D.write n s=((D.push n s).count,0):=by
 have hh:D.has n=true:=by simp[Dev.has];omega
 unfold Dev.write
 rw[if_neg (by simp[hd]),if_neg (by simp[hh,hs]),if_neg (by omega)]
def grow:Nat->Bytes->Nat->Bytes
 |0,s,_=>s
 |f+1,s,n=>if s.length<n then grow f (s++s) n else s
def fill (s:Bytes)(n:Nat):Bytes:=(grow (n+1) (if s=[] then [0] else s) n).take n
section
variable {κ:Type}[DecidableEq κ]{K:κ->Value}{P:Program}{e:Env}{d:Option Nat}{ty t kt el:TypeId}{pos:String}{aft:Array Edge}{g:Option (Nat×Bool)}{x y u:Operand}{w:World}{m:Nat}{z:Value}{size bytes:Nat}{k:κ}
theorem zdG (ht:P.underlying t=some (.map kt el))(hK:Ky P kt K)(hz:TI P el z size bytes)(hx:look e x=some (.map none))(hy:look e y=some (K k)):
  Y P e ⟨d,.lookup t x y false,ty,pos,aft,g⟩ z w w:=fun ρ hρ=>by
 have yO:=hz.zero (w:=w)
 have qC:=fun b=>hK.same.choose_spec.2.2 w b 9999 k
 have hu:=hK.same.choose_spec.1
 simp[execOp,hρ _ _ hx,hρ _ _ hy,Instr.lookup,run_underlying ht,qC,yO,Instr.findKey,run_underlying hu,Instr.findNow]
end
structure QM (w:World)(ks mp:Value)(l:List Int):Prop where
 sl:Sl w ks 3 1 l.length (l.map I)
 mp:(mp= .map none/\l=[])\/∃b,mp= .map (some b)/\NJ KI w b (l.map fun k=>(k,I 1))
 n:l.length<=8192
def Fq (ks mp:Value)(b:Nat):Prop:=ks.ownBlock=some b\/mp= .map (some b)
section
variable {w w':World}{ks mp:Value}{l:List Int}{S:Nat->Prop}{c o:Nat}{cs:List Value}{k:Int}
theorem QM.kp (h:QM w ks mp l)(hk:Kp S w w')(hn:∀b,Fq ks mp b->¬S b):QM w' ks mp l:=
 ⟨h.sl.kp hk fun g e=>hn g (.inl e),by
  rcases h.mp with e|⟨b,e,hm⟩
  ·exact .inl e
  ·exact .inr ⟨b,e,hm.kp hk (hn b (.inr e))⟩,h.n⟩
theorem QM.lt (h:QM w ks mp l){b:Nat}(hb:Fq ks mp b):b<w.heap.size:=by
 rcases hb with e| e
 ·exact h.sl.lt e
 ·rcases h.mp with⟨e',-⟩|⟨b',e',hm⟩
  ·rw[e'] at e;cases e
  ·rw[e'] at e;cases e;exact hm.lt
theorem QM.ne (h:QM w ks mp l){b:Nat}(hb:ks.ownBlock=some b):mp≠ .map (some b):=fun e=>by
 obtain⟨cur,h1⟩:=h.sl.typed hb
 rcases h.mp with⟨e',-⟩|⟨b',e',hm⟩
 ·rw[e'] at e;cases e
 ·rw[e'] at e;cases e;obtain⟨⟨es,cl,h2,-⟩,-⟩:=hm;rw[h1] at h2;cases h2
theorem QM.nd (h:QM w ks mp l):l.Nodup:=by
 rcases h.mp with⟨-,e⟩|⟨b',e',hm⟩
 ·rw[e];exact List.nodup_nil
 ·have:=hm.nd;rw[List.map_map] at this;have e:((fun p:Int×Value=>p.1) ∘ fun k:Int=>(k,I 1))=id:=rfl;rw[e,List.map_id] at this;exact this
theorem YV (l:List Int)(k:Int):getL (l.map fun k=>(k,I 1)) k=if k∈l then some (I 1) else none:=by
 induction l with
 |nil=>rfl
 | cons a l ih =>
   show(if k=a then some (I 1) else getL (l.map fun k=>(k,I 1)) k)=_;rw[ih];by_cases h:k=a
   ·simp[h]
   ·simp[h]
theorem z4P (l:List Int)(k:Int):delL (l.map fun k=>(k,I 1)) k=(l.erase k).map fun k=>(k,I 1):=by
 induction l with
 |nil=>rfl
 | cons a l ih =>
   show(if k=a then l.map (fun k=>(k,I 1)) else(a,I 1)::delL (l.map fun k=>(k,I 1)) k)=_;rw[ih,List.erase_cons];by_cases h:k=a
   ·subst h;simp
   ·rw[if_neg h,if_neg (by simpa using fun e=>h e.symm)];rfl
theorem yqk {P:Program}{e:Env}{d:Option Nat}{ty t kt el:TypeId}{pos:String}{aft:Array Edge}{g:Option (Nat×Bool)}{x y:Operand}{bytes:Nat}(ht:P.underlying t=some (.map kt el))(hK:P.underlying kt=some (.int .i64))(hz:TI P el (I 0) 1 bytes)(hx:look e x=some mp)(hy:look e y=some (I k))(hq:QM w ks mp l):
  Y P e ⟨d,.lookup t x y false,ty,pos,aft,g⟩ (I (if k∈l then 1 else 0)) w w:=by
 rcases hq.mp with⟨rfl,rfl⟩|⟨b,rfl,hm⟩
 ·rw[if_neg (by simp)];exact zdG (k:=k) (K:=KI) ht (Ng hK) hz hx hy
 ·have h:=ylk (k:=k) (K:=KI) (d:=d) (ty:=ty) (pos:=pos) (aft:=aft) (g:=g) ht (Ng hK) hz hx hy hm.l;rw[YV] at h;by_cases hk:k∈l
  ·rw[if_pos hk] at h⊢;exact h
  ·rw[if_neg hk] at h⊢;exact h
theorem z5h (hB:KY w c cs 167)(h1:cs[o+1]? =some mp)(hq:QM w ks mp l):Lk Tryz.prog 152 [ptr c o,I k] w fun v w'=>v= .bool (decide (k∈l))/\w'=w:=by
 refine KJ (e:=[(0,_),(1,_)]) Tryz.func152 rfl Tryz.ntmps152 rfl rfl (qN rfl (KO rfl (qM rfl (An rfl (qV (L6 rfl) (qV (KT SQ rfl) (qV (KS S2 rfl rfl hB h1) (An rfl (qV (yqk (k:=k) S2 U3 LG rfl rfl hq) (qV (LU rfl rfl) (KO rfl (py (KP Tryz.func152 rfl ?_)))))))))))))
 refine⟨_,rfl,?_,rfl⟩
 by_cases hk:k∈l
 ·simp[hk,resVal]
 ·simp[hk,resVal]
theorem z1c {lv:Value}(x:Int)(hR:Rd w lv 1 l.length (l.map I))(hl:l.length<=4294967296):
  Lk Tryz.prog 182 [lv,I x] w fun v w'=>w'=w/\((x∉l/\v=I (-1))\/∃i:Nat,v=I (i:Int)/\l[i]? =some x/\x∉l.take i):=by
 obtain⟨a,cap,rfl,-⟩:=hR.shape
 refine KJ (e:=[(0,_),(1,_)]) Tryz.func182 rfl Tryz.ntmps182 rfl rfl (qN rfl (KO rfl (py (run_seq (qN rfl (An rfl (qV (LM Mw rfl) (An rfl (py (KL (MV (α:=Nat) (0) (fun i=>[(0,.slice a l.length cap),(1,I x),(7,I (l.length:Int)),(8,I (i:Int))]) (fun i w'=>w'=w/\i<=l.length/\x∉l.take i) (fun i=>l.length-i) ?hI ?hround)))))))))))
 case hI=>exact⟨rfl,Nat.zero_le _,by simp⟩
 case hround=>
  rintro i wi ⟨rfl,hi,fO⟩ ih
  try dsimp only
  refine qN rfl (qV (LX rfl rfl) (py (run_seq (KZ rfl (fun aO=>?_) (fun aO=>?_)))))
  ·have sF:i<l.length:=by omega
   obtain⟨s,pq⟩:∃s,l[i]? =some s:=⟨_,List.getElem?_eq_getElem sF⟩
   obtain⟨lb,lo,lc,e5⟩:∃b o c',Value.slice a l.length cap= .slice (some ⟨b,o,none⟩) l.length c':=by
    rcases hR.2 with⟨c,hc,h0⟩|⟨b,off,c',hc,-⟩
    ·omega
    ·exact⟨b,off,c',hc⟩
   cases e5;refine It (run_seq (KL (qN rfl (An rfl (KO rfl (qM rfl (An rfl (An rfl (An rfl (qV (LC Mw LG rfl rfl (by omega)) (qV (Lm U3 rfl rfl (LV hR (show(l.map I)[i]? =some (I s) by rw[List.getElem?_map,pq];rfl))) ?_)))))))))));refine qV (Mr rfl rfl) (py (KZ rfl (fun he=>?_) (fun he=>?_)))
   ·refine qN rfl (An rfl (KO rfl (py (KP Tryz.func182 rfl ?_))));exact⟨_,rfl,rfl,.inr ⟨i,rfl,by rw[he];exact pq,fO⟩⟩
   ·refine It (KM (KQ rfl (LH rfl rfl (An rfl (py ((ih (i+1) _ ⟨rfl,sF,fun hh=>?_⟩ (by omega)).qb))))));rw[LA pq,List.mem_append,List.mem_singleton] at hh;rcases hh with h| h
    ·exact fO h
    ·exact he h
  ·have:i=l.length:=by omega
   subst this;rw[List.take_length] at fO;refine KX rfl (qN rfl (KO rfl (py (KP Tryz.func182 rfl ?_))));exact⟨_,rfl,rfl,.inl ⟨fO,rfl⟩⟩
theorem z6m {i:Nat}{x:Int}(h:l[i]? =some x)(hn:x∉l.take i):l.take i++l.drop (i+1)=l.erase x:=by
 obtain⟨hi,e⟩:=List.getElem?_eq_some_iff.1 h
 conv=>rhs;rw[<-List.take_append_drop i l]
 rw[List.erase_append_right _ hn,List.drop_eq_getElem_cons hi,e,List.erase_cons_head]
theorem Yt {α:Type}{l:List α}{i:Nat}{a:α}(h:l[i]? =some a):l.set i a=l:=by
 obtain⟨hi,e⟩:=List.getElem?_eq_some_iff.1 h
 rw[<-e,List.set_getElem_self]
theorem z4l (hB:KY w c cs 167)(h0:cs[o]? =some ks)(h1:cs[o+1]? =some mp)(hq:QM w ks mp l)(nc:¬Fq ks mp c):Lk Tryz.prog 153 [ptr c o,I k] w fun v w'=>∃ks',v= .tuple #[]/\KY w' c (cs.set o ks') 167/\QM w' ks' mp (l.erase k)/\(∀b,Fq ks' mp b->Fq ks mp b)/\Kp (fun b=>b=c\/Fq ks mp b) w w':=by
 have hn:=hq.n
 have fh:=hq.nd
 refine KJ (e:=[(0,_),(1,_)]) Tryz.func153 rfl Tryz.ntmps153 rfl rfl (qN rfl (An rfl (qV (L6 rfl) (qV (KT LL rfl) (qV (KS Mw rfl rfl hB h0) (An rfl (La [.tmp 8,.tmp 9] z8y rfl (z1c k hq.sl.rd (by omega)) ?_)))))))
 rintro _ w ⟨rfl,hv⟩
 rcases hv with⟨hk,rfl⟩|⟨i,rfl,hi,tQ⟩
 ·refine KO rfl (qM rfl (An rfl (qV (Ou rfl rfl) (Ly (py (KH rfl (It (M8 Tryz.func153 rfl (⟨_,rfl,ks,rfl,?_,?_,fun b hb=>hb,Kp.refl _ _⟩)))))))))
  ·rw[Yt h0];exact hB
  ·rw[List.erase_of_not_mem hk];exact hq
 ·have CH:k∈l:=List.mem_of_getElem? hi;have cO:=(List.getElem?_eq_some_iff.1 hi).1;refine KO rfl (qM rfl (An rfl (qV (Ou rfl rfl) (MR (py (L3 rfl (qN rfl (An rfl (An rfl (qV (L6 rfl) (qV (KT LL rfl) (qV (KS Mw rfl rfl hB h0) (An rfl ?_)))))))))))));refine An rfl (LH rfl rfl (La [.tmp 17,.tmp 18,.tmp 20] zav rfl (z6s hq.sl (fun c hc=>by obtain⟨z,-,rfl⟩:=List.mem_map.1 hc;rfl) cO (by omega)) ?_));rintro ks2 w2 ⟨cL,am,tT⟩
  have e2:(l.map I).take i++(l.map I).drop (i+1)=(l.erase k).map I:=by
   rw[<-List.map_take,<-List.map_drop,<-List.map_append,z6m hi tQ]
  rw[e2] at cL;have jn:(l.erase k).length=l.length-1:=List.length_erase_of_mem CH;rw[<-jn] at cL;have iY:¬ks.ownBlock=some c:=fun e=>nc (.inl e);have ak:=am.KN hB iY;refine qV (L6 rfl) (qV (KT LL rfl) (L0 rfl (Mt z0H rfl rfl (z64 cL) ak (by have:=(List.getElem?_eq_some_iff.1 h0).1;omega)) ?_));rintro w3 ⟨ao,au⟩
  obtain⟨b,rfl,hm⟩:∃b,mp= .map (some b)/\NJ KI w b (l.map fun k=>(k,I 1)):=by
   rcases hq.mp with⟨-,e⟩| h
   ·rw[e] at CH;cases CH
   ·exact h
  have Fk:c≠b:=fun e=>nc (.inr (by rw[e]));have yF:ks.ownBlock≠some b:=fun e=>hq.ne e rfl;have xl:o+1<cs.length:=(List.getElem?_eq_some_iff.1 h1).1;have kw:=(hm.kp am yF).kp au (fun e=>Fk e.symm);have Ct:(cs.set (o+0) ks2)[o+1]? =some (Value.map (some b)):=by rw[List.getElem?_set_ne (by omega)];exact h1
  refine py (KQ rfl (An rfl (qV (L6 rfl) (qV (KT SQ rfl) (qV (KS S2 rfl rfl ao Ct) (An rfl (z6p rfl (z9C (k:=k) (K:=KI) S2 (Ng U3) rfl rfl kw rfl) ?_)))))));rintro _ w4 ⟨je,aw⟩;rw[z4P] at je;refine py (Ll.qb (e:=[]) ?_);refine M8 Tryz.func153 rfl ?_;have jM:Kp (fun j=>j=c\/Fq ks (.map (some b)) j) w w4:=((am.L2 fun j e=> .inr (.inl e)).trans (au.L2 fun j e=> .inl e)).trans (aw.L2 fun j e=> .inr (.inr (by rw[e])));exact⟨_,rfl,ks2,rfl,aw.KN ao Fk,⟨(cL.kp au fun g e e'=>nc (.inl (e'▸tT g e))).kp aw fun g e e'=>yF (e'▸tT g e),.inr ⟨b,rfl,je⟩,by omega⟩,fun j hj=>hj.imp (tT j) id,jM⟩
theorem z5B (hB:KY w c cs 167)(h0:cs[o]? =some ks)(h1:cs[o+1]? =some mp)(hq:QM w ks mp l)(nc:¬Fq ks mp c)(hk:k∉l)(hl:l.length<=8191):Lk Tryz.prog 157 [ptr c o,I k] w fun v w'=>∃ks' mp',v= .tuple #[]/\KY w' c ((cs.set (o+1) mp').set o ks') 167/\QM w' ks' mp' (l++[k])/\(∀b,Fq ks' mp' b->Fq ks mp b\/w.heap.size<=b)/\Kp (fun b=>b=c\/Fq ks mp b) w w':=by
 have hn:=hq.n
 have fh:=hq.nd
 have lc:=hB.lt
 have xl:o+1<cs.length:=(List.getElem?_eq_some_iff.1 h1).1
 obtain⟨mo,rfl,In⟩:∃mo,mp= .map mo/\((mo=none/\l=[])\/∃b,mo=some b/\NJ KI w b (l.map fun k=>(k,I 1))):=by
  rcases hq.mp with⟨e,e2⟩|⟨b,e,e2⟩
  ·exact⟨_,e,.inl ⟨rfl,e2⟩⟩
  ·exact⟨_,e,.inr ⟨b,rfl,e2⟩⟩
 refine KJ (e:=[(0,_),(1,_)]) Tryz.func157 rfl Tryz.ntmps157 rfl rfl (run_seq (qN rfl (An rfl (qV (L6 rfl) (qV (KT SQ rfl) (qV (KS S2 rfl rfl hB h1) (qV (za4 S2 rfl rfl) (py (Lx (fun e' w'=>∃b,e'=[(0,ptr c o),(1,I k)]/\KY w' c (cs.set (o+1) (.map (some b))) 167/\NJ KI w' b (l.map fun k=>(k,I 1))/\Sl w' ks 3 1 l.length (l.map I)/\(mo=some b\/w.heap.size<=b)/\Kp (fun j=>j=c) w w'/\b≠c/\ks.ownBlock≠some b) ?cq (fun cq=>?cJ))))))))))
 case cq=>
  rintro e' w1 ⟨b,rfl,ai,dw,jc,hb,aM,Fl,fX⟩;have m8:(cs.set (o+1) (Value.map (some b)))[o+1]? =some (.map (some b)):=List.getElem?_set_self xl;have fj:(cs.set (o+1) (Value.map (some b)))[o]? =some ks:=by rw[List.getElem?_set_ne (by omega)];exact h0
  have z1:=aM.size;refine qN rfl (An rfl (qV (L6 rfl) (qV (KT SQ rfl) (qV (KS S2 rfl rfl ai m8) (An rfl (L0 rfl (z8S (k:=k) (K:=KI) S2 (Ng U3) rfl rfl rfl dw) ?_))))));rintro w2 ⟨lS,am⟩;rw[PJ _ _ _ (by rw[YV,if_neg hk])] at lS;have ak:=am.KN ai (fun e=>Fl e.symm);have cL:=jc.kp am (fun g e e'=>fX (e'▸e));refine py (KQ rfl (An rfl (An rfl (qV (L6 rfl) (qV (KT LL rfl) (qV (KS Mw rfl rfl ak fj) (An rfl (KU rfl rfl (Tx (parts:=[(0,.tmp 23)]) (cs:=[_]) (zs:=[Value.int .i64 0]) Mw LG rfl (by kernel_rfl) rfl rfl rfl (by decide)) ?_))))))));rintro _ w3 ⟨b24,rfl,⟨Io,ah,e8⟩,CI⟩;have lb:=lS.lt;have z2:=am.size;refine KU rfl rfl (pap Mw LG rfl (by decide) rfl rfl (cL.ext ah) CI.rd (by intro c hc;simp at hc;subst hc;rfl) (by omega) (by simp only[maxLen];omega)) ?_;rintro ks4 w4 ⟨dU,aw,Fn,-⟩;have z3:=ah.size;have z4:=aw.size;have iY:ks.ownBlock≠some c:=fun e=>nc (.inl e);have aJ:=aw.KN (ah.KN ak) iY;have je:=(lS.ext ah).kp aw fX;refine qV (L6 rfl) (qV (KT LL rfl) (L0 rfl (Mt z0H rfl rfl (z64 dU) aJ (by rw[List.length_set];omega)) ?_));rintro w5 ⟨aF,aj⟩;refine py (M8 Tryz.func157 rfl ?_)
  have lk4:∀g,ks4.ownBlock=some g->g≠c:=fun g e e'=>by
   rcases Fn g e with h| h
   ·exact iY (e'▸h)
   ·omega
  have aD:(l++[k]).length=l.length+1:=by simp
  refine⟨_,rfl,ks4,.map (some b),rfl,aF,⟨?_,.inr ⟨b,rfl,?_⟩,by omega⟩,fun j hj=>?_,?_⟩
  ·rw[List.map_append,aD];exact dU.kp aj fun g e e'=>lk4 g e e'
  ·rw[List.map_append];exact je.kp aj Fl
  ·rcases hj with hj|hj
   ·rcases Fn j hj with h| h
    ·exact .inl (.inl h)
    ·exact .inr (by omega)
   ·cases hj;rcases hb with h| h
    ·exact .inl (.inr (by rw[h]))
    ·exact .inr h
  ·have CJ:Kp (fun j=>j=c\/Fq ks (.map mo) j) w w2:=by
    rcases hb with h| h
    ·exact(aM.L2 fun j e=> .inl e).trans (am.L2 fun j e=> .inr (.inr (by rw[h,e])))
    ·exact(aM.L2 fun j e=> .inl e).KK am (fun j e=>by omega)
   exact((CJ.trans ah.kp).trans (aw.L2 fun j e=> .inr (.inl e))).trans (aj.L2 fun j e=> .inl e)
 case cJ=>
  rcases In with⟨rfl,rfl⟩|⟨b,rfl,hm⟩
  ·refine L3 rfl (KQ rfl (An rfl (KU rfl rfl (pmm) ?_)));rintro _ w1 ⟨b,rfl,hb,ad,cy⟩;have dw:NJ KI w1 b []:=NJ.new cy;have ai:=ad.KN hB;refine qV (L6 rfl) (qV (KT SQ rfl) (L0 rfl (Mt z1J rfl rfl rfl ai xl) ?_));rintro w2 ⟨ak,am⟩;refine py ?_;have lb:=dw.lt;exact(cq _ _ ⟨b,rfl,ak,dw.kp am (by omega),(hq.sl.ext ad).kp am (fun g e e'=>nc (.inl (e'▸e))),.inr (by omega),ad.kp.trans am,by omega,fun e=>by have:=hq.sl.lt e;omega⟩).qb
  ·refine KH rfl (It ?_);exact(cq _ _ ⟨b,rfl,by rw[Yt h1];exact hB,hm,hq.sl,.inl rfl,Kp.refl _ _,fun e=>nc (.inr (by rw[e])),fun e=>hq.ne e rfl⟩).qb
end
def Arc.li (A:Arc):Nat->List Int
 |0=>A.once
 |1=>A.often
 |2=>A.L7
 |_=>A.L4
def Arc.Mg (A:Arc):Nat->List Int->Arc
 |0,l=>{A with once:=l}
 |1,l=>{A with often:=l}
 |2,l=>{A with L7:=l}
 |_,l=>{A with L4:=l}
theorem Arc.z9E (A:Arc){j:Nat}(hj:j<4)(l:List Int)(i:Nat)(hi:i<4):(A.Mg j l).li i=if i=j then l else A.li i:=by
 match j,hj,i,hi with
 |0,_,0,_|0,_,1,_|0,_,2,_|0,_,3,_|1,_,0,_|1,_,1,_|1,_,2,_|1,_,3,_|2,_,0,_|2,_,1,_|2,_,2,_|2,_,3,_|3,_,0,_|3,_,1,_|3,_,2,_|3,_,3,_=>rfl
def z2N (V:Nat->Value×Value)(j:Nat)(q:Value×Value)(i:Nat):Value×Value:=if i=j then q else V i
def acC (S:Nat)(T:Int)(V:Nat->Value×Value)(p:Nat):List Value:=[I (S:Int),(V 0).1,(V 0).2,(V 1).1,(V 1).2,(V 2).1,(V 2).2,(V 3).1,(V 3).2,I T,.map (some p)]
abbrev FV (V:Nat->Value×Value)(j b:Nat):Prop:=Fq (V j).1 (V j).2 b
structure NR (w:World)(c:Nat)(A:Arc)(V:Nat->Value×Value)(p:Nat):Prop where
 KN:KY w c (acC A.size A.target V p) 167
 q:∀j,j<4->QM w (V j).1 (V j).2 (A.li j)
 pins:S3 KI w p []
 QU:∀i j,i<4->j<4->i≠j->∀b,FV V i b->¬FV V j b
 nc:∀j,j<4->¬FV V j c
 np:∀j,j<4->¬FV V j p
 cp:c≠p
def NI (c:Nat)(V:Nat->Value×Value)(p b:Nat):Prop:=b=c\/b=p\/∃j,j<4/\FV V j b
section
variable {w w' w2:World}{c p:Nat}{A A' A2:Arc}{V V' V2:Nat->Value×Value}{S:Nat->Prop}{k:Int}
theorem NR.kp (h:NR w c A V p)(hk:Kp S w w')(hn:∀b,NI c V p b->¬S b):NR w' c A V p:=
 ⟨hk.KN h.KN (hn _ (.inl rfl)),fun j hj=>(h.q j hj).kp hk fun b hb=>hn b (.inr (.inr ⟨j,hj,hb⟩)),hk.map h.pins (hn _ (.inr (.inl rfl))),h.QU,h.nc,h.np,h.cp⟩
theorem NR.ext (h:NR w c A V p)(hx:Ext w w'):NR w' c A V p:=h.kp (S:=fun _=>False) hx fun _ _=>id
theorem NR.lt (h:NR w c A V p){b:Nat}(hb:NI c V p b):b<w.heap.size:=by
 rcases hb with e|e|⟨j,hj,hb⟩
 ·rw[e];exact h.KN.lt
 ·rw[e];exact h.pins.lt
 ·exact(h.q j hj).lt hb
structure R3 (w:World)(c:Nat)(V:Nat->Value×Value)(p:Nat)(w':World)(A':Arc)(V':Nat->Value×Value):Prop where
 m:NR w' c A' V' p
 fp:∀b,NI c V' p b->NI c V p b\/w.heap.size<=b
 k:Kp (NI c V p) w w'
theorem R3.trans (h:R3 w c V p w' A' V')(h2:R3 w' c V' p w2 A2 V2):R3 w c V p w2 A2 V2:=
 ⟨h2.m,fun b hb=>by
  rcases h2.fp b hb with e| e
  ·exact h.fp b e
  ·exact .inr (by have:=h.k.size;omega),h.k.KK h2.k fun b hb=>(h.fp b hb).symm⟩
theorem NR.r (h:NR w c A V p)(hx:Ext w w'):R3 w c V p w' A V:=⟨h.ext hx,fun b hb=> .inl hb,hx.kp⟩
theorem NR.VL {j:Nat}(hj:j<4)(h:NR w c A V p){ks mp:Value}{l:List Int}(hB:KY w' c (acC A.size A.target (z2N V j (ks,mp)) p) 167)(hs:(A.Mg j l).size=A.size/\(A.Mg j l).target=A.target)(hq:QM w' ks mp l)(hf:∀b,Fq ks mp b->FV V j b\/w.heap.size<=b)(hk:Kp (fun b=>b=c\/FV V j b) w w'):R3 w c V p w' (A.Mg j l) (z2N V j (ks,mp)):=by
 have aO:∀{b:Nat},NI c V p b->b<w.heap.size:=h.lt
 have aW:∀i,i<4->i≠j->∀b,FV V i b->¬(b=c\/FV V j b):=fun i hi gI b hb e=>by
  rcases e with e| e
  ·exact h.nc i hi (e▸hb)
  ·exact h.QU i j hi hj gI b hb e
 have dC:∀i,i≠j->z2N V j (ks,mp) i=V i:=fun i e=>if_neg e
 have cP:z2N V j (ks,mp) j=(ks,mp):=if_pos rfl
 refine⟨⟨by rw[hs.1,hs.2];exact hB,fun i hi=>?_,hk.map h.pins (fun e=>?_),fun i i2 hi di bG b hb bT=>?_,fun i hi hb=>?_,fun i hi hb=>?_,h.cp⟩,fun b hb=>?_,hk.L2 fun b hb=>?_⟩
 ·rw[Arc.z9E A hj l i hi];by_cases e:i=j
  ·rw[if_pos e,e,cP];exact hq
  ·rw[if_neg e,dC i e];exact(h.q i hi).kp hk fun b hb=>aW i hi e b hb
 ·rcases e with e| e
  ·exact h.cp e.symm
  ·exact h.np j hj e
 ·by_cases e:i=j
  ·have e2:i2≠j:=fun e2=>bG (e.trans e2.symm);unfold FV at hb bT;rw[e,cP] at hb;rw[dC i2 e2] at bT;rcases hf b hb with h1|h1
   ·exact h.QU j i2 hj di (fun e3=>e2 e3.symm) b h1 bT
   ·have:=aO (.inr (.inr ⟨i2,di,bT⟩));omega
  ·unfold FV at hb bT;rw[dC i e] at hb;by_cases e2:i2=j
   ·rw[e2,cP] at bT;rcases hf b bT with h1|h1
    ·exact h.QU i j hi hj e b hb h1
    ·have:=aO (.inr (.inr ⟨i,hi,hb⟩));omega
   ·rw[dC i2 e2] at bT;exact h.QU i i2 hi di bG b hb bT
 ·by_cases e:i=j
  ·unfold FV at hb;rw[e,cP] at hb;rcases hf c hb with h1|h1
   ·exact h.nc j hj h1
   ·have:=h.KN.lt;omega
  ·unfold FV at hb;rw[dC i e] at hb;exact h.nc i hi hb
 ·by_cases e:i=j
  ·unfold FV at hb;rw[e,cP] at hb;rcases hf p hb with h1|h1
   ·exact h.np j hj h1
   ·have:=h.pins.lt;omega
  ·unfold FV at hb;rw[dC i e] at hb;exact h.np i hi hb
 ·rcases hb with e|e|⟨i,hi,hb⟩
  ·exact .inl (.inl e)
  ·exact .inl (.inr (.inl e))
  ·by_cases e:i=j
   ·unfold FV at hb;rw[e,cP] at hb;rcases hf b hb with h1|h1
    ·exact .inl (.inr (.inr ⟨j,hj,h1⟩))
    ·exact .inr h1
   ·unfold FV at hb;rw[dC i e] at hb;exact .inl (.inr (.inr ⟨i,hi,hb⟩))
 ·rcases hb with e| e
  ·exact .inl e
  ·exact .inr (.inr ⟨j,hj,e⟩)
theorem RZ (S:Nat)(T:Int)(V:Nat->Value×Value)(p:Nat){j:Nat}(hj:j<4):(acC S T V p)[1+2*j]? =some (V j).1/\(acC S T V p)[1+2*j+1]? =some (V j).2:=by
 match j,hj with
 |0,_|1,_|2,_|3,_=>exact⟨rfl,rfl⟩
theorem z6z (S:Nat)(T:Int)(V:Nat->Value×Value)(p:Nat){j:Nat}(hj:j<4)(ks mp:Value):((acC S T V p).set (1+2*j+1) mp).set (1+2*j) ks=acC S T (z2N V j (ks,mp)) p:=by
 match j,hj with
 |0,_|1,_|2,_|3,_=>rfl
theorem z5a (S:Nat)(T:Int)(V:Nat->Value×Value)(p:Nat){j:Nat}(hj:j<4)(ks:Value):(acC S T V p).set (1+2*j) ks=acC S T (z2N V j (ks,(V j).2)) p:=by
 match j,hj with
 |0,_|1,_|2,_|3,_=>rfl
theorem US (A:Arc){j:Nat}(hj:j<4)(l:List Int):(A.Mg j l).size=A.size/\(A.Mg j l).target=A.target:=by
 match j,hj with
 |0,_|1,_|2,_|3,_=>exact⟨rfl,rfl⟩
theorem Ql (h:NR w c A V p){j:Nat}(hj:j<4):Lk Tryz.prog 152 [ptr c (1+2*j),I k] w fun v w'=>v= .bool (decide (k∈A.li j))/\w'=w:=
 z5h h.KN (RZ _ _ _ _ hj).2 (h.q j hj)
theorem LS (h:NR w c A V p){j:Nat}(hj:j<4):Lk Tryz.prog 153 [ptr c (1+2*j),I k] w fun v w'=>v= .tuple #[]/\∃V',R3 w c V p w' (A.Mg j ((A.li j).erase k)) V':=by
 refine(z4l h.KN (RZ _ _ _ _ hj).1 (RZ _ _ _ _ hj).2 (h.q j hj) (h.nc j hj) (k:=k)).mono fun v w' hv=>?_
 obtain⟨ks',rfl,hB,hq,hf,hk⟩:=hv
 rw[z5a _ _ _ _ hj] at hB
 exact⟨rfl,_,h.VL hj hB (US A hj _) hq (fun b hb=> .inl (hf b hb)) hk⟩
theorem Ml (h:NR w c A V p){j:Nat}(hj:j<4)(hk:k∉A.li j)(hl:(A.li j).length<=8191):Lk Tryz.prog 157 [ptr c (1+2*j),I k] w fun v w'=>v= .tuple #[]/\∃V',R3 w c V p w' (A.Mg j (A.li j++[k])) V':=by
 refine(z5B h.KN (RZ _ _ _ _ hj).1 (RZ _ _ _ _ hj).2 (h.q j hj) (h.nc j hj) hk hl).mono fun v w' hv=>?_
 obtain⟨ks',mp',rfl,hB,hq,hf,hk⟩:=hv
 rw[z6z _ _ _ _ hj] at hB
 exact⟨rfl,_,h.VL hj hB (US A hj _) hq hf hk⟩
def z1e (n:Nat):Arc:=⟨n,[],[],[],[],0⟩
theorem z7m {n:Nat}(h:1<=n):(z1e n).Ok:=⟨h,List.nodup_nil,Nat.zero_le _,Nat.zero_le _,Nat.zero_le _,⟨Int.le_refl _,by show(0:Int)<=(n:Int);omega⟩⟩
theorem z4I (n:Nat)(h1:1<=n)(h2:n<=4096)(w:World):Lk Tryz.prog 41 [I (n:Int)] w fun v w'=>∃c V p,v= .tuple #[ptr c 0,I 0]/\NR w' c (z1e n) V p/\(∀b,NI c V p b->w.heap.size<=b)/\Ext w w':=by
 refine KJ (e:=[(0,_)]) Tryz.func41 rfl Tryz.ntmps41 rfl rfl (qN rfl (KO rfl (KO rfl (py (run_seq (qN rfl (An rfl (qV (LX rfl rfl) (Ly (An rfl (An rfl (qV (LU rfl rfl) (Ly ?_)))))))))))))
 refine qV (Ls rfl rfl) (py (KH rfl (It (qN rfl (An rfl (KU rfl rfl (pmm) ?_))))))
 rintro _ w1 ⟨p,rfl,hp,ad,cy⟩
 refine qV (NA (parts:=[(0,.tmp 10),(6,.tmp 11)]) (cs:=[_,_,_,_,_,_,_,_,_,_,_]) zbA rfl zb9 rfl rfl) (KU rfl rfl (MH rfl (cs:=acC n 0 (fun _=>(.slice none 0 0,.map none)) p) rfl) ?_)
 rintro _ w2 ⟨c,rfl,hc,af,ak⟩
 refine KO rfl (KO rfl (py (KP Tryz.func41 rfl ?_)))
 have dw:NJ KI w1 p []:=NJ.new cy
 have lp:=dw.lt
 have fO:∀b,¬Fq (.slice none 0 0) (.map none) b:=fun b e=>by rcases e with e|e<;>cases e
 refine⟨_,rfl,c,_,p,rfl,⟨ak,fun j hj=>⟨?_,?_,?_⟩,af.map dw.l,fun i j hi hj bG b hb=>absurd hb (fO b),fun j hj=>fO c,fun j hj=>fO p,by omega⟩,fun b hb=>?_,ad.trans af⟩
 ·have e:(z1e n).li j=[]:=by match j,hj with|0,_|1,_|2,_|3,_=>rfl
  rw[e];exact Sl.nil _ _ _
 ·left
  refine⟨rfl,?_⟩
  match j,hj with|0,_|1,_|2,_|3,_=>rfl
 ·have e:(z1e n).li j=[]:=by match j,hj with|0,_|1,_|2,_|3,_=>rfl
  rw[e];exact Nat.zero_le _
 ·rcases hb with e|e|⟨j,hj,hb⟩
  ·have:=ad.size;omega
  ·omega
  ·exact absurd hb (fO b)
end
section
variable {w w' w2:World}{c p:Nat}{A A' A2:Arc}{V V' V2:Nat->Value×Value}{S:Nat->Prop}{k:Int}
theorem NR.cells (h:NR w c A V p):KY w c [I (A.size:Int),(V 0).1,(V 0).2,(V 1).1,(V 1).2,(V 2).1,(V 2).2,(V 3).1,(V 3).2,I A.target,.map (some p)] 167:=h.KN
theorem Xh (h:NR w c A V p):Lk Tryz.prog 151 [ptr c 0,I k] w fun v w'=>v= .bool (decide (k∈A.once\/k∈A.often))/\w'=w:=by
 have h0:=Ql h (j:=0) (k:=k) (by decide)
 have h1:=Ql h (j:=1) (k:=k) (by decide)
 rw[show A.li 0=A.once from rfl] at h0
 rw[show A.li 1=A.often from rfl] at h1
 refine KJ (e:=[(0,_),(1,_)]) Tryz.func151 rfl Tryz.ntmps151 rfl rfl (qN rfl (KO rfl (qM rfl (An rfl (qV (ZB U89 rfl rfl) (An rfl (An rfl (qV (L6 rfl) (qV (KT M9 rfl) (An rfl (La [.tmp 10,.tmp 11] Sf rfl (h0) ?_)))))))))))
 rintro _ w ⟨rfl,rfl⟩
 by_cases g9:k∈A.once
 ·rw[decide_eq_true g9];refine An rfl (qS (qS (qS (qS (qS (qV (LR rfl rfl) (qV (LR rfl rfl) (KO rfl (py (KP Tryz.func151 rfl ?_))))))))));exact⟨_,rfl,by rw[decide_eq_true (Or.inl g9)];rfl,rfl⟩
 ·rw[decide_eq_false g9];refine An rfl (An rfl (qV (L6 rfl) (qV (KT MF rfl) (An rfl (La [.tmp 16,.tmp 17] Sf rfl (h1) ?_)))));rintro _ w ⟨rfl,rfl⟩;refine qV (Ls rfl rfl) (qV (LR rfl rfl) (KO rfl (py (KP Tryz.func151 rfl (⟨_,rfl,?_,rfl⟩)))));by_cases aM:k∈A.often
  ·simp[g9,aM,resVal]
  ·simp[g9,aM,resVal]
def Sb:List Int->Value
 |[]=> .tuple #[I 0,.bool false]
 |a::_=> .tuple #[I a,.bool true]
theorem Qo (h:NR w c A V p){j:Nat}(hj:j<4):Lk Tryz.prog 158 [ptr c 0,ptr c (1+2*j)] w fun v w'=>v=Sb (A.li j)/\w'=w:=by
 have hB:=h.cells
 have hg:=(RZ A.size A.target V p hj).1
 have hq:=h.q j hj
 obtain⟨ka,kc,fY,zf⟩:∃a c,(V j).1= .slice a (A.li j).length c/\(a=none->(A.li j).length=0):=hq.sl.rd.shape
 rw[fY] at hg
 have hR:=hq.sl.rd
 have hn:=hq.n
 rw[fY] at hR
 refine KJ (e:=[(0,_),(1,_)]) Tryz.func158 rfl Tryz.ntmps158 rfl rfl (qN rfl (KO rfl (KO rfl (py (run_seq (qN rfl (An rfl (qV (L6 rfl) (qV (KT LL rfl) (qV (KS Mw rfl rfl h.KN hg) (qV (LM Mw rfl) (An rfl (py ?_)))))))))))))
 refine KL ?_
 cases hl:A.li j with
 | nil =>
   rw[hl] at hR;refine MV (α:=Unit) (()) (fun _=>[(0,ptr c 0),(12,.slice ka 0 kc),(13,I 0),(14,I 0)]) (fun _ w'=>w'=w) (fun _=>0) ?hI ?hround
   case hI=>rfl
   case hround=>
    rintro i w2 rfl ih
    try dsimp only
    refine qN rfl (qV (LX rfl rfl) (Ly (py (run_seq (KH rfl (KX rfl (qN rfl (KO rfl (qM rfl (An rfl (KO rfl (KO rfl (py ?_)))))))))))));refine KP Tryz.func158 rfl ?_
    exact⟨_,rfl,rfl,rfl⟩
 | cons x r =>
   rw[hl] at hR zf hn
   obtain⟨kb,rfl⟩:∃b,ka=some b:=by
    cases ka with
    |none=>have:=zf rfl;simp at this
    |some b=>exact⟨b,rfl⟩
   obtain⟨lb,lo,lc,e5⟩:∃b o c',Value.slice (some kb) (x::r).length kc= .slice (some ⟨b,o,none⟩) (x::r).length c':=by
    rcases hR.2 with⟨c,hc,h0⟩|⟨b,off,c',hc,-⟩
    ·simp at h0
    ·exact⟨b,off,c',hc⟩
   cases e5;have gM:0<(x::r).length:=by simp
   refine MV (α:=Unit) (()) (fun _=>[(0,ptr c 0),(12,.slice (some ⟨lb,lo,none⟩) (x::r).length kc),(13,I ((x::r).length:Int)),(14,I ((0:Nat):Int))]) (fun _ w'=>w'=w) (fun _=>0) ?hI ?hround
   case hI=>rfl
   case hround=>
    rintro i w2 rfl ih
    try dsimp only
    refine qN rfl (qV (LX rfl rfl) (MR (py (run_seq (L3 rfl (It (run_seq (KL (qN rfl (qV (LC Mw LG rfl rfl (by omega)) (qV (Lm U3 rfl rfl (LV hR (i:=0) (show((x::r).map I)[0]? =some (I x) from rfl))) (KO rfl (qM rfl ?_)))))))))))));refine An rfl (qV (L6 rfl) (qV (KT Va rfl) (qV (KS S2 rfl rfl hB rfl) (An rfl (qV (ylk (k:=x) (K:=KI) S2 (Ng U3) LG rfl rfl h.pins) (qV (Mr rfl rfl) (MR (py (L3 rfl (qN rfl (An rfl (KO rfl (KO rfl ?_)))))))))))));refine py (KP Tryz.func158 rfl ?_);exact⟨_,rfl,rfl,rfl⟩
theorem X7 (h:NR w c A V p)(hA:A.Ok)(co:A.size<=1000):Lk Tryz.prog 159 [ptr c 0] w fun v w'=>v= .bool (decide (A.once.length+A.often.length=A.size))/\Ext w w':=by
 have hB:=h.cells
 have hh:=hA.held
 obtain⟨a0,c0,e0,-⟩:∃a c,(V 0).1= .slice a A.once.length c/\_:=(h.q 0 (by decide)).sl.rd.shape
 obtain⟨a1,c1,e1,-⟩:∃a c,(V 1).1= .slice a A.often.length c/\_:=(h.q 1 (by decide)).sl.rd.shape
 rw[e0,e1] at hB
 have hg:=Ext.Lb w
 refine KJ (e:=[(0,_)]) Tryz.func159 rfl Tryz.ntmps159 rfl rfl (qN rfl (KO rfl (py (run_seq (KV (fun w'=>Ext w w') (by kernel_rfl) rfl (KR 0 rfl (KW rfl) hg (KR 1 rfl (L6 rfl) hg (KR 2 rfl (KT M9 rfl) hg (KR 3 rfl (KT LL rfl) hg (qT 4 rfl (fun _ h=>KS Mw rfl rfl (h.KN hB) rfl) hg (KR 5 rfl (LM Mw rfl) hg (KR 6 rfl (KW rfl) hg (KR 7 rfl (L6 rfl) hg ?_)))))))))))))
 refine KR 8 rfl (KT MF rfl) hg (KR 9 rfl (KT LL rfl) hg (qT 10 rfl (fun _ h=>KS Mw rfl rfl (h.KN hB) rfl) hg (KR 11 rfl (LM Mw rfl) hg (KR 12 rfl (PM rfl rfl (by omega)) hg (KR 13 rfl (KW rfl) hg (KR 14 rfl (L6 rfl) hg (KR 15 rfl (KT Nu rfl) hg (qT 16 rfl (fun _ h=>KS U3 rfl rfl (h.KN hB) rfl) hg (KR 17 rfl (Mr rfl rfl) hg (KR 18 rfl (MO rfl) hg (qE (KP Tryz.func159 rfl (⟨_,rfl,?_,hg⟩)))))))))))))
 show Value.bool _=Value.bool _
 congr 1
 exact decide_eq_decide.2 (by omega)
end
end Go.Proofs.YtpldpcjdjcgicaaGreatDoor
