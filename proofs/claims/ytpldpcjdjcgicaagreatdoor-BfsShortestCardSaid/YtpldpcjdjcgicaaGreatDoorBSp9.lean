/- Texts BfB, BfC, BfD, RgA, RgB, RgC, RgD, LayA, LayB, LayC, AwK, LbA, LbS, Row, BfO, RowA, one behind the other (what the statement BfsShortest does not use is left out). -/
import Derived.Test.YtpldpcjdjcgicaaGreatDoorBSp2
import Derived.Test.YtpldpcjdjcgicaaGreatDoorBSp8
import Derived.Test.YtpldpcjdjcgicaaGreatDoorRows
import Derived.Test.YtpldpcjdjcgicaaGreatDoorBSp1
import Derived.SizedLaws
import Derived.Carry
import Derived.WalkKit
import Derived.ProofKit
import Derived.OpenShut
import Derived.ShutString
import Derived.ChangeOld
import Derived.Below
import Derived.Lib.SmallJoins
import Derived.Deep.SlicePairs
import Derived.LaidLaws
import Derived.MakeChecks
import Derived.Handed
set_option maxHeartbeats 16000000
namespace Go.Proofs.YtpldpcjdjcgicaaGreatDoor
open Go Go.RowKit
set_option linter.all false
set_option maxRecDepth 100000
section
variable {G:GwP}{w w':World}{Q Q':N1}{txt txt':Int->Bytes}{K K':Nat}{X Y S':Nat->Prop}{rr vb sv t:Nat}{dn:Bool}{xs ys:List Nat}
structure LvI (G:GwP)(Q:N1)(txt:Int->Bytes)(K:Nat)(X Y:Nat->Prop)(rr vb sv t:Nat)(dn:Bool)(n0:Nat)(br b2 b3:Nat)(w:World)(p:List Nat×Bool)(w':World):Prop where
 ex:∃txt',Qa G Q txt' K Y rr vb sv t dn p.1 w'/\∀y:Int,y<(sv:Int)\/(sv:Int)+(PZ n0 128:Int)<=y->txt' y=txt y
 br:KY w' br [ptr rr 0] 34
 b2:KY w' b2 [.bool p.2] 4
 b3:KY w' b3 [I 0] 35
 k:Kp (fun b=>¬X b) w w'
theorem Qa.list (h:Qa G Q txt K X rr vb sv t dn xs w)(hg:Oa G Q txt K Y w')(hk:Kp (fun j=>¬X j) w w')(bV:∀j,X j->Y j):Qa G Q txt K Y rr vb sv t dn xs w':=
 ⟨hg,hk.KN h.run (fun e=>e h.xr.1),h.vec.kp hk (fun e=>e h.xr.2),⟨bV _ h.xr.1,bV _ h.xr.2⟩,h.ne,h.QU,h.len,h.n,h.t⟩
theorem VcW.kp {vb width st:Nat}{ys:List Nat}(h:VcW Q txt K X vb width st ys w w'):Kp (fun b=>¬X b) w w':=by
 obtain⟨txt',-,-,-,hk⟩:=h
 exact hk
theorem LvI.own {n0 br b2 b3:Nat}{p:List Nat×Bool}{w0:World}(h:LvI G Q txt K X Y rr vb sv t dn n0 br b2 b3 w0 p w)(hk:Kp S' w w')(hS:∀j,S' j->Y j/\j≠G.k/\j≠G.x/\j≠1/\j≠2/\j≠rr/\j≠vb/\j≠br/\j≠b2/\j≠b3/\w0.heap.size<=j):LvI G Q txt K X Y rr vb sv t dn n0 br b2 b3 w0 p w':=by
 obtain⟨⟨txt',h1,h2⟩,h3,h4,h5,h6⟩:=h
 refine⟨⟨txt',h1.own hk (fun j e=>?_),h2⟩,hk.KN h3 (fun e=>?_),hk.KN h4 (fun e=>?_),hk.KN h5 (fun e=>?_),h6.KK hk fun j e=> .inl ?_⟩
 ·obtain⟨a1,a2,a3,a4,a5,a6,a7,-⟩:=hS j e;exact⟨a1,a2,a3,a4,a5,a6,a7⟩
 ·exact(hS _ e).2.2.2.2.2.2.2.1 rfl
 ·exact(hS _ e).2.2.2.2.2.2.2.2.1 rfl
 ·exact(hS _ e).2.2.2.2.2.2.2.2.2.1 rfl
 ·exact(hS _ e).2.2.2.2.2.2.2.2.2.2
theorem LvI.more {n0 br b2 b3:Nat}{p:List Nat×Bool}{w0:World}(h:LvI G Q txt K X Y rr vb sv t dn n0 br b2 b3 w0 p w)(hK:K<=K')(xN:K'<1000000000000):LvI G Q txt K' X Y rr vb sv t dn n0 br b2 b3 w0 p w:=by
 obtain⟨⟨txt',h1,h2⟩,h3,h4,h5,h6⟩:=h
 exact⟨⟨txt',h1.more hK xN,h2⟩,h3,by assumption,by assumption,by assumption⟩
theorem ZJ (h : Qa G Q txt K X rr vb sv t dn xs w)(hK : K <= 800000000000)(cG : 1 <= G.g.length) : Lk Tryz.prog 33 [ptr rr 0] w fun v w' => v = .tuple #[.bool (WE t G.g xs).2, I 0] /\ ∃ txt', Qa G Q txt' (K + 3200) X rr vb sv t dn (WE t G.g xs).1 w' /\ (∀ y : Int, y < (sv : Int) \/ (sv : Int) + (PZ xs.length 128 : Int) <= y -> txt' y = txt y) /\ Kp (fun b => ¬ X b) w w' := by
 have xO:=h.n
 have tH:=h.t
 have xP:=h.g.ok.gr
 have aO:=h.g.lt1
 refine KJ (e:=[(0,_)]) Tryz.func33 rfl Tryz.ntmps33 rfl rfl (qN rfl (KU rfl rfl (MH rfl (cs:=[ptr rr 0]) rfl) ?_))
 rintro _ w1 ⟨br,rfl,Bg,ad,ai⟩
 refine KU rfl rfl (N3 (cs:=[_]) QX rfl) ?_
 rintro _ w2 ⟨b2,rfl,bT,af,ak⟩
 refine KU rfl rfl (N3 (cs:=[_]) z3u rfl) ?_
 rintro _ w3 ⟨b3,rfl,dZ,ah,ao⟩
 have cE:=(ad.trans af).trans ah
 have z1:=ad.size
 have z2:=af.size
 have z3:=ah.size
 have sS:=(af.trans ah).KN ai
 have ct:=ah.KN ak
 have l1:=ai.lt
 have l2:=ak.lt
 have l3:=ao.lt
 obtain⟨X0,xQ⟩:∃X0:Nat->Prop,(fun j=>X j\/j=br\/j=b2\/j=b3)=X0:=⟨_,rfl⟩
 have gA:∀j,X j->X0 j:=fun j hj=>by rw[<-xQ];exact .inl hj
 have IY:∀j,X0 j->X j\/w.heap.size<=j:=fun j hj=>by rw[<-xQ] at hj;exact hj.imp id fun e=>by omega
 have aW:X0 br/\X0 b2/\X0 b3:=by rw[<-xQ];exact⟨.inr (.inl rfl),.inr (.inr (.inl rfl)),.inr (.inr (.inr rfl))⟩
 have h3:Qa G Q txt K X0 rr vb sv t dn xs w3:=h.grow cE (fun j hj=>by rw[<-xQ] at hj;exact hj.imp id fun e=>by omega) gA
 have Kq:=aO rr (.inl h.xr.1)
 have Ee:=aO vb (.inl h.xr.2)
 have xR:=aO _ (.inl h.g.xk.1)
 have Kr:=aO _ (.inl h.g.xk.2.1)
 have Ks:=aO _ (.inl h.g.xk.2.2.1)
 have Kt:=aO _ (.inl h.g.xk.2.2.2)
 have As:=aO _ (.inr rfl)
 have xS:=h3.cells
 refine py (run_seq (qN rfl (qV ((by first|exact KS Zy rfl rfl sS rfl|exact KS Zy rfl rfl xS rfl)) ?_)))
 refine qV (L6 rfl) (qV (KT z6b rfl) (qV ((by first|exact KS Z6 rfl rfl sS rfl|exact KS Z6 rfl rfl xS rfl)) ?_))
 refine La [.tmp 15] z8Z rfl (Ya h3.g) ?_
 rintro _ w3 ⟨rfl,rfl⟩
 refine An rfl (py (KL (z4q (α:=Nat×(List Nat×Bool)×List Dfr) ((0,(xs,false),[])) (fun y=>y.2.2) rfl (fun y=>[(1,ptr br 0),(2,ptr b2 0),(3,ptr b3 0),(16,I (G.g.length:Int)),(17,I (y.1:Int))]) (fun y w'=>y.1<=G.g.length/\y.2.1=(List.range y.1).foldl (PS t G.g) (xs,false)/\y.2.1.1.length=xs.length/\LvI G Q txt (K+64*y.1) X (fun j=>X0 j\/ .mk j∈y.2.2) rr vb sv t dn xs.length br b2 b3 w y.2.1 w'/\MkN w3.heap.size y.2.2 w'/\w3.heap.size<=w'.heap.size) (fun y=>G.g.length-y.1) (by repeat (first|exact Sub.nil|refine Sub.cons rfl ?_)) ?hI ?hround)))
 case hI=>exact⟨Nat.zero_le _,rfl,rfl,⟨⟨txt,h3.less (fun j hj=>hj.elim id (fun e=>by cases e)) ⟨.inl h3.g.xk.1,.inl h3.g.xk.2.1,.inl h3.g.xk.2.2.1,.inl h3.g.xk.2.2.2⟩ ⟨.inl h3.xr.1,.inl h3.xr.2⟩,fun y _=>rfl⟩,sS,ct,ao,cE.kp⟩,MkN.nil _ _,Nat.le_refl _⟩
 case hround =>
  rintro⟨v,p,ms⟩ w4 ⟨hv,hp,dT,jK,je,yU⟩ ih;dsimp only at hv hp dT jK je yU ih⊢;obtain⟨⟨txt4,h4,Do⟩,sT,e8,cB,aw⟩:=id jK;have xT:=h4.cells
  have Dp:∀D,.mk D∈ms->¬X0 D:=fun D hD e=>by
   have:=je.lo D hD;rw[<-xQ] at e;rcases e with e| e
   ·have:=aO D (.inl e);omega
   ·omega
  try dsimp only
  refine qN rfl (qV (LX rfl rfl) (py (run_seq (KZ rfl (fun hq=>?_) (fun hq=>?_)))))
  ·have eU : v < G.g.length := by omega
   obtain⟨x,hx⟩:∃x,p.1[v]? =some x:=⟨_,List.getElem?_eq_getElem (by rw[dT,h.len];exact eU)⟩;have IZ:=(h4.vec.t v x hx).2;refine It (run_seq (KL (qN rfl (An rfl (KO rfl (qM rfl (qV ((by first|exact KS Zy rfl rfl sT rfl|exact KS Zy rfl rfl xT rfl)) ?_)))))));refine qV (L6 rfl) (qV (KT Sr rfl) (qV ((by first|exact KS U80 rfl rfl sT rfl|exact KS U80 rfl rfl xT rfl)) ?_));refine An rfl (La [.tmp 24,.tmp 25] z9n rfl (TK h4.g.sp h4.g.lt1 h4.g.z1z h4.vec (.inl h4.xr.2) hx) ?_);rintro _ w5 ⟨rfl,gE,aj⟩;have h5:=h4.read aj gE;have lF:=aj.KN sT (fun e=>e (.inl (.inl aW.1)));have cA:=aj.KN e8 (fun e=>e (.inl (.inl aW.2.1)));have bN:=aj.KN cB (fun e=>e (.inl (.inl aW.2.2)));have na:=je.kp aj (fun D hD e=>e (.inl (.inr hD)));have pE:=h5.cells;have z5:=aj.size;have cu:Kp (fun b=>¬X b) w w5:=aw.trans (aj.L2 fun b e e2=>e (.inl (.inl (gA b e2))));have jw:LvI G Q txt (K+64*v) X (fun j=>X0 j\/ .mk j∈ms) rr vb sv t dn xs.length br b2 b3 w p w5:=⟨⟨txt4,h5,Do⟩,lF,cA,bN,cu⟩;have eP:(List.range (v+1)).foldl (PS t G.g) (xs,false)=PS t G.g p v:=by rw[List.range_succ,List.foldl_append,<-hp];rfl
   refine An rfl (qV (Lu rfl rfl) (qV (Lu rfl rfl) (KO rfl (KO rfl (py (run_seq (qN rfl (An rfl (qV (M0 rfl rfl) (py (KH rfl (It (run_seq ?_)))))))))))));refine qN rfl (An rfl (qV ((by first|exact KS Zy rfl rfl lF rfl|exact KS Zy rfl rfl pE rfl)) ?_));refine qV (L6 rfl) (qV (KT Qx rfl) (qV (KT Vv rfl) (qV ((by first|exact KS U3 rfl rfl lF rfl|exact KS U3 rfl rfl pE rfl)) ?_)));refine qV ((by first|exact LF rfl U3 Mq (by omega)|exact N0 rfl U3 Mq)) ?_;by_cases sR:x=t
   ·have gm : (L9 G.g v).length <= G.g.length := by
     unfold L9;rw[List.getElem?_eq_getElem eU];exact xP.len (List.getElem_mem eU)
    have sU:PS t G.g p v=(L9 G.g v).foldl (Nq t) p:=by
     unfold PS;rw[if_pos (by rw[hx,sR])]
    refine qV (M0 rfl rfl) (Ly (py (KH rfl (It (qN rfl (qV ((by first|exact KS Zy rfl rfl lF rfl|exact KS Zy rfl rfl pE rfl)) ?_))))));refine qV (L6 rfl) (qV (KT z6b rfl) (qV ((by first|exact KS Z6 rfl rfl lF rfl|exact KS Z6 rfl rfl pE rfl)) ?_));refine An rfl (La [.tmp 43,.tmp 44] zdz rfl (z1C G.k v _) ?_);rintro _ w6 ⟨bk,bi,rfl,tM,Dk,fX,tX,aG⟩;have z6:=aG.size;refine py (KL (OK (ps:=[46,47]) (p:=[]) (q:=[_,_]) rfl ze8 ?_));rintro l wl eZ eO co hD Rc dc eG;have zl:=eZ.size;have si:=aG.trans eZ;obtain⟨X1,ky⟩:∃X1:Nat->Prop,(fun j=>(X0 j\/ .mk j∈ms)\/j=w6.heap.size\/j=l)=X1:=⟨_,rfl⟩;have kC:∀j,(X0 j\/ .mk j∈ms)->X1 j:=fun j hj=>by rw[<-ky];exact .inl hj
    have jJ:X1 l/\X1 w6.heap.size:=by rw[<-ky];exact⟨.inr (.inr rfl),.inr (.inl rfl)⟩
    have FC:Qa G Q txt4 (K+64*v) X1 rr vb sv t dn p.1 wl:=h5.grow si (fun j hj=>by rw[<-ky] at hj;exact hj.imp id fun e=>by omega) kC;have pF:∀j,j=l\/j=w6.heap.size->j≠G.k/\j≠G.x/\j≠1/\j≠2/\j≠rr/\j≠vb/\j≠br/\j≠b2/\j≠b3/\w.heap.size<=j:=fun j hj=>by omega
    have pG:∀D,.mk D∈ms->D≠l:=fun D hD=>by have:=na.hi D hD;omega
    have eW:b2≠l/\b2≠w6.heap.size:=by omega
    refine Lk.mono (z07 (by omega) eU FC.g (eZ.KN tM) (eZ.KN Dk) (fun j=>j=b2\/j=l) (fun j hj=>by rcases hj with e|e;exact kC _ (.inl (e▸aW.2.1));exact e▸jJ.1)
     (fun Y i w'=>Rc .ready none w'/\LvI G Q txt (K+64*v+i) X Y rr vb sv t dn xs.length br b2 b3 w (((L9 G.g v).take i).foldl (Nq t) p) w'/\MkN w3.heap.size ms w'/\w'.heap[w6.heap.size]? =some (.deferred (some [])))
     (fun _=>False) ?_ ?_) ?_
    ·intro Y w7 bV kB qy aA;have ic:Kp (fun j=>¬X1 j) w5 w7:=si.kp.trans aA;refine⟨aA.rc dc eG (fun e=>e jJ.1),⟨⟨txt4,?_,Do⟩,ic.KN lF (fun e=>e (kC _ (.inl aW.1))),ic.KN cA (fun e=>e (kC _ (.inl aW.2.1))),ic.KN bN (fun e=>e (kC _ (.inl aW.2.2))),cu.trans (ic.L2 fun b e e2=>e (kC _ (.inl (gA b e2))))⟩,na.kp ic (fun D hD e=>e (kC _ (.inr hD))),aA.heap hD (fun e=>e jJ.2)⟩;exact FC.list qy aA bV
    ·rintro Y i s w7 bV kB hs ⟨FD,j8,CG,J0⟩;have gS:s<G.g.length:=OR xP v s (List.mem_of_getElem? hs)
     have cO:i<(L9 G.g v).length:=by
      rcases Nat.lt_or_ge i (L9 G.g v).length with h| h
      ·exact h
      ·rw[List.getElem?_eq_none h] at hs;cases hs
     have pH:=Rf t ((L9 G.g v).take i) p
     have dD:((L9 G.g v).take (i+1)).foldl (Nq t) p=Nq t (((L9 G.g v).take i).foldl (Nq t) p) s:=by
      rw[LA hs,List.foldl_append];rfl
     obtain⟨q,hq⟩:∃q,((L9 G.g v).take i).foldl (Nq t) p=q:=⟨_,rfl⟩;rw[hq] at j8 pH dD;rw[dD];obtain⟨x7,bL⟩:∃x7,q.1[s]? =some x7:=⟨_,List.getElem?_eq_getElem (by rw[pH,dT,h.len];exact gS)⟩;have fU:Y br/\Y b2/\Y b3:=⟨bV _ (kC _ (.inl aW.1)),bV _ (kC _ (.inl aW.2.1)),bV _ (kC _ (.inl aW.2.2))⟩;have sV:Y l/\Y w6.heap.size:=⟨bV _ jJ.1,bV _ jJ.2⟩;have FE:∀D,.mk D∈ms->Y D:=fun D hD=>bV _ (kC _ (.inr hD));have xU:∀j,X j->Y j:=fun j hj=>bV _ (kC _ (.inl (gA j hj)));refine PX dc FD rfl rfl (qN rfl (KO rfl (py (Ll.qb (e:=[(1,_),(2,_),(3,_),(7,_),(47,_)]) ?_))));refine KQ rfl (KO rfl (py (run_beginRound rfl dc FD ?_)));rintro w8 Cq bh;obtain⟨⟨txt8,h8,xV⟩,sW,vw,mc,md⟩:=j8.own bh (fun j e=>⟨e▸sV.1,pF j (.inl e)⟩);have J1:=CG.kp bh (fun D hD e=>pG D hD e);have J2:=bh.heap J0 (by omega);have xW:=h8.cells;have FF:=(h8.vec.t s x7 bL).2;refine KL (run_seq (qN rfl (An rfl (qV (M0 rfl rfl) (py (KH rfl (It (qN rfl (qV ((by first|exact KS Zy rfl rfl sW rfl|exact KS Zy rfl rfl xW rfl)) ?_)))))))));refine qV (L6 rfl) (qV (KT Sr rfl) (qV ((by first|exact KS U80 rfl rfl sW rfl|exact KS U80 rfl rfl xW rfl)) ?_));refine An rfl (qV (Lw rfl Mk U3 (by omega)) (La [.tmp 55,.tmp 57] z9n rfl (TK h8.g.sp h8.g.lt1 h8.g.z1z h8.vec (.inl h8.xr.2) bL) ?_));rintro _ w9 ⟨rfl,qw,aL⟩;have h9:=h8.read aL qw;have lG:=aL.KN sW (fun e=>e (.inl fU.1));have jO:=aL.KN vw (fun e=>e (.inl fU.2.1));have lC:=aL.KN mc (fun e=>e (.inl fU.2.2));have lX:=J1.kp aL (fun D hD e=>e (.inl (FE D hD)));have FG:=aL.heap J2 (fun e=>e (.inl sV.2));have FH:=aL.rc dc Cq (fun e=>e (.inl sV.1));have lH:Kp (fun b=>¬X b) w w9:=md.trans (aL.L2 fun b e e2=>e (.inl (xU b e2)));have xX:Kp (fun j=>¬Y j\/j=b2\/j=l) w7 w9:=(bh.L2 fun j e=> .inr (.inr e)).trans (aL.L2 fun j e=> .inl fun e2=>e (.inl e2));have pI:=h9.cells;refine An rfl (qV (Lu rfl rfl) (qV (Lu rfl rfl) (KO rfl (KO rfl (py (run_seq (qN rfl (An rfl (qV (M0 rfl rfl) (py (KH rfl (It (run_seq ?_)))))))))))));refine qN rfl (An rfl ?_);by_cases hn:x7=4294967295
     ·have jV:Nq t q s=(q.1.set s (t+1),true):=by
       unfold Nq;rw[if_pos (by rw[bL,hn])]
      rw[jV];have cR:=Ext.Lb w9;refine qV (M0 rfl rfl) (Ly (py (KH rfl (It (run_seq (run_seq (KV (fun w'=>Kp (fun j=>¬(Y j\/j=G.rb)) w9 w') (by kernel_rfl) rfl (qT 0 rfl (fun _ hS=>(by first|exact KS Zy rfl rfl (hS.KN lG (fun e=>e (.inl fU.1))) rfl|exact KS Zy rfl rfl (hS.KN pI (fun e=>e (.inl h9.xr.1))) rfl)) (cR.kp) ?_))))))));refine KR 1 rfl (L6 rfl) (cR.kp) (KR 2 rfl (KT Sr rfl) (cR.kp) (qT 3 rfl (fun _ hS=>(by first|exact KS U80 rfl rfl (hS.KN lG (fun e=>e (.inl fU.1))) rfl|exact KS U80 rfl rfl (hS.KN pI (fun e=>e (.inl h9.xr.1))) rfl)) (cR.kp) ?_));refine KR 4 rfl (KW rfl) (cR.kp) (KR 5 rfl (Lw rfl Mk U3 (by omega)) (cR.kp) (qT 6 rfl (fun _ hS=>(by first|exact KS Zy rfl rfl (hS.KN lG (fun e=>e (.inl fU.1))) rfl|exact KS Zy rfl rfl (hS.KN pI (fun e=>e (.inl h9.xr.1))) rfl)) (cR.kp) ?_));refine KR 7 rfl (L6 rfl) (cR.kp) (KR 8 rfl (KT Qx rfl) (cR.kp) (KR 9 rfl (KT Vv rfl) (cR.kp) (qT 10 rfl (fun _ hS=>(by first|exact KS U3 rfl rfl (hS.KN lG (fun e=>e (.inl fU.1))) rfl|exact KS U3 rfl rfl (hS.KN pI (fun e=>e (.inl h9.xr.1))) rfl)) (cR.kp) ?_)));refine KR 11 rfl ((by first|exact LF rfl U3 Mq (by omega)|exact N0 rfl U3 Mq)) (cR.kp) ?_;refine KR 12 rfl (Pp rfl rfl) (cR.kp) ?_;rw[Nat.mod_eq_of_lt (show t+1<18446744073709551616 by omega)];refine O2 13 [.tmp 69,.tmp 71,.tmp 78] rfl zaB rfl (Xk ((h9.ext cR).g.sp) (h9.ext cR).g.lt1 (h9.ext cR).g.z1z (h9.ext cR).vec (.inl h9.xr.2) (i:=s) (x:=t+1) (by rw[pH,dT,h.len];exact gS) (by omega)) ?_;rintro _ w10 ⟨rfl,hW⟩;refine⟨cR.kp.trans hW.kp,?_⟩;obtain⟨txt10,fj,xY,ax⟩:=(h9.ext cR).wrote (K':=K+64*v+i+1) (by omega) (by simp) hW;have eV:=cR.kp.trans ax;have xZ:=eV.KN lG (fun e=>e (.inl fU.1));have mX:=eV.KN jO (fun e=>e (.inl fU.2.1));have y4:=eV.KN lC (fun e=>e (.inl fU.2.2));have Dq:=lX.kp eV (fun D hD e=>e (.inl (FE D hD)));have Dr:=eV.heap FG (fun e=>e (.inl sV.2));have Dt:=eV.rc dc FH (fun e=>e (.inl sV.1));refine KR 14 rfl (MO rfl) (cR.kp.trans hW.kp) (qE (Ll.qb (e:=[(2,_),(3,_),(11,_)]) ?_));refine qN rfl (An rfl (qV (M0 rfl rfl) (py (KH rfl (It (KQ rfl (L0 rfl (Mt QX rfl rfl rfl mX (by simp)) ?_)))))));rintro w11 ⟨mS,aP⟩;have Du:∀D,.mk D∈ms->D≠b2:=fun D hD e=>Dp D hD (e▸aW.2.1);have m8:=fj.own aP (fun j e=>by rw[e];exact⟨fU.2.1,by omega,by omega,by omega,by omega,by omega,by omega⟩);have Dv:=aP.rc dc Dt (by omega);refine py (KM (P9 dc Dv ?_));intro w12 sX aU;refine .inl ⟨rfl,⟨sX,LvI.own ⟨⟨txt10,m8,fun y hy=>?_⟩,aP.KN xZ (by omega),mS,aP.KN y4 (by omega),?_⟩ aU (fun j e=>⟨e▸sV.1,pF j (.inl e)⟩),(Dq.kp aP (fun D hD e=>Du D hD e)).kp aU (fun D hD e=>pG D hD e),aU.heap (aP.heap Dr (by omega)) (by omega)⟩,?_⟩
      ·rw[xY y (by rw[pH,dT];exact hy)];exact xV y hy
      ·exact(lH.trans (eV.L2 fun b e e2=>e (.inl (xU b e2)))).KK aP fun b e=> .inl (by omega)
      ·exact((xX.trans (eV.L2 fun j e=> .inl fun e2=>e (.inl e2))).trans (aP.L2 fun j e=> .inr (.inl e))).trans (aU.L2 fun j e=> .inr (.inr e))
     ·have jV:Nq t q s=q:=by
       unfold Nq;rw[if_neg (fun e=>hn (by rw[bL] at e;exact ML e))]
      rw[jV];refine qV (M0 rfl rfl) (MR (py (L3 rfl (KX rfl (P9 dc FH ?_)))));intro w12 sX aU;exact .inl ⟨rfl,⟨sX,(LvI.own ⟨⟨txt8,h9,xV⟩,lG,jO,lC,lH⟩ aU (fun j e=>⟨e▸sV.1,pF j (.inl e)⟩)).more (by omega) (by omega),lX.kp aU (fun D hD e=>pG D hD e),aU.heap FG (by omega)⟩,xX.trans (aU.L2 fun j e=> .inr (.inr e))⟩
    ·rintro v' wz ⟨rfl,⟨Y,bV,kB,J3,Dw,J4,J5⟩|hF⟩
     ·refine⟨_,_,J3,by simp,fun wy ip=>?_⟩;have tZ:=Dw.own ip (fun j e=>⟨e▸bV _ jJ.1,pF j (.inl e)⟩);have J6:=J4.kp ip (fun D hD e=>pG D hD e);have x8:=ip.heap J5 (by omega);have zy:w6.heap.size<wy.heap.size:=by have:=Dw.k.size;have:=ip.size;have qx:=Dw.ex.choose_spec.1.g.lt _ (bV _ jJ.2);omega
      rw[List.take_length,<-sU,<-eP] at tZ;refine KM (KM (KQ rfl (LH rfl rfl (An rfl (py ((ih (v+1,(List.range (v+1)).foldl (PS t G.g) (xs,false),.mk w6.heap.size::ms) wy ⟨by omega,rfl,?_,⟨?_,tZ.br,tZ.b2,tZ.b3,tZ.k⟩,(na.kp (aG.kp (S:=fun _=>False)) (fun _ _=>id)).cons (by omega) J6 x8 zy,by omega⟩ (by omega)).qb))))))
      ·rw[eP,z4m];exact dT
      ·obtain⟨txty,hy,zj⟩:=tZ.ex
       have zm:∀j,(X0 j\/ .mk j∈(.mk w6.heap.size::ms))->Y j:=fun j hj=>by
        rcases hj with e| e
        ·exact bV _ (kC _ (.inl e))
        ·rcases List.mem_cons.1 e with e| e
         ·cases e;exact bV _ jJ.2
         ·exact bV _ (kC _ (.inr e))
       exact⟨txty,(hy.less zm ⟨.inl h3.g.xk.1,.inl h3.g.xk.2.1,.inl h3.g.xk.2.2.1,.inl h3.g.xk.2.2.2⟩ ⟨.inl h3.xr.1,.inl h3.xr.2⟩).more (by omega) (by omega),zj⟩
     ·exact hF.elim
   ·have sU:PS t G.g p v=p:=by
     unfold PS;rw[if_neg (fun e=>sR (by rw[hx] at e;exact ML e))]
    refine qV (M0 rfl rfl) (MR (py (L3 rfl (KX rfl (KQ rfl (LH rfl rfl (An rfl (py ((ih (v+1,p,ms) w5 ⟨by omega,by rw[eP,sU],dT,jw.more (by omega) (by omega),na,by omega⟩ (by omega)).qb)))))))))
  ·have eU:v=G.g.length:=by omega
   subst eU;refine KX rfl (qN rfl (qV ((by first|exact KS U4 rfl rfl e8 rfl|exact KS U4 rfl rfl cB rfl)) ?_));refine L0 rfl (Mt QX rfl rfl rfl e8 (by simp)) ?_;rintro w5 ⟨cA,aj⟩;have bN:=aj.KN cB (by omega);refine L0 rfl (Mt z3u rfl rfl rfl bN (by simp)) ?_;rintro w6 ⟨gO,aT⟩;have ft:=aT.KN cA (by omega);have zn:∀D,.mk D∈ms->D≠b2/\D≠b3:=fun D hD=>⟨fun e=>Dp D hD (e▸aW.2.1),fun e=>Dp D hD (e▸aW.2.2)⟩;have tW:=(je.kp aj (fun D hD e=>(zn D hD).1 e)).kp aT (fun D hD e=>(zn D hD).2 e);have fY:=VS ms w6;have Dx:=fY.KN ft (fun e=>(zn _ e).1 rfl);have iw:=fY.KN gO (fun e=>(zn _ e).2 rfl);have h6:=(h4.own aj (fun j e=>by rw[e];exact⟨.inl aW.2.1,by omega,by omega,by omega,by omega,by omega,by omega⟩)).own aT (fun j e=>by rw[e];exact⟨.inl aW.2.2,by omega,by omega,by omega,by omega,by omega,by omega⟩);have h7:=h6.own fY (fun j e=>⟨.inr e,by have:=je.lo j e;omega,by have:=je.lo j e;omega,by have:=je.lo j e;omega,by have:=je.lo j e;omega,by have:=je.lo j e;omega,by have:=je.lo j e;omega⟩);refine py (Rz tW.nd tW.m Tryz.func33 (.cell1 U4 rfl rfl ((Dx).cell _) (.cell1 U35 rfl rfl ((iw).cell _) .nil)) ?_);subst hp;refine⟨_,rfl,rfl,txt4,(h7.less (fun j hj=> .inl (gA j hj)) h.g.xk h.xr).more (by omega) (by omega),Do,?_⟩;exact((aw.KK aj fun b e=> .inl (by omega)).KK aT fun b e=> .inl (by omega)).KK fY fun b e=> .inl (by have:=je.lo b e;omega)
end
section
variable {G:GwP}{w w':World}{Q Q':N1}{txt txt':Int->Bytes}{K K':Nat}{X Y S':Nat->Prop}{rr vb sv t t':Nat}{dn dn':Bool}{xs ys:List Nat}
theorem Qa.set (h:Qa G Q txt K X rr vb sv t dn xs w)(hk:Kp (fun b=>b=rr) w w')(hB:KY w' rr (bfC t' dn' G.k vb false) 88)(ht:t'<=1000000):Qa G Q txt K X rr vb sv t' dn' xs w':=
 ⟨h.g.own hk (fun j e=>by rw[e];exact⟨h.xr.1,h.ne.2.1,h.ne.2.2.1,h.ne.2.2.2.1,h.ne.2.2.2.2.1⟩),hB,h.vec.kp hk (fun e=>h.ne.1 e.symm),h.xr,h.ne,h.QU,h.len,h.n,ht⟩
theorem QF (h:Qa G Q txt K X rr vb sv t false xs w)(hK:K<=800000000000)(cG:1<=G.g.length)(ht:t<1000000):Lk Tryz.prog 11 [ptr rr 0] w fun v w'=>v= .tuple #[.bool (!(WE t G.g xs).2),I 0]/\∃txt',Qa G Q txt' (K+3200) X rr vb sv (t+1) (!(WE t G.g xs).2) (WE t G.g xs).1 w'/\(∀y:Int,y<(sv:Int)\/(sv:Int)+(PZ xs.length 128:Int)<=y->txt' y=txt y)/\Kp (fun b=>¬X b\/b=rr) w w':=by
 have hB:=h.cells
 have sU:=ZJ h hK cG
 obtain⟨q,hq⟩:∃q,WE t G.g xs=q:=⟨_,rfl⟩
 obtain⟨ys,sm⟩:=q
 rw[hq] at sU⊢
 dsimp only at sU⊢
 refine KJ (e:=[(0,_)]) Tryz.func11 rfl Tryz.ntmps11 rfl rfl (qN rfl (KO rfl (KO rfl (py (run_seq (qN rfl (An rfl (La [.tmp 6] zby rfl (Un h) ?_))))))))
 rintro _ w ⟨rfl,rfl⟩
 refine KO rfl (qM rfl (An rfl (qV (M0 rfl rfl) (py (KH rfl (It (run_seq (qN rfl (An rfl (qV (L6 rfl) (qV (KT Qx rfl) (qV (KT Y6 rfl) (qV (KS U4 rfl rfl hB rfl) ?_)))))))))))))
 refine py (KH rfl (It (qN rfl (An rfl (La [.tmp 17] zep rfl (sU) ?_)))))
 rintro _ w1 ⟨rfl,txt1,h1,qi,aM⟩
 have ai:=h1.cells
 refine An rfl (qV (Lu rfl rfl) (qV (Lu rfl rfl) (KO rfl (KO rfl (py (run_seq (qN rfl (An rfl (qV (M0 rfl rfl) (py (KH rfl (It (qN rfl ?_)))))))))))))
 refine An rfl (qV (L6 rfl) (qV (KT Qx rfl) (qV (KT Vv rfl) (qV (KS U3 rfl rfl ai rfl) (LH rfl rfl (qV (L6 rfl) (qV (KT Qx rfl) (qV (KT Vv rfl) ?_))))))))
 rw[show(t:Int)+1=((t+1:Nat):Int) by omega]
 refine L0 rfl (Mt LG rfl rfl rfl ai (by simp)) ?_
 rintro w2 ⟨ak,am⟩
 have h2:=h1.set am (t':=t+1) (dn':=false) ak (by omega)
 have dy:=h2.cells
 refine py (Ll.qb (e:=[(0,_),(2,_),(3,_),(5,_)]) ?_)
 refine qN rfl (An rfl (An rfl (qV ((by first|exact LN rfl|exact Na rfl)) ?_)))
 refine qV (L6 rfl) (qV (KT Qx rfl) (qV (KT Y6 rfl) (L0 rfl (Mt QX rfl rfl rfl dy (by simp)) ?_)))
 rintro w3 ⟨ao,au⟩
 have h3:=h2.set au (t':=t+1) (dn':= !sm) ao (by omega)
 have i9:=h3.cells
 refine qM rfl (An rfl (qV (L6 rfl) (qV (KT Qx rfl) (qV (KT Y6 rfl) (qV (KS U4 rfl rfl i9 rfl) (KO rfl (KO rfl (py (KP Tryz.func11 rfl ?_)))))))))
 exact⟨_,rfl,rfl,txt1,h3,qi,((aM.L2 fun b e=> .inl e).trans (am.L2 fun b e=> .inr e)).trans (au.L2 fun b e=> .inr e)⟩
end
section
variable {G:GwP}{w w':World}{Q Q':N1}{txt txt':Int->Bytes}{K K':Nat}{X Y S':Nat->Prop}{rr vb sv t t':Nat}{dn dn':Bool}{xs ys:List Nat}
theorem YC (h:Qa G Q txt K X rr vb sv t dn xs w)(cP:2<=sv)(hc:∀i,sv<=i->i<sv+PZ xs.length 128->Q.L[i]? =some true):Lk Tryz.prog 16 [ptr rr 0] w fun v w'=>v=I 0/\∃txt',Oa G (Q.Mg (Mz Q.L sv (PZ xs.length 128) false)) txt' K X w'/\(∀y:Int,y<(sv:Int)\/(sv:Int)+(PZ xs.length 128:Int)<=y->txt' y=txt y)/\Kp (fun b=>¬X b\/b=rr\/b=vb) w w':=by
 have hB:=h.cells
 have hd:=h.QU
 have ci:=h.vec.fit
 obtain⟨n1,n2,n3,n4,n5,n6,n7,n8,n9⟩:=h.ne
 have ew:=Zt h.g.sp h.g.lt1 h.vec (.inl h.xr.2) cP hc
 rw[show 512 / 4=128 from rfl] at ew ci
 refine KJ (e:=[(0,_)]) Tryz.func16 rfl Tryz.ntmps16 rfl rfl (qN rfl (KO rfl (py (run_seq (KL (qN rfl (An rfl (qV (LQ Zy rfl rfl) (KO rfl (py (KH rfl (qN rfl (An rfl ?_)))))))))))))
 refine qV (L6 rfl) (qV (KT Sr rfl) (qV (KS U80 rfl rfl hB rfl) (qV (LQ U80 rfl rfl) (KO rfl (py (KH rfl (It (KM (run_seq (qN rfl (An rfl (qV (L6 rfl) (qV (KT Sr rfl) ?_)))))))))))))
 refine qV (KS U80 rfl rfl hB rfl) (La [.tmp 16] zem rfl (ew) ?_)
 rintro _ w1 ⟨rfl,txt1,kA,qi,aM⟩
 have ai:=aM.KN hB (fun e=>e.elim (fun e=>e (.inl h.xr.1)) n1)
 refine KO rfl (qM rfl (An rfl (qV (M0 rfl rfl) (py (KH rfl (It (qN rfl (An rfl (An rfl (qV (L6 rfl) (qV (KT Sr rfl) (L0 rfl (Mt z9B rfl rfl rfl ai (by simp)) ?_))))))))))))
 rintro w2 ⟨ak,am⟩
 replace ak:KY w2 rr [I (t:Int),.bool dn,ptr G.k 0,.pointer none,.bool false] 88:=ak
 refine qV (L6 rfl) (qV (KT z4M rfl) (L0 rfl (Mt QX rfl rfl rfl ak (by simp)) ?_))
 rintro w3 ⟨ao,au⟩
 refine py (Ll.qb (e:=[(2,_)]) ?_)
 refine qN rfl (KO rfl (py (KP Tryz.func16 rfl ?_)))
 have bj:Oa G (Q.Mg (Mz Q.L sv (PZ xs.length 128) false)) txt1 K X w1:=h.g.VL aM (fun b e=>e.elim .inl (fun e=> .inr (by rw[e];exact⟨h.xr.2,n6,n7,n8,n9⟩))) kA rfl (My ci) h.g.z1z (fun y h1 h2=>qi y (.inl (by omega)))
 refine⟨_,rfl,rfl,txt1,(bj.own am (fun j e=>by rw[e];exact⟨h.xr.1,n2,n3,n4,n5⟩)).own au (fun j e=>by rw[e];exact⟨h.xr.1,n2,n3,n4,n5⟩),qi,?_⟩
 exact((aM.L2 fun b e=>e.elim (fun e=> .inl fun e2=>e (.inl e2)) (fun e=> .inr (.inr e))).trans (am.L2 fun b e=> .inr (.inl e))).trans (au.L2 fun b e=> .inr (.inl e))
theorem X9 (h:Oa G Q txt K X w)(hK:K<=700000000000)(xO:G.g.length<=40){a:Nat}(hp:ZX Q.L a)(ci:a+1<=Q.L.length)(J7:G.st+G.len<=a){root:Nat}(hr:root<G.g.length):Lk Tryz.prog 10 [ptr Q.s 0,ptr G.k 0,I (root:Int)] w fun v w'=>∃rr vb txt',v= .tuple #[ptr rr 0,I 0]/\w.heap.size<=rr/\w.heap.size<=vb/\Qa G (Q.Mg (Mz Q.L a 1 true)) txt' (K+3) (fun b=>X b\/b=rr\/b=vb) rr vb a 0 false ((List.replicate G.g.length nv).set root 0) w'/\(∀y:Int,y<(a:Int)\/(a:Int)+1<=y->txt' y=txt y)/\Kp (fun b=>¬X b) w w':=by
 have nA:PZ G.g.length 128=1:=by
  unfold PZ;omega
 have eO:(Mz Q.L a 1 true).length=Q.L.length:=My ci
 have FI:=z3z h.sp h.lt1 (by omega) hp G.g.length 4 (by omega) (by omega) (by rw[show 512 / 4=128 from rfl,nA];exact ci)
 rw[show 512 / 4=128 from rfl,nA] at FI
 refine KJ (e:=[(0,_),(1,_),(2,_)]) Tryz.func10 rfl Tryz.ntmps10 rfl rfl (qN rfl (KO rfl (KO rfl (py (run_seq (KL (qN rfl (An rfl (qV (LQ S4 rfl rfl) (An rfl (An rfl (qV (LQ Z6 rfl rfl) (qV (Ls rfl rfl) ?_)))))))))))))
 refine KO rfl (py (KH rfl (qN rfl (An rfl (qV (LX rfl rfl) (Ly (An rfl (An rfl (An rfl (La [.tmp 22] z8Z rfl (Ya h) ?_))))))))))
 rintro _ w ⟨rfl,rfl⟩
 refine qV (Ou rfl rfl) (Ly (qV (Ls rfl rfl) (KO rfl (py (KH rfl (It (KM (qN rfl (An rfl (An rfl (La [.tmp 28] z8Z rfl (Ya h) ?_)))))))))))
 rintro _ w ⟨rfl,rfl⟩
 refine La [.tmp 27,.tmp 29,.const (Value.int .i64 4)] ze2 rfl (FI) ?_
 rintro _ w1 ⟨vb,txt1,rfl,ep,kA,eY,qi,aM⟩
 have z1:=aM.size
 have lv:=eY.lt
 have bV:∀j,X j->(X j\/j=vb):=fun j hj=> .inl hj
 have bj:Oa G (Q.Mg (Mz Q.L a 1 true)) txt1 (K+1) (fun b=>X b\/b=vb) w1:=h.zbh aM (fun b e=>e) bV (fun j hj=>hj.imp id fun e=>by omega) (kA.less fun b e=>by rcases e with(e|e)|e;exact .inl (.inl e);exact .inr e;exact .inl (.inr e)) rfl eO (by omega) (fun y h1 h2=>qi y (.inl (by omega)))
 have j4:(List.replicate G.g.length 0).length=G.g.length:=List.length_replicate
 have sY:(List.replicate G.g.length nv).length=G.g.length:=List.length_replicate
 have iV:=VO bj.sp bj.lt1 (by omega) eY (.inl (.inr rfl)) (x:=nv) (by decide)
 rw[j4,show 512 / 4=128 from rfl,nA] at iV
 refine An rfl (qV (Lu rfl rfl) (qV (Lu rfl rfl) (KO rfl (KO rfl (py (Ll.qb (e:=[(1,_),(2,_),(6,_),(7,_),(8,_),(9,_)]) ?_))))))
 refine run_seq (qN rfl (An rfl (qV (M0 rfl rfl) (py (KH rfl (It (run_seq (qN rfl (An rfl (La [.tmp 36,.const (Value.int .u64 4294967295)] zbI rfl (iV) ?_))))))))))
 rintro _ w2 ⟨rfl,txt2,eu,ke,qf,am⟩
 rw[sY,show 512 / 4=128 from rfl,nA] at qf
 have aa:Oa G (Q.Mg (Mz Q.L a 1 true)) txt2 (K+1+1) (fun b=>X b\/b=vb) w2:=bj.VL am (fun b e=> .inl e) eu rfl rfl (by omega) (fun y h1 h2=>qf y (.inl (by omega)))
 have g8:=Xk aa.sp aa.lt1 aa.z1z ke (.inl (.inr rfl)) (i:=root) (x:=0) (by rw[sY];exact hr) (by decide)
 refine KO rfl (qM rfl (An rfl (qV (Mr rfl rfl) (MR (py (L3 rfl (KQ rfl (An rfl (An rfl (La [.tmp 40,.tmp 41,.const (Value.int .u64 0)] zaB rfl (g8) ?_))))))))))
 rintro _ w3 ⟨rfl,txt3,fi,A9,xM,au⟩
 have y5:((List.replicate G.g.length nv).set root 0).length=G.g.length:=by rw[List.length_set,sY]
 rw[y5,show 512 / 4=128 from rfl,nA] at xM
 have ag:Oa G (Q.Mg (Mz Q.L a 1 true)) txt3 (K+1+1+1) (fun b=>X b\/b=vb) w3:=aa.VL au (fun b e=> .inl e) fi rfl rfl (by omega) (fun y h1 h2=>xM y (.inl (by omega)))
 refine KO rfl (py (run_seq (qN rfl (An rfl (qV (M0 rfl rfl) (py (KH rfl (It (qN rfl (An rfl (An rfl (qV (NA (parts:=[(1,.tmp 48),(2,.tmp 49)]) (cs:=[_,_,_,_,_]) zdu rfl zdW rfl rfl) (KU rfl rfl (MH rfl (cs:=bfC 0 false G.k vb false) rfl) ?_)))))))))))))
 rintro _ w4 ⟨rr,rfl,kQ,aB,aJ⟩
 refine KO rfl (KO rfl (py (KP Tryz.func10 rfl ?_)))
 have z2:=am.size
 have z3:=au.size
 have lr:=aJ.lt
 have ae:=ag.grow aB (Y:=fun b=>X b\/b=rr\/b=vb) (fun j hj=>by rcases hj with e|e|e;exact .inl (.inl e);exact .inr (by omega);exact .inl (.inr e)) (fun j hj=>hj.elim .inl fun e=> .inr (.inr e))
 have aO:=h.lt
 have b1:=aO _ h.xk.1
 have b2:=aO _ h.xk.2.1
 have b3:=aO _ h.xk.2.2.1
 have b4:=aO _ h.xk.2.2.2
 refine⟨_,rfl,rr,vb,txt3,rfl,by omega,ep,⟨ae,aJ,A9.ext aB,⟨.inr (.inl rfl),.inr (.inr rfl)⟩,⟨by omega,by omega,by omega,by omega,by omega,by omega,by omega,by omega,by omega⟩,J7,y5,xO,by omega⟩,fun y hy=>?_,?_⟩
 ·rw[xM y (by omega),qf y (by omega),qi y (by omega)]
 ·exact(((aM.L2 fun b e e2=>e (.inl e2)).trans (am.L2 fun b e e2=>e (.inl (.inl e2)))).trans (au.L2 fun b e e2=>e (.inl (.inl e2)))).trans aB.kp
end
def GrR (w:World)(gb go:Nat)(g:List (List Nat)):Prop:=∀(v:Nat) (l:List Nat),g[v]? =some l->∃(a:Option Addr) (c:Nat),w.cell? ⟨gb,go+v*1,none⟩=some (.slice a l.length c)/\∀(i x:Nat),l[i]? =some x->∃lb lo,a=some ⟨lb,lo,none⟩/\w.cell? ⟨lb,lo+i*1,none⟩=some (Lp x)
theorem Mm {w w':World}{a:Addr}{u:Value}(hx:Ext w w')(h:w.cell? a=some u):w'.cell? a=some u:=by
 unfold World.cell? at h⊢
 cases hh:w.heap[a.block]? with
 |none=>rw[hh] at h;simp at h
 |some o=>rw[hx.heap hh id];rw[hh] at h;exact h
theorem GrR.ext {w w':World}{gb go:Nat}{g:List (List Nat)}(h:GrR w gb go g)(hx:Ext w w'):GrR w' gb go g:=fun v l hl=>by
 obtain⟨a,c,h1,h2⟩:=h v l hl
 refine⟨a,c,Mm hx h1,fun i x hi=>?_⟩
 obtain⟨lb,lo,e,h3⟩:=h2 i x hi
 exact⟨lb,lo,e,Mm hx h3⟩
theorem GrM.r {w:World}{v:Value}{g:List (List Nat)}(h:GrM w v g)(h1:1<=g.length):∃gb go gc,v= .slice (some ⟨gb,go,none⟩) g.length gc/\GrR w gb go g:=by
 obtain⟨vs,hr,hv⟩:=h.ex
 rcases hr.2 with⟨c,-,h0⟩|⟨gb,go,gc,e,hc⟩
 ·omega
 ·refine⟨gb,go,gc,e,fun v l hl=>?_⟩;obtain⟨a,c,g1,g2,g3⟩:=hv v l hl;refine⟨a,c,by rw[Nat.mul_one];exact hc v _ g1,fun i x hi=>?_⟩;rcases g3.2 with⟨c',-,h0⟩|⟨lb,lo,lc,e2,eM⟩
  ·have:l=[]:=List.eq_nil_of_length_eq_zero h0;rw[this] at hi;cases hi
  ·cases e2;exact⟨lb,lo,rfl,by rw[Nat.mul_one];exact eM i _ (by rw[List.getElem?_map,hi];rfl)⟩
/-! ### Distances -/
def dI:Option Nat->Int
 |none=>-1
 |some k=>(k:Int)
def Rp (g:List (List Nat))(r t:Nat):Ds:=(List.range t).foldl (fun d t=>lvl t g d) ((List.replicate g.length none).set r (some 0))
theorem TO (g:List (List Nat))(r t:Nat):Rp g r (t+1)=lvl t g (Rp g r t):=by
 unfold Rp
 rw[List.range_succ,List.foldl_append];rfl
theorem PU (g:List (List Nat))(r:Nat):∀t,(Rp g r t).length=g.length
 |0=>by simp[Rp]
 |t+1=>by rw[TO,Vw,PU g r t]
theorem Yq {g:List (List Nat)}(h:N2 g){r:Nat}(hr:r<g.length):∀t,Lev (Vq h) r t (dF (Rp g r t))
 |0=>(BfI.new h hr).lev
 |t+1=>by rw[TO];exact z2f h (PU g r t) (Yq h hr t)
theorem z0X {t:Nat}{d:Ds}{u v k:Nat}(hu:u<d.length)(h:dF d v=some k):dF (NH t d u) v=some k:=by
 rw[YI hu,if_neg]
 ·exact h
 ·rintro⟨rfl,e⟩;rw[h] at e;cases e
theorem Uw {t:Nat}{v k:Nat}:∀(l:List Nat) {d:Ds},(∀u∈l,u<d.length)->dF d v=some k->dF (l.foldl (NH t) d) v=some k
 |[],d,_,h=>h
 | u :: l, d, hl, h => by
   rw[List.foldl_cons];exact Uw l (fun x hx=>by rw[QA];exact hl x (List.mem_cons_of_mem _ hx)) (z0X (hl u List.mem_cons_self) h)
theorem z0W {d:Ds}{u:Nat}(hu:u<d.length):(d.map fun o=>I (dI o))[u]? =some (I (dI (dF d u))):=by
 rw[List.getElem?_map]
 unfold dF
 rw[List.getElem?_eq_getElem hu];rfl
theorem z9r (d:Ds)(u k:Nat):(d.map fun o=>I (dI o)).set u (I (k:Int))=(d.set u (some k)).map fun o=>I (dI o):=by
 rw[List.map_set];rfl
theorem z8F (o:Option Nat)(t:Nat):dI o=(t:Int)↔o=some t:=by
 cases o with
 |none=>exact⟨fun e=>by have e:(-1:Int)=(t:Int):=e;omega,fun e=>by cases e⟩
 |some k=>exact⟨fun e=>by have e:(k:Int)=(t:Int):=e;rw[show k=t by omega],fun e=>by cases e;rfl⟩
def OX (n k:Nat)(a b:Value):List Value:=(List.range n).map fun i=>if i<k then a else b
theorem YN (n:Nat)(a b:Value):OX n 0 a b=List.replicate n b:=by
 apply List.ext_getElem<;>simp[OX]
theorem z0L (n:Nat)(a b:Value):OX n n a b=List.replicate n a:=by
 apply List.ext_getElem
 ·simp[OX]
 ·intro i h1 h2;have:i<n:=by simpa[OX] using h1
  simp[OX,this]
theorem z0K (n k:Nat)(a b:Value):(OX n k a b).set (0+k*1) a=OX n (k+1) a b:=by
 apply List.ext_getElem
 ·simp[OX]
 ·intro j h1 h2;simp only[OX,List.getElem_set,List.getElem_map,List.getElem_range];by_cases vU:j=k
  ·subst vU;simp
  ·rw[if_neg (by omega)];by_cases aO:j<k
   ·rw[if_pos aO,if_pos (by omega)]
   ·rw[if_neg aO,if_neg (by omega)]
theorem WC {g : List (List Nat)}(av : N2 g){r : Nat}(hr : r < g.length){w : World}{gb go gc : Nat}(hg : GrR w gb go g) : Lk Tryz.prog 14 [.slice (some ⟨gb, go, none⟩) g.length gc, I (r : Int)] w fun v w' => ∃ bd, v = .slice (some ⟨bd, 0, none⟩) g.length g.length /\ KY w' bd ((Rp g r g.length).map fun o => I (dI o)) 3 /\ w.heap.size <= bd /\ Ext w w' := by
 have eL:maxLen=9223372036854775807:=rfl
 have hn:=av.n
 refine KJ (e:=[(0,_),(1,_)]) Tryz.func14 rfl Tryz.ntmps14 rfl rfl (qN rfl (KO rfl (qM rfl (An rfl (qV (LM R6 rfl) (KU rfl rfl (pmk (c:=g.length) (n:=g.length) Mw LG rfl rfl rfl (by omega) (by omega) (by omega)) ?_))))))
 rintro _ w1 ⟨bd,rfl,⟨rO,ad,ai⟩,-⟩
 refine KO rfl (py (run_seq (qN rfl (KO rfl (py (KL (Nl (fun e' w'=>e'=[(0,.slice (some ⟨gb,go,none⟩) g.length gc),(1,I (r:Int)),(5,.slice (some ⟨bd,0,none⟩) g.length g.length)]/\KY w' bd (List.replicate g.length (I (-1))) 3/\Ext w w') ?cq (fun cq=>?cJ))))))))
 case cq =>
  rintro e' w2 ⟨rfl,ak,af⟩;refine qN rfl (An rfl (An rfl (qV (LC Mw LG rfl rfl (by omega)) (L0 rfl (Mt LG rfl rfl rfl ak (by simp;omega)) ?_))));rintro w3 ⟨ao,au⟩;have ah:Ext w w3:=af.KK au (fun j e=>by omega)
  replace ao:KY w3 bd ((Rp g r 0).map fun o=>I (dI o)) 3:=by
   have e:(Rp g r 0).map (fun o=>I (dI o))=(List.replicate g.length (I (-1))).set (0+r*1) (I 0):=by
    unfold Rp;rw[Nat.zero_add,Nat.mul_one];show((List.replicate g.length none).set r (some 0)).map _=_;rw[List.map_set,List.map_replicate];rfl
   rw[e];exact ao
  refine py (run_seq (qN rfl (KO rfl (py (KL (MV (α:=Nat) (0) (fun t=>[(0,.slice (some ⟨gb,go,none⟩) g.length gc),(5,.slice (some ⟨bd,0,none⟩) g.length g.length),(7,I (t:Int))]) (fun t w'=>t<=g.length/\KY w' bd ((Rp g r t).map fun o=>I (dI o)) 3/\Ext w w') (fun t=>g.length-t) ?hI ?hround))))))
  case hI=>exact⟨Nat.zero_le _,ao,ah⟩
  case hround =>
   rintro t w4 ⟨ht,aJ,aB⟩ ih
   try dsimp only
   refine run_seq (qN rfl (An rfl (An rfl (qV (LM R6 rfl) (qV (LX rfl rfl) (py (KZ rfl (fun hq=>?_) (fun hq=>?_))))))))
   ·have sC : t < g.length := by omega
    refine It (run_seq (KL (qN rfl (KO rfl (py (KL (MV (α:=Nat) (0) (fun v=>[(0,.slice (some ⟨gb,go,none⟩) g.length gc),(5,.slice (some ⟨bd,0,none⟩) g.length g.length),(7,I (t:Int)),(8,I (v:Int))]) (fun v w'=>v<=g.length/\KY w' bd (((List.range v).foldl (S5 t g) (Rp g r t)).map fun o=>I (dI o)) 3/\Ext w w') (fun v=>g.length-v) ?hI ?hround)))))))
    case hI=>exact⟨Nat.zero_le _,aJ,aB⟩
    case hround =>
     rintro v w5 ⟨hv,aF,aR⟩ ih2
     try dsimp only
     refine run_seq (qN rfl (An rfl (An rfl (qV (LM R6 rfl) (qV (LX rfl rfl) (py (KZ rfl (fun fE=>?_) (fun fE=>?_))))))))
     ·have eU : v < g.length := by omega
      have dW:g[v]? =some (L9 g v):=by unfold L9;rw[List.getElem?_eq_getElem eU];rfl
      obtain⟨D,hD⟩:∃D,(List.range v).foldl (S5 t g) (Rp g r t)=D:=⟨_,rfl⟩;have FJ:D.length=g.length:=by rw[<-hD,PW,PU]
      have eP:(List.range (v+1)).foldl (S5 t g) (Rp g r t)=S5 t g D v:=by rw[List.range_succ,List.foldl_append,hD];rfl
      rw[hD] at aF;have ol:∀u∈L9 g v,u<D.length:=fun u hu=>by rw[FJ];exact OR av v u hu
      have aD:(L9 g v).length<=g.length:=av.len (List.mem_of_getElem? dW);refine It (run_seq (KL (qN rfl (KO rfl (py (KL (MV (α:=Nat) (0) (fun i=>[(0,.slice (some ⟨gb,go,none⟩) g.length gc),(5,.slice (some ⟨bd,0,none⟩) g.length g.length),(7,I (t:Int)),(8,I (v:Int)),(9,I (i:Int))]) (fun i w'=>i<=(L9 g v).length/\(0<i->dF D v=some t)/\KY w' bd ((((L9 g v).take i).foldl (NH t) D).map fun o=>I (dI o)) 3/\Ext w w') (fun i=>(L9 g v).length-i) ?hI ?hround)))))))
      case hI=>exact⟨Nat.zero_le _,fun e=>absurd e (by decide),aF,aR⟩
      case hround =>
       rintro i w6 ⟨hi,WG,aN,aG⟩ ih3;obtain⟨E,hE⟩:∃E,((L9 g v).take i).foldl (NH t) D=E:=⟨_,rfl⟩;have oZ:E.length=g.length:=by rw[<-hE,Pz,FJ]
       rw[hE] at aN;obtain⟨a,c,ff,eM⟩:=hg.ext aG v _ dW;have J8:dF D v=some t->dF E v=some t:=fun e=>by rw[<-hE];exact Uw _ (fun u hu=>ol u (List.mem_of_mem_take hu)) e
       have nS:=z0W (d:=E) (u:=v) (by omega)
       have tr:w6.cell? ⟨bd,0+v*1,none⟩=some (I (dI (dF E v))):=by
        rw[aN.cell,Nat.zero_add,Nat.mul_one];exact nS
       try dsimp only
       refine run_seq (qN rfl (An rfl (An rfl (An rfl (qV (LC R6 OI rfl rfl (by omega)) (qV (Lm Li rfl rfl ff) (qV (LM Li rfl) ?_)))))));by_cases cO:i<(L9 g v).length
       ·by_cases od:dF E v=some t
        ·have J9:dI (dF E v)=(t:Int):=(z8F _ _).2 od;obtain⟨u,hu⟩:∃u,(L9 g v)[i]? =some u:=⟨_,List.getElem?_eq_getElem cO⟩;obtain⟨lb,lo,rfl,y6⟩:=eM i u hu;have sZ:u<g.length:=OR av v u (List.mem_of_getElem? hu)
         have Dy:w6.cell? ⟨bd,0+u*1,none⟩=some (I (dI (dF E u))):=by
          rw[aN.cell,Nat.zero_add,Nat.mul_one];exact z0W (by omega)
         have FK:dF D v=some t:=by
          by_cases h0:0<i
          ·exact WG h0
          ·have:i=0:=by omega
           subst this;rw[<-hE] at od;exact od
         have dD:((L9 g v).take (i+1)).foldl (NH t) D=NH t E u:=by
          rw[LA hu,List.foldl_append,hE];rfl
         refine qV (LX rfl rfl) (MR (An rfl (An rfl (An rfl (qV (LC Mw LG rfl rfl (by omega)) (qV (Lm U3 rfl rfl tr) (An rfl (qV (Mr rfl rfl) (MR (qV (LR rfl rfl) (py (L3 rfl (It ?_)))))))))))));refine run_seq (KL (qN rfl (An rfl (An rfl (An rfl (qV (LC R6 OI rfl rfl (by omega)) (qV (Lm Li rfl rfl ff) (An rfl (qV (LC Li L8 rfl rfl (by omega)) (qV (Lm Mk rfl rfl y6) (qV (LC Mw LG rfl rfl (by omega)) (qV (Lm U3 rfl rfl Dy) ?_))))))))))))
         cases qs:dF E u with
         | none =>
           have Ja:E[u]? =some none:=by
            have h1:=List.getElem?_eq_getElem (l:=E) (i:=u) (by omega);unfold dF at qs;rw[h1] at qs⊢;exact congrArg some qs
           have jV:NH t E u=E.set u (some (t+1)):=by
            unfold NH;rw[if_pos Ja]
           rw[show dI none=-1 from rfl];refine qV (LX rfl rfl) (MR (py (L3 rfl (KQ rfl (An rfl (An rfl (An rfl (qV (LC R6 OI rfl rfl (by omega)) (qV (Lm Li rfl rfl ff) (An rfl (qV (LC Li L8 rfl rfl (by omega)) (qV (Lm Mk rfl rfl y6) (An rfl ?_)))))))))))));refine LH rfl rfl (qV (LC Mw LG rfl rfl (by omega)) ?_);rw[show(t:Int)+1=((t+1:Nat):Int) by omega];refine L0 rfl (Mt LG rfl rfl rfl aN (by simp;omega)) ?_;rintro w7 ⟨bE,aA⟩;rw[Nat.zero_add,Nat.mul_one,z9r,<-jV,<-dD] at bE;refine py (KM (KQ rfl (An rfl (LH rfl rfl (KO rfl (py ?_))))))
           exact(ih3 (i+1) _ ⟨by omega,fun _=>FK,bE,aG.KK aA (fun j e=>by omega)⟩ (by omega)).qb
         | some k =>
           have jV:NH t E u=E:=by
            unfold NH;rw[if_neg];intro e;unfold dF at qs;rw[e] at qs;cases qs
           rw[show dI (some k)=(k:Int) from rfl];refine qV (LX rfl rfl) (Ly (py (KH rfl (It (KM (KQ rfl (An rfl (LH rfl rfl (KO rfl (py ((ih3 (i+1) _ ⟨by omega,fun _=>FK,?_,aG⟩ (by omega)).qb)))))))))));rw[dD,jV];exact aN
        ·have J9:¬dI (dF E v)=(t:Int):=fun e=>od ((z8F _ _).1 e)
         have iG:i=0:=by
          by_cases h0:0<i
          ·exact absurd (J8 (WG h0)) od
          ·omega
         subst iG;have FM:E=D:=hE.symm;refine qV (LX rfl rfl) (MR (An rfl (An rfl (An rfl (qV (LC Mw LG rfl rfl (by omega)) (qV (Lm U3 rfl rfl tr) (An rfl (qV (Mr rfl rfl) (Ly (qV (LR rfl rfl) (py (KH rfl (KX rfl ?_)))))))))))));refine KM (KQ rfl (An rfl (LH rfl rfl (KO rfl (py ((ih2 (v+1) _ ⟨by omega,?_,aG⟩ (by omega)).qb))))));rw[eP];unfold S5;rw[if_neg (by rw[<-FM];exact od),<-FM];exact aN
       ·have uk:i=(L9 g v).length:=by omega
        subst uk;refine qV (LX rfl rfl) (Ly (An rfl (qS (qS (qS (qS (qS (qS (qV (Ls rfl rfl) (py (KH rfl (KX rfl (KM ?_)))))))))))));refine KQ rfl (An rfl (LH rfl rfl (KO rfl (py ((ih2 (v+1) _ ⟨by omega,?_,aG⟩ (by omega)).qb)))));rw[eP];unfold S5;rw[List.take_length] at hE;by_cases od:dF D v=some t
        ·rw[if_pos od,hE];exact aN
        ·rw[if_neg od]
         have h0:(L9 g v).length=0:=by
          rcases Nat.eq_zero_or_pos (L9 g v).length with h| h
          ·exact h
          ·exact absurd (WG h) od
         rw[List.eq_nil_of_length_eq_zero h0] at hE;rw[show D=E from hE];exact aN
     ·have eU:v=g.length:=by omega
      subst eU;refine KX rfl (KM (KQ rfl (An rfl (LH rfl rfl (KO rfl (py ?_))))));exact(ih (t+1) _ ⟨by omega,by rw[TO];exact aF,aR⟩ (by omega)).qb
   ·have sC:t=g.length:=by omega
    subst sC;refine KX rfl (qN rfl (An rfl (KO rfl (py (KP Tryz.func14 rfl ?_)))));exact⟨_,rfl,bd,rfl,aJ,by omega,aB⟩
 case cJ=>
  rw[<-YN g.length (I (-1))] at ai;refine MV (α:=Nat) (0) (fun i=>[(0,.slice (some ⟨gb,go,none⟩) g.length gc),(1,I (r:Int)),(5,.slice (some ⟨bd,0,none⟩) g.length g.length),(6,I (i:Int))]) (fun i w'=>i<=g.length/\KY w' bd (OX g.length i (I (-1)) (I 0)) 3/\Ext w w') (fun i=>g.length-i) ?hI ?hround
  case hI=>exact⟨Nat.zero_le _,ai,ad⟩
  case hround=>
   rintro i w2 ⟨hi,ak,af⟩ ih
   try dsimp only
   refine run_seq (qN rfl (An rfl (An rfl (qV (LM R6 rfl) (qV (LX rfl rfl) (py (KZ rfl (fun hq=>?_) (fun hq=>?_))))))))
   ·refine It (run_seq (KL (KQ rfl (An rfl (An rfl (qV (LC Mw LG rfl rfl (by omega)) (L0 rfl (Mt LG rfl rfl rfl ak (by simp[OX];omega)) ?_)))))));rintro w3 ⟨ao,au⟩;rw[z0K] at ao;refine py (KM (KQ rfl (An rfl (LH rfl rfl (KO rfl (py ?_))))));exact(ih (i+1) _ ⟨by omega,ao,af.KK au (fun j e=>by omega)⟩ (by omega)).qb
   ·have aW:i=g.length:=by omega
    subst aW;rw[z0L] at ak;refine KX rfl ?_;exact(cq _ _ ⟨rfl,ak,af⟩).qb
structure Xa (w:World)(bg B:Nat)(L:List (List Nat)):Prop where
 ex:∃vs:List Value,KY w bg vs 45/\vs.length=L.length/\∀(i:Nat) (l:List Nat),L[i]? =some l->∃(a:Option Addr) (c:Nat),vs[i]? =some (.slice a l.length c)/\l.length<=c/\Rd w (.slice a l.length c) 1 l.length (l.map Lp)/\∀b,(Value.slice a l.length c).ownBlock=some b->B<=b/\b≠bg
section
variable {w w':World}{bg B:Nat}{L:List (List Nat)}
theorem Xa.ext (h:Xa w bg B L)(hx:Ext w w'):Xa w' bg B L:=by
 obtain⟨vs,h1,h2,h3⟩:=h.ex
 refine⟨vs,hx.KN h1,h2,fun i l hl=>?_⟩
 obtain⟨a,c,g1,g2,g3,g4⟩:=h3 i l hl
 exact⟨a,c,g1,g2,g3.ext hx,g4⟩
theorem Xa.new {n:Nat}(h:KY w bg (List.replicate n (.slice none 0 0)) 45):Xa w bg B (List.replicate n []):=
 ⟨_,h,by simp,fun i l hl=>by
  rw[List.getElem?_replicate] at hl;split at hl
  ·rename_i hi
   cases hl;exact⟨none,0,by rw[List.getElem?_replicate,if_pos hi];rfl,Nat.le_refl _,⟨rfl,.inl ⟨(none,0),rfl,rfl⟩⟩,fun b hb=>by cases hb⟩
  ·cases hl⟩
theorem Xa.set (h:Xa w bg B L){f:Nat}{l:List Nat}{a:Option Addr}{c:Nat}(hk:Kp (fun b=>b=bg) w w')(hB:∀vs,KY w bg vs 45->KY w' bg (vs.set (0+f*1) (.slice a l.length c)) 45)(hf:f<L.length)(o3:l.length<=c)(hr:Rd w (.slice a l.length c) 1 l.length (l.map Lp))(ho:∀b,(Value.slice a l.length c).ownBlock=some b->B<=b/\b≠bg):Xa w' bg B (L.set f l):=by
 obtain⟨vs,h1,h2,h3⟩:=h.ex
 refine⟨_,hB vs h1,by simp[h2],fun i l' hl=>?_⟩
 rw[Nat.zero_add,Nat.mul_one]
 by_cases e:f=i
 ·subst e;rw[List.getElem?_set_self hf] at hl;cases hl;exact⟨a,c,List.getElem?_set_self (by rw[h2];exact hf),o3,hr.kp hk (fun b hb e=>(ho b hb).2 e),ho⟩
 ·rw[List.getElem?_set_ne e] at hl;obtain⟨a',c',g1,g2,g3,g4⟩:=h3 i l' hl;exact⟨a',c',by rw[List.getElem?_set_ne e];exact g1,g2,g3.kp hk (fun b hb e=>(g4 b hb).2 e),g4⟩
theorem Xa.gr (h:Xa w bg B L):GrM w (.slice (some ⟨bg,0,none⟩) L.length L.length) L:=by
 obtain⟨vs,h1,h2,h3⟩:=h.ex
 refine⟨vs,⟨by rw[h2,Nat.mul_one],.inr ⟨bg,0,L.length,rfl,fun j u hj=>by rw[h1.cell,Nat.zero_add];exact hj⟩⟩,fun i l hl=>?_⟩
 obtain⟨a,c,g1,g2,g3,g4⟩:=h3 i l hl
 exact⟨a,c,g1,g2,g3⟩
theorem Xa.lt (h:Xa w bg B L):bg<w.heap.size:=by obtain⟨vs,h1,-⟩:=h.ex;exact h1.lt
theorem Xa.cell (h:Xa w bg B L){f:Nat}{l:List Nat}(hf:L[f]? =some l):∃(a:Option Addr) (c:Nat),w.cell? ⟨bg,0+f*1,none⟩=some (.slice a l.length c)/\l.length<=c/\Rd w (.slice a l.length c) 1 l.length (l.map Lp)/\∀b,(Value.slice a l.length c).ownBlock=some b->B<=b/\b≠bg:=by
 obtain⟨vs,h1,h2,h3⟩:=h.ex
 obtain⟨a,c,g1,g2,g3,g4⟩:=h3 f l hf
 exact⟨a,c,by rw[h1.cell,Nat.zero_add,Nat.mul_one];exact g1,g2,g3,g4⟩
def EdR (w:World)(ea:Option Addr)(es:List (Nat×Nat)):Prop:=∀(i:Nat) (e:Nat×Nat),es[i]? =some e->e.1<4294967296/\e.2<4294967296/\∃eb eo,ea=some ⟨eb,eo,none⟩/\w.cell? ⟨eb,eo+i*2+0,none⟩=some (Lp e.1)/\w.cell? ⟨eb,eo+i*2+1,none⟩=some (Lp e.2)
theorem EdR.ext {ea:Option Addr}{es:List (Nat×Nat)}(h:EdR w ea es)(hx:Ext w w'):EdR w' ea es:=fun i e he=>by
 obtain⟨h1,h2,eb,eo,h3,h4,h5⟩:=h i e he
 exact⟨h1,h2,eb,eo,h3,Mm hx h4,Mm hx h5⟩
end
theorem N2.insert {g:List (List Nat)}(h:N2 g){f x k:Nat}{s:List Nat}(hs:g[f]? =some s)(hx:x<g.length)(hk:k<=s.length)(h1:∀y∈s.take k,y<x)(h2:∀y∈s.drop k,x<y):N2 (g.set f (s.take k++[x]++s.drop k)):=by
 have hm:=List.mem_of_getElem? hs
 have t8:=h.ok s hm
 have aO:=h.lt s hm
 have hn:=h.n
 refine⟨fun l hl=>?_,fun l hl y hy=>?_,by rw[List.length_set];exact h.n⟩
 ·rcases List.mem_or_eq_of_mem_set hl with e| e
  ·exact h.ok l e
  ·subst e;refine⟨?_,fun y hy=>?_⟩
   ·have hr:List.Pairwise (·<·) s:=t8.Wb;show List.Pairwise (·<·) _;rw[List.append_assoc,List.pairwise_append];refine⟨hr.sublist (List.take_sublist _ _),?_,fun a ha b hb=>?_⟩
    ·rw[List.singleton_append,List.pairwise_cons];exact⟨h2,hr.sublist (List.drop_sublist _ _)⟩
    ·rw[List.singleton_append] at hb;rcases List.mem_cons.1 hb with e| e
     ·rw[e];exact h1 a ha
     ·exact Nat.lt_trans (h1 a ha) (h2 b e)
   ·rcases List.mem_append.1 hy with e| e
    ·rcases List.mem_append.1 e with e| e
     ·exact t8.lt y (List.mem_of_mem_take e)
     ·rw[List.mem_singleton.1 e];omega
    ·exact t8.lt y (List.mem_of_mem_drop e)
 ·rw[List.length_set];rcases List.mem_or_eq_of_mem_set hl with e| e
  ·exact h.lt l e y hy
  ·subst e;rcases List.mem_append.1 hy with e| e
   ·rcases List.mem_append.1 e with e| e
    ·exact aO y (List.mem_of_mem_take e)
    ·rw[List.mem_singleton.1 e];exact hx
   ·exact aO y (List.mem_of_mem_drop e)
theorem N2.empty {n:Nat}(hn:n<=60):N2 (List.replicate n []):=
 ⟨fun l hl=>by rw[List.eq_of_mem_replicate hl];exact⟨List.Pairwise.nil,fun y h=>(by cases h)⟩,fun l hl y hy=>(by rw[List.eq_of_mem_replicate hl] at hy;cases hy),by simpa using hn⟩
theorem KY.uniq {w:World}{b:Nat}{cs cs':List Value}{T T':TypeId}(h:KY w b cs T)(h':KY w b cs' T'):cs=cs':=by
 obtain⟨fz,h1,-⟩:=h
 obtain⟨fz',h2,-⟩:=h'
 rw[h1] at h2
 have:=ML h2
 injection this with e1 e2 e3
 have:=congrArg Array.toList e1
 simpa using this
theorem z42 {n : Nat}(cG : 1 <= n)(hn : n <= 40){w : World}{ea : Option Addr}{ec : Nat}{es : List (Nat × Nat)}(s0 : es.length <= 9000000000000000000)(hE : EdR w ea es) : Lk Tryz.prog 6 [I (n : Int), .slice ea es.length ec] w fun v w' => ∃ g bg, v = .slice (some ⟨bg, 0, none⟩) g.length g.length /\ g.length = n /\ N2 g /\ Xa w' bg w.heap.size g /\ Ext w w' := by
 have eL:maxLen=9223372036854775807:=rfl
 refine KJ (e:=[(0,_),(1,_)]) Tryz.func6 rfl Tryz.ntmps6 rfl rfl (qN rfl (KO rfl (qM rfl (An rfl (KU rfl rfl (pmk (c:=n) (n:=n) R6 OI rfl rfl rfl (by omega) (by omega) (by omega)) ?_)))))
 rintro _ w1 ⟨bg,rfl,⟨IC,ad,ai⟩,-⟩
 have lL:Xa w1 bg w.heap.size (List.replicate n []):=Xa.new ai
 refine KO rfl (py (run_seq (qN rfl (KO rfl (py (KL (MV (α:=Nat×List (List Nat)) ((0,List.replicate n [])) (fun y=>[(0,I (n:Int)),(1,.slice ea es.length ec),(5,.slice (some ⟨bg,0,none⟩) n n),(6,I (y.1:Int))]) (fun y w'=>y.1<=es.length/\y.2.length=n/\N2 y.2/\Xa w' bg w.heap.size y.2/\Ext w w') (fun y=>es.length-y.1) ?hI ?hround)))))))
 case hI=>exact⟨Nat.zero_le _,by simp,N2.empty (by omega),lL,ad⟩
 case hround =>
  rintro⟨i,g⟩ w2 ⟨hi,dW,av,dj,af⟩ ih;dsimp only at hi dW av dj af ih⊢
  try dsimp only
  refine run_seq (qN rfl (An rfl (An rfl (qV (LM U22 rfl) (qV (LX rfl rfl) (py (KZ rfl (fun hq=>?_) (fun hq=>?_))))))))
  ·have cO : i < es.length := by omega
   obtain⟨e,he⟩:∃e,es[i]? =some e:=⟨_,List.getElem?_eq_getElem cO⟩;obtain⟨e1,e2,eb,eo,rfl,ff,eM⟩:=(hE.ext af) i e he;refine It (run_seq (KL (run_seq (qN rfl (An rfl (An rfl (qV (LC U22 Zl rfl rfl (by omega)) (qV (KT z0l rfl) (qV (Lm Mk rfl rfl ff) (qV (Lw rfl Mk U3 (by omega)) (An rfl ?_)))))))))));by_cases hf:e.1<n
   ·by_cases ht:e.2<n
    ·refine qV (Ou rfl rfl) (Ly (An rfl (An rfl (An rfl (qV (LC U22 Zl rfl rfl (by omega)) (qV (KT VT rfl) (qV (Lm Mk rfl rfl eM) (qV (Lw rfl Mk U3 (by omega)) (An rfl (qV (Ou rfl rfl) (Ly ?_)))))))))));obtain⟨s,hs⟩:∃s,g[e.1]? =some s:=⟨_,List.getElem?_eq_getElem (by omega)⟩;obtain⟨a,c,gB,o3,dV,Ku⟩:=dj.cell hs;have gm:s.length<=n:=by rw[<-dW];exact av.len (List.mem_of_getElem? hs)
     refine qV (Ls rfl rfl) (py (KH rfl (It (qN rfl (An rfl (An rfl (An rfl (qV (LC U22 Zl rfl rfl (by omega)) (qV (KT z0l rfl) (qV (Lm Mk rfl rfl ff) (qV (LC R6 OI rfl rfl (by omega)) (qV (Lm Li rfl rfl gB) (KO rfl ?_)))))))))))));refine qM rfl (KO rfl (py (run_seq (KL ?_))));have sE:List.Pairwise (·<·) s:=(av.ok s (List.mem_of_getElem? hs)).Wb
     have Jb:∀(k y:Nat),s[k]? =some y->∀z∈s.drop k,y<=z:=fun k y hy z hz=>by
      have lQ:k<s.length:=by
       rcases Nat.lt_or_ge k s.length with h| h
       ·exact h
       ·rw[List.getElem?_eq_none h] at hy;cases hy
      have h1:List.Pairwise (·<·) (s.drop k):=sE.sublist (List.drop_sublist _ _);rw[List.drop_eq_getElem_cons lQ] at h1 hz;rw[List.getElem?_eq_getElem lQ] at hy;cases hy;rcases List.mem_cons.1 hz with e| e
      ·omega
      ·exact Nat.le_of_lt ((List.pairwise_cons.1 h1).1 z e)
     refine Nl (fun e' w'=>∃k:Nat,e'=[(0,I (n:Int)),(1,.slice (some ⟨eb,eo,none⟩) es.length ec),(5,.slice (some ⟨bg,0,none⟩) n n),(6,I (i:Int)),(7,.slice a s.length c),(8,I (k:Int))]/\k<=s.length/\(∀y∈s.take k,y<e.2)/\(∀y,s[k]? =some y->e.2<=y)/\Ext w2 w') ?lO (fun lO=>?DD)
     case lO =>
      rintro e' w3 ⟨k,rfl,hk,mW,ip,ah⟩;have ag:=Ext.Lb w3;have ta:=dV.ext ah;have tc:=Mm ah eM;refine run_seq (Lx (fun e' w'=>∃q,e'=[(0,I (n:Int)),(1,.slice (some ⟨eb,eo,none⟩) es.length ec),(5,.slice (some ⟨bg,0,none⟩) n n),(6,I (i:Int)),(7,.slice a s.length c),(8,I (k:Int)),(76,.bool q)]/\(q=true->∀y∈s.drop k,e.2<y)/\Ext w2 w') ?eR (fun eR=>?jQ))
      case eR =>
       rintro e' w4 ⟨q,rfl,sH,aB⟩;have ge:=dj.ext aB;have lI:=dV.ext aB;have Dz:=Mm aB ff;have DA:=Mm aB eM;have cK:=af.trans aB;refine LO rfl (fun zo=>?_) (fun zo=>?_)
       ·have aq:=Ext.Lb w4;have bK:=aq.size;have yU:w.heap.size<=w4.heap.size:=cK.size;have Jc:=ge.lt
        have nB:((s.take k++[e.2])++s.drop k).length=s.length+1:=by
         rw[List.length_append,List.length_append,List.length_take,List.length_drop,List.length_singleton];omega
        have ii:∀(l:List Nat),∀c∈l.map Lp,c.oneCell'=true:=fun l c hc=>by obtain⟨z,-,rfl⟩:=List.mem_map.1 hc;rfl
        have m5:(s.take k).length=k:=by rw[List.length_take];omega
        have Ei:(s.drop k).length=s.length-k:=List.length_drop ..;obtain⟨vs,pJ,sq,-⟩:=id ge.ex;refine Le [23] (fun w'=>Ext w4 w') (by kernel_rfl) rfl (qL [22,23] 0 rfl (fun _ h=>KW rfl) aq (qL [3,4,5,22,23] 1 rfl (fun _ h=>KW rfl) aq (qL [3,4,5,22,23] 2 rfl (fun _ h=>KW rfl) aq (qL [4,5,22,23] 3 rfl (fun _ h=>LC U22 Zl rfl rfl (by omega)) aq (qL [5,22,23] 4 rfl (fun _ h=>KT z0l rfl) aq (qL [9,10,17,21,22,23] 7 rfl (fun _ h=>KW rfl) aq (qL [9,10,17,21,22,23] 8 rfl (fun _ h=>KW rfl) aq (qL [13,14,15,16,17,21,22,23] 11 rfl (fun _ h=>KW rfl) aq (qL [13,14,15,16,17,21,22,23] 12 rfl (fun _ h=>KW rfl) aq (qL [14,15,16,17,21,22,23] 13 rfl (fun _ h=>LC U22 Zl rfl rfl (by omega)) aq (qL [15,16,17,21,22,23] 14 rfl (fun _ h=>KT VT rfl) aq (qL [20,21,22,23] 18 rfl (fun _ h=>KW rfl) aq (qL [20,21,22,23] 19 rfl (fun _ h=>KW rfl) aq ?_)))))))))))));refine qL [22,23] 5 rfl (fun _ h=>Lm Mk rfl rfl (Mm h Dz)) aq (qL [10,17,21,22,23] 9 rfl (fun _ h=>z6P Li L8 rfl rfl (by omega)) aq (qL [16,17,21,22,23] 15 rfl (fun _ h=>Lm Mk rfl rfl (Mm h DA)) aq (qL [21,22,23] 20 rfl (fun _ h=>Ta Li L8 rfl rfl hk o3) aq (S8 (i:=6) (j:=16) (by kernel_rfl) ?_ ?_))))
        ·refine LZ (i:=6) rfl rfl rfl (Tx (parts:=[]) (cs:=[]) (zs:=[]) Li L8 rfl (by kernel_rfl) rfl rfl rfl (by decide)) ?_;rintro v6 w6 ⟨b6,rfl,⟨nN,aG,aN⟩,iI⟩;refine⟨aq.trans aG,?_⟩;have DB:w4.heap.size<=b6:=by omega
         have lb6:=aN.lt;have aq:=aq.trans aG
         try have cS:=cS.ext aG
         have bK:=Nat.le_trans bK aG.size;refine S8 (i:=10) (j:=16) (by kernel_rfl) ?_ ?_
         ·refine LZ (i:=10) rfl rfl rfl (pap Li L8 rfl (by decide) rfl rfl iI ((Q0 (i:=k) lI hk).ext aq) (fun c hc=>ii s c (List.mem_of_mem_take hc)) (by omega) (by omega)) ?_;rintro v10 w10 ⟨c6,ax,cb,-⟩;refine⟨aq.KK ax (fun j e=>by have e:b6=j:=ML e;omega),?_⟩;have aq:=aq.KK ax (fun j e=>by have e:b6=j:=ML e;omega)
          try have cS:=cS.kp ax (fun j hj e=>by have e:b6=j:=ML e;have hj:b16=j:=ML hj;omega)
          have cb:∀j,v10.ownBlock=some j->w4.heap.size<=j:=fun j hj=>by rcases cb j hj with e|e;(have e:b6=j:=ML e;omega);omega
          have bK:=Nat.le_trans bK ax.size;have y7:=fun(j:Nat) (hj:v10.ownBlock=some j)=>c6.lt hj;refine MB (i:=16) (by kernel_rfl) (LZ (i:=16) rfl rfl rfl (Tx (parts:=[(0,.tmp 92)]) (cs:=[_]) (zs:=[Value.int .u32 0]) Li L8 rfl (by kernel_rfl) rfl rfl rfl (by decide)) ?_);rintro v16 w16 ⟨b16,rfl,⟨y8,bF,nC⟩,cS⟩;refine⟨aq.trans bF,?_⟩;have y9:w4.heap.size<=b16:=by omega
          have aq:=aq.trans bF
          try have iI:=iI.ext bF
          try have c6:=c6.ext bF
          have lb16:=nC.lt;have bK:=Nat.le_trans bK bF.size;refine MB (i:=17) (by kernel_rfl) (LZ (i:=17) rfl rfl rfl (pap Li L8 rfl (by decide) rfl rfl c6 cS.rd (fun c hc=>ii [e.2] c hc) (by omega) (by omega)) ?_);rintro v17 w17 ⟨gU,dL,du,-⟩;refine⟨aq.KK dL (fun j e=>cb j e),?_⟩;have aq:=aq.KK dL (fun j e=>cb j e);have du:∀j,v17.ownBlock=some j->w4.heap.size<=j:=fun j hj=>by rcases du j hj with e|e;exact cb j e;omega
          have bK:=Nat.le_trans bK dL.size;refine MB (i:=21) (by kernel_rfl) (LZ (i:=21) rfl rfl rfl (pap Li L8 rfl (by decide) rfl rfl gU ((OO (i:=k) lI hk o3).ext aq) (fun c hc=>ii s c (List.mem_of_mem_drop hc)) (by omega) (by omega)) ?_);rintro v21 w21 ⟨dv,iW,fV,-⟩;refine⟨aq.KK iW (fun j e=>du j e),?_⟩;have aq:=aq.KK iW (fun j e=>du j e);have fV:∀j,v21.ownBlock=some j->w4.heap.size<=j:=fun j hj=>by rcases fV j hj with e|e;exact du j e;omega
          refine qL [23] 22 rfl (fun _ h=>LC R6 OI rfl rfl (by omega)) aq ?_;have iX:=aq.KN pJ;refine LD [23] (by kernel_rfl) (by kernel_rfl) (qO 23 (Lv (i:=23) rfl rfl (Mt OI rfl rfl (RR dv) iX (by rw[sq];omega)) ?_));rintro w23 ⟨ct,dt⟩;refine⟨trivial,?_⟩;refine qE (KM (KQ rfl (An rfl (LH rfl rfl (KO rfl (py ?_))))));rw[show 0+k+1+(s.length-k)=(s.take k++[e.2]++s.drop k).length by rw[nB];omega,show([]++List.take k (s.map Lp)++[Lp e.2]++List.drop k (s.map Lp))=(s.take k++[e.2]++s.drop k).map Lp by simp[List.map_take,List.map_drop]] at dv;obtain⟨ra,rc,rfl,-⟩:=dv.rd.shape
          have ya:(s.take k++[e.2]++s.drop k).length<=rc:=by
           rcases dv.shape with⟨e1,e2⟩|⟨gg,cc,e1,e2⟩
           ·omega
           ·cases e1;exact e2
          have nD:=(ge.ext aq).set dt (f:=e.1) (l:=s.take k++[e.2]++s.drop k) (a:=ra) (c:=rc) (fun vs' h'=>by rw[KY.uniq h' iX];exact ct) (by omega) ya dv.rd (fun j hj=>by have:=fV j hj;omega);have nE:=av.insert hs (x:=e.2) (k:=k) (by omega) hk mW (sH zo);exact(ih (i+1,g.set e.1 (s.take k++[e.2]++s.drop k)) _ ⟨by omega,by rw[List.length_set];exact dW,nE,nD,(cK.trans aq).KK dt (fun j e=>by omega)⟩ (by omega)).qb
         ·refine LZ (i:=16) rfl rfl rfl (Tx (parts:=[(0,.tmp 92)]) (cs:=[_]) (zs:=[Value.int .u32 0]) Li L8 rfl (by kernel_rfl) rfl rfl rfl (by decide)) ?_;rintro v16 w16 ⟨b16,rfl,⟨y8,bF,nC⟩,cS⟩;refine⟨aq.trans bF,?_⟩;have y9:w4.heap.size<=b16:=by omega
          have aq:=aq.trans bF
          try have iI:=iI.ext bF
          try have c6:=c6.ext bF
          have lb16:=nC.lt;have bK:=Nat.le_trans bK bF.size;refine MB (i:=10) (by kernel_rfl) (LZ (i:=10) rfl rfl rfl (pap Li L8 rfl (by decide) rfl rfl iI ((Q0 (i:=k) lI hk).ext aq) (fun c hc=>ii s c (List.mem_of_mem_take hc)) (by omega) (by omega)) ?_);rintro v10 w10 ⟨c6,ax,cb,-⟩;refine⟨aq.KK ax (fun j e=>by have e:b6=j:=ML e;omega),?_⟩;have aq:=aq.KK ax (fun j e=>by have e:b6=j:=ML e;omega)
          try have cS:=cS.kp ax (fun j hj e=>by have e:b6=j:=ML e;have hj:b16=j:=ML hj;omega)
          have cb:∀j,v10.ownBlock=some j->w4.heap.size<=j:=fun j hj=>by rcases cb j hj with e|e;(have e:b6=j:=ML e;omega);omega
          have bK:=Nat.le_trans bK ax.size;have y7:=fun(j:Nat) (hj:v10.ownBlock=some j)=>c6.lt hj;refine MB (i:=17) (by kernel_rfl) (LZ (i:=17) rfl rfl rfl (pap Li L8 rfl (by decide) rfl rfl c6 cS.rd (fun c hc=>ii [e.2] c hc) (by omega) (by omega)) ?_);rintro v17 w17 ⟨gU,dL,du,-⟩;refine⟨aq.KK dL (fun j e=>cb j e),?_⟩;have aq:=aq.KK dL (fun j e=>cb j e);have du:∀j,v17.ownBlock=some j->w4.heap.size<=j:=fun j hj=>by rcases du j hj with e|e;exact cb j e;omega
          have bK:=Nat.le_trans bK dL.size;refine MB (i:=21) (by kernel_rfl) (LZ (i:=21) rfl rfl rfl (pap Li L8 rfl (by decide) rfl rfl gU ((OO (i:=k) lI hk o3).ext aq) (fun c hc=>ii s c (List.mem_of_mem_drop hc)) (by omega) (by omega)) ?_);rintro v21 w21 ⟨dv,iW,fV,-⟩;refine⟨aq.KK iW (fun j e=>du j e),?_⟩;have aq:=aq.KK iW (fun j e=>du j e);have fV:∀j,v21.ownBlock=some j->w4.heap.size<=j:=fun j hj=>by rcases fV j hj with e|e;exact du j e;omega
          refine qL [23] 22 rfl (fun _ h=>LC R6 OI rfl rfl (by omega)) aq ?_;have iX:=aq.KN pJ;refine LD [23] (by kernel_rfl) (by kernel_rfl) (qO 23 (Lv (i:=23) rfl rfl (Mt OI rfl rfl (RR dv) iX (by rw[sq];omega)) ?_));rintro w23 ⟨ct,dt⟩;refine⟨trivial,?_⟩;refine qE (KM (KQ rfl (An rfl (LH rfl rfl (KO rfl (py ?_))))));rw[show 0+k+1+(s.length-k)=(s.take k++[e.2]++s.drop k).length by rw[nB];omega,show([]++List.take k (s.map Lp)++[Lp e.2]++List.drop k (s.map Lp))=(s.take k++[e.2]++s.drop k).map Lp by simp[List.map_take,List.map_drop]] at dv;obtain⟨ra,rc,rfl,-⟩:=dv.rd.shape
          have ya:(s.take k++[e.2]++s.drop k).length<=rc:=by
           rcases dv.shape with⟨e1,e2⟩|⟨gg,cc,e1,e2⟩
           ·omega
           ·cases e1;exact e2
          have nD:=(ge.ext aq).set dt (f:=e.1) (l:=s.take k++[e.2]++s.drop k) (a:=ra) (c:=rc) (fun vs' h'=>by rw[KY.uniq h' iX];exact ct) (by omega) ya dv.rd (fun j hj=>by have:=fV j hj;omega);have nE:=av.insert hs (x:=e.2) (k:=k) (by omega) hk mW (sH zo);exact(ih (i+1,g.set e.1 (s.take k++[e.2]++s.drop k)) _ ⟨by omega,by rw[List.length_set];exact dW,nE,nD,(cK.trans aq).KK dt (fun j e=>by omega)⟩ (by omega)).qb
        ·refine LZ (i:=16) rfl rfl rfl (Tx (parts:=[(0,.tmp 92)]) (cs:=[_]) (zs:=[Value.int .u32 0]) Li L8 rfl (by kernel_rfl) rfl rfl rfl (by decide)) ?_;rintro v16 w16 ⟨b16,rfl,⟨y8,bF,nC⟩,cS⟩;refine⟨aq.trans bF,?_⟩;have y9:w4.heap.size<=b16:=by omega
         have aq:=aq.trans bF
         try have iI:=iI.ext bF
         try have c6:=c6.ext bF
         have lb16:=nC.lt;have bK:=Nat.le_trans bK bF.size;refine MB (i:=6) (by kernel_rfl) (LZ (i:=6) rfl rfl rfl (Tx (parts:=[]) (cs:=[]) (zs:=[]) Li L8 rfl (by kernel_rfl) rfl rfl rfl (by decide)) ?_);rintro v6 w6 ⟨b6,rfl,⟨nN,aG,aN⟩,iI⟩;refine⟨aq.trans aG,?_⟩;have DB:w4.heap.size<=b6:=by omega
         have lb6:=aN.lt;have aq:=aq.trans aG
         try have cS:=cS.ext aG
         have bK:=Nat.le_trans bK aG.size;refine MB (i:=10) (by kernel_rfl) (LZ (i:=10) rfl rfl rfl (pap Li L8 rfl (by decide) rfl rfl iI ((Q0 (i:=k) lI hk).ext aq) (fun c hc=>ii s c (List.mem_of_mem_take hc)) (by omega) (by omega)) ?_);rintro v10 w10 ⟨c6,ax,cb,-⟩;refine⟨aq.KK ax (fun j e=>by have e:b6=j:=ML e;omega),?_⟩;have aq:=aq.KK ax (fun j e=>by have e:b6=j:=ML e;omega)
         try have cS:=cS.kp ax (fun j hj e=>by have e:b6=j:=ML e;have hj:b16=j:=ML hj;omega)
         have cb:∀j,v10.ownBlock=some j->w4.heap.size<=j:=fun j hj=>by rcases cb j hj with e|e;(have e:b6=j:=ML e;omega);omega
         have bK:=Nat.le_trans bK ax.size;have y7:=fun(j:Nat) (hj:v10.ownBlock=some j)=>c6.lt hj;refine MB (i:=17) (by kernel_rfl) (LZ (i:=17) rfl rfl rfl (pap Li L8 rfl (by decide) rfl rfl c6 cS.rd (fun c hc=>ii [e.2] c hc) (by omega) (by omega)) ?_);rintro v17 w17 ⟨gU,dL,du,-⟩;refine⟨aq.KK dL (fun j e=>cb j e),?_⟩;have aq:=aq.KK dL (fun j e=>cb j e);have du:∀j,v17.ownBlock=some j->w4.heap.size<=j:=fun j hj=>by rcases du j hj with e|e;exact cb j e;omega
         have bK:=Nat.le_trans bK dL.size;refine MB (i:=21) (by kernel_rfl) (LZ (i:=21) rfl rfl rfl (pap Li L8 rfl (by decide) rfl rfl gU ((OO (i:=k) lI hk o3).ext aq) (fun c hc=>ii s c (List.mem_of_mem_drop hc)) (by omega) (by omega)) ?_);rintro v21 w21 ⟨dv,iW,fV,-⟩;refine⟨aq.KK iW (fun j e=>du j e),?_⟩;have aq:=aq.KK iW (fun j e=>du j e);have fV:∀j,v21.ownBlock=some j->w4.heap.size<=j:=fun j hj=>by rcases fV j hj with e|e;exact du j e;omega
         refine qL [23] 22 rfl (fun _ h=>LC R6 OI rfl rfl (by omega)) aq ?_;have iX:=aq.KN pJ;refine LD [23] (by kernel_rfl) (by kernel_rfl) (qO 23 (Lv (i:=23) rfl rfl (Mt OI rfl rfl (RR dv) iX (by rw[sq];omega)) ?_));rintro w23 ⟨ct,dt⟩;refine⟨trivial,?_⟩;refine qE (KM (KQ rfl (An rfl (LH rfl rfl (KO rfl (py ?_))))));rw[show 0+k+1+(s.length-k)=(s.take k++[e.2]++s.drop k).length by rw[nB];omega,show([]++List.take k (s.map Lp)++[Lp e.2]++List.drop k (s.map Lp))=(s.take k++[e.2]++s.drop k).map Lp by simp[List.map_take,List.map_drop]] at dv;obtain⟨ra,rc,rfl,-⟩:=dv.rd.shape
         have ya:(s.take k++[e.2]++s.drop k).length<=rc:=by
          rcases dv.shape with⟨e1,e2⟩|⟨gg,cc,e1,e2⟩
          ·omega
          ·cases e1;exact e2
         have nD:=(ge.ext aq).set dt (f:=e.1) (l:=s.take k++[e.2]++s.drop k) (a:=ra) (c:=rc) (fun vs' h'=>by rw[KY.uniq h' iX];exact ct) (by omega) ya dv.rd (fun j hj=>by have:=fV j hj;omega);have nE:=av.insert hs (x:=e.2) (k:=k) (by omega) hk mW (sH zo);exact(ih (i+1,g.set e.1 (s.take k++[e.2]++s.drop k)) _ ⟨by omega,by rw[List.length_set];exact dW,nE,nD,(cK.trans aq).KK dt (fun j e=>by omega)⟩ (by omega)).qb
       ·refine It (KM (KQ rfl (An rfl (LH rfl rfl (KO rfl (py ?_))))));exact(ih (i+1,g) _ ⟨by omega,dW,av,ge,cK⟩ (by omega)).qb
      case jQ=>
       refine KV (fun w'=>Ext w3 w') (by kernel_rfl) rfl (KR 0 rfl (KW rfl) ag (KR 1 rfl (KW rfl) ag (KR 2 rfl (LM Li rfl) ag ?_)));by_cases oC:k=s.length
       ·refine KR 3 rfl (Mr rfl rfl) ag (OL (KR 4 rfl (KW rfl) ag (qJ 5 rfl (ag) (qJ 6 rfl (ag) (qJ 7 rfl (ag) (qJ 8 rfl (ag) (qJ 9 rfl (ag) (qJ 10 rfl (ag) (qJ 11 rfl (ag) (qJ 12 rfl (ag) (qJ 13 rfl (ag) (qJ 14 rfl (ag) (KR 15 rfl (LR rfl rfl) ag ?_)))))))))))));refine qE ?_;exact(eR _ _ ⟨true,rfl,fun _ y hy=>(by rw[oC,List.drop_length] at hy;cases hy),ah.trans ag⟩).qb
       ·obtain⟨y,hy⟩:∃y,s[k]? =some y:=⟨_,List.getElem?_eq_getElem (by omega)⟩;rcases ta.2 with⟨⟨ca,cc⟩,iv,tR⟩|⟨lb,lo,cap,iv,ew⟩
        ·omega
        cases iv;have DC:w3.cell? ⟨lb,lo+k*1,none⟩=some (Lp y):=ew (k*1) _ (by rw[Nat.mul_one,List.getElem?_map,hy];rfl);refine KR 3 rfl (Mr rfl rfl) ag (PA (KR 4 rfl (KW rfl) ag (KR 5 rfl (KW rfl) ag (KR 6 rfl (KW rfl) ag (KR 7 rfl (LC Li L8 rfl rfl (by omega)) ag (KR 9 rfl (KW rfl) ag (KR 10 rfl (KW rfl) ag (KR 11 rfl (LC U22 Zl rfl rfl (by omega)) ag (KR 12 rfl (KT VT rfl) ag (qT 8 rfl (fun _ h=>Lm Mk rfl rfl (Mm h DC)) ag (qT 13 rfl (fun _ h=>Lm Mk rfl rfl (Mm h tc)) ag ?_)))))))))));have zm:=ip y hy;by_cases Ea:y=e.2
        ·refine KR 14 rfl (M0 rfl rfl) ag (PA (KR 15 rfl (Ls rfl rfl) ag (qE ?_)));exact(eR _ _ ⟨false,rfl,fun e=>(by cases e),ah.trans ag⟩).qb
        ·refine KR 14 rfl (M0 rfl rfl) ag (OL (KR 15 rfl (Ls rfl rfl) ag (qE ?_)));exact(eR _ _ ⟨true,rfl,fun _ z hz=>(by have:=Jb k y hy z hz;omega),ah.trans ag⟩).qb
     case DD=>
      refine MV (α:=Nat) (0) (fun k=>[(0,I (n:Int)),(1,.slice (some ⟨eb,eo,none⟩) es.length ec),(5,.slice (some ⟨bg,0,none⟩) n n),(6,I (i:Int)),(7,.slice a s.length c),(8,I (k:Int))]) (fun k w'=>k<=s.length/\(∀y∈s.take k,y<e.2)/\Ext w2 w') (fun k=>s.length-k) ?hI ?hround
      case hI=>exact⟨Nat.zero_le _,fun y hy=>(by simp at hy),Ext.refl _⟩
      case hround=>
       rintro k w3 ⟨hk,mW,ah⟩ ih2;have ag:=Ext.Lb w3;have ta:=dV.ext ah;have tc:=Mm ah eM
       try dsimp only
       refine run_seq (run_seq (KV (fun w'=>Ext w3 w') (by kernel_rfl) rfl (KR 0 rfl (KW rfl) ag (KR 1 rfl (KW rfl) ag (KR 2 rfl (LM Li rfl) ag ?_)))));by_cases lQ:k<s.length
       ·obtain⟨y,hy⟩:∃y,s[k]? =some y:=⟨_,List.getElem?_eq_getElem lQ⟩;rcases ta.2 with⟨⟨ca,cc⟩,iv,tR⟩|⟨lb,lo,cap,iv,ew⟩
        ·omega
        cases iv;have DC:w3.cell? ⟨lb,lo+k*1,none⟩=some (Lp y):=ew (k*1) _ (by rw[Nat.mul_one,List.getElem?_map,hy];rfl);refine KR 3 rfl (LX rfl rfl) ag (OL (KR 4 rfl (KW rfl) ag (KR 5 rfl (KW rfl) ag (KR 6 rfl (KW rfl) ag (KR 7 rfl (LC Li L8 rfl rfl (by omega)) ag (KR 9 rfl (KW rfl) ag (KR 10 rfl (KW rfl) ag (KR 11 rfl (LC U22 Zl rfl rfl (by omega)) ag (KR 12 rfl (KT VT rfl) ag (qT 8 rfl (fun _ h=>Lm Mk rfl rfl (Mm h DC)) ag (qT 13 rfl (fun _ h=>Lm Mk rfl rfl (Mm h tc)) ag ?_)))))))))));by_cases zm:y<e.2
        ·refine KR 14 rfl (LX rfl rfl) ag (OL (KR 15 rfl (LR rfl rfl) ag (qE (L3 rfl (It (KL (KQ rfl (An rfl (LH rfl rfl (KO rfl (py (KM ((ih2 (k+1) _ ⟨by omega,fun z hz=>?_,ah.trans ag⟩ (by omega)).qb)))))))))))));rw[LA hy] at hz;rcases List.mem_append.1 hz with e'|e'
         ·exact mW z e'
         ·rw[List.mem_singleton.1 e'];exact zm
        ·refine KR 14 rfl (LX rfl rfl) ag (PA (KR 15 rfl (LR rfl rfl) ag (qE (KH rfl (KX rfl ?_)))));exact(lO _ _ ⟨k,rfl,hk,mW,fun z hz=>(by rw[hy] at hz;cases hz;omega),ah.trans ag⟩).qb
       ·refine KR 3 rfl (LX rfl rfl) ag (PA (KR 4 rfl (KW rfl) ag (qJ 5 rfl (ag) (qJ 6 rfl (ag) (qJ 7 rfl (ag) (qJ 8 rfl (ag) (qJ 9 rfl (ag) (qJ 10 rfl (ag) (qJ 11 rfl (ag) (qJ 12 rfl (ag) (qJ 13 rfl (ag) (qJ 14 rfl (ag) (KR 15 rfl (Ls rfl rfl) ag ?_)))))))))))));refine qE (KH rfl (KX rfl ?_));exact(lO _ _ ⟨k,rfl,hk,mW,fun z hz=>(by rw[List.getElem?_eq_none (by omega)] at hz;cases hz),ah.trans ag⟩).qb
    ·refine qV (Ou rfl rfl) (Ly (An rfl (An rfl (An rfl (qV (LC U22 Zl rfl rfl (by omega)) (qV (KT VT rfl) (qV (Lm Mk rfl rfl eM) (qV (Lw rfl Mk U3 (by omega)) (An rfl (qV (Ou rfl rfl) (MR (qV (Ls rfl rfl) (py ?_)))))))))))));refine L3 rfl (KX rfl (KQ rfl (An rfl (LH rfl rfl (KO rfl (py ?_))))));exact(ih (i+1,g) _ ⟨by omega,dW,av,dj,af⟩ (by omega)).qb
   ·refine qV (Ou rfl rfl) (MR (An rfl (qS (qS (qS (qS (qS (qS (qS (qS (qV (LR rfl rfl) (py (L3 rfl ?_)))))))))))));refine KX rfl (KQ rfl (An rfl (LH rfl rfl (KO rfl (py ?_)))));exact(ih (i+1,g) _ ⟨by omega,dW,av,dj,af⟩ (by omega)).qb
  ·refine KX rfl (qN rfl (An rfl (KO rfl (py (KP Tryz.func6 rfl ?_)))));exact⟨_,rfl,g,bg,by rw[dW];rfl,dW,av,dj,af⟩
def Qn (g:List (List Nat))(v i u:Nat):List Nat:=(List.range v).filter (fun x=>decide (u∈L9 g x))++(if u∈(L9 g v).take i then [v] else [])
def Pu (g:List (List Nat))(v i:Nat):List (List Nat):=(List.range g.length).map (Qn g v i)
def Sa (g:List (List Nat)):List (List Nat):=Pu g g.length 0
theorem z1p (g:List (List Nat))(v u:Nat):Qn g v (L9 g v).length u=Qn g (v+1) 0 u:=by
 unfold Qn
 rw[List.take_length,List.range_succ,List.filter_append]
 by_cases h:u∈L9 g v<;>simp[h]
theorem Oi (g:List (List Nat))(v i:Nat):(Pu g v i).length=g.length:=by simp[Pu]
theorem Qr (g:List (List Nat))(v i:Nat){u:Nat}(hu:u<g.length):(Pu g v i)[u]? =some (Qn g v i u):=by
 unfold Pu
 rw[List.getElem?_map,List.getElem?_range hu];rfl
theorem z3a (g:List (List Nat))(v i u:Nat):(Qn g v i u).length<=v+1:=by
 unfold Qn
 have h1:=List.length_filter_le (fun x=>decide (u∈L9 g x)) (List.range v)
 rw[List.length_range] at h1
 rw[List.length_append]
 split<;>simp<;>omega
theorem z2V {g:List (List Nat)}(av:N2 g){v i u:Nat}(hu:(L9 g v)[i]? =some u):(Pu g v i).set u (Qn g v i u++[v])=Pu g v (i+1):=by
 have sZ:=OR av v u (List.mem_of_getElem? hu)
 have fh:u∉(L9 g v).take i:=fun h=>by
  have eU:v<g.length:=by
   rcases Nat.lt_or_ge v g.length with h| h
   ·exact h
   ·unfold L9 at hu;rw[List.getElem?_eq_none h] at hu;cases hu
  have hr:List.Pairwise (·<·) (L9 g v):=by
   unfold L9;rw[List.getElem?_eq_getElem eU];exact(av.ok _ (List.getElem_mem eU)).Wb
  have h2:=LA hu;have h3:List.Pairwise (·<·) ((L9 g v).take (i+1)):=hr.sublist (List.take_sublist _ _);rw[h2,List.pairwise_append] at h3;have:=h3.2.2 u h u List.mem_cons_self;omega
 apply List.ext_getElem?
 intro x
 by_cases hx:u=x
 ·subst hx;rw[List.getElem?_set_self (by rw[Oi];exact sZ),Qr _ _ _ sZ]
  congr 1
  unfold Qn;rw[if_neg fh,List.append_nil,LA hu,if_pos (by simp)]
 ·rw[List.getElem?_set_ne hx];by_cases nx:x<g.length
  ·rw[Qr _ _ _ nx,Qr _ _ _ nx]
   congr 1
   unfold Qn
   congr 1
   rw[LA hu]
   have:x∈(L9 g v).take i++[u]↔x∈(L9 g v).take i:=by
    rw[List.mem_append,List.mem_singleton];exact⟨fun e=>e.resolve_right fun e=>hx e.symm,.inl⟩
   simp only[this]
  ·rw[List.getElem?_eq_none (by rw[Oi];omega),List.getElem?_eq_none (by rw[Oi];omega)]
theorem z3p (g:List (List Nat)){u:Nat}(hu:u<g.length):(Sa g)[u]? =some ((List.range g.length).filter fun x=>decide (u∈L9 g x)):=by
 unfold Sa
 rw[Qr _ _ _ hu]
 unfold Qn
 rw[List.take_zero,if_neg (by simp),List.append_nil]
theorem Tl (g:List (List Nat)):(Sa g).length=g.length:=Oi _ _ _
theorem z6q {g:List (List Nat)}(h:N2 g):N2 (Sa g):=by
 have hl:=Tl g
 have fQ:∀l∈Sa g,∃u,l=(List.range g.length).filter fun x=>decide (u∈L9 g x):=fun l hm=>by
  obtain⟨u,hu⟩:=List.getElem?_of_mem hm
  have sZ:u<g.length:=by
   rcases Nat.lt_or_ge u g.length with h| h
   ·exact h
   ·rw[List.getElem?_eq_none (by omega)] at hu;cases hu
  rw[z3p g sZ] at hu;exact⟨u,(ML hu).symm⟩
 have hn:=h.n
 refine⟨fun l hm=>?_,fun l hm y hy=>?_,by omega⟩
 ·obtain⟨u,rfl⟩:=fQ l hm;exact⟨(List.pairwise_lt_range).sublist List.filter_sublist,fun y hy=>by have:=List.mem_range.1 (List.mem_filter.1 hy).1;omega⟩
 ·obtain⟨u,rfl⟩:=fQ l hm;have:=List.mem_range.1 (List.mem_filter.1 hy).1;omega
structure RwA (w:World)(bg B:Nat)(L:List (List Nat)):Prop where
 ex:∃vs:List Value,KY w bg vs 45/\vs.length=L.length/\(∀(i:Nat) (l:List Nat),L[i]? =some l->∃v:Value,vs[i]? =some v/\Sl w v 46 1 l.length (l.map Lp)/\∀b,v.ownBlock=some b->B<=b/\b≠bg)/\∀(i j:Nat) (vi vj:Value) (b:Nat),i≠j->vs[i]? =some vi->vs[j]? =some vj->vi.ownBlock=some b->vj.ownBlock≠some b
section
variable {w w':World}{bg B:Nat}{L:List (List Nat)}
theorem RwA.new {n:Nat}(h:KY w bg (List.replicate n (.slice none 0 0)) 45):RwA w bg B (List.replicate n []):=by
 refine⟨_,h,by simp,fun i l hl=>?_,fun i j vi vj b _ hi _ hb=>?_⟩
 ·rw[List.getElem?_replicate] at hl;split at hl
  ·rename_i hi
   cases hl;exact⟨.slice none 0 0,by rw[List.getElem?_replicate,if_pos hi],Sl.nil w _ 1,fun b hb=>by cases hb⟩
  ·cases hl
 ·have:=List.mem_of_getElem? hi;rw[List.eq_of_mem_replicate this] at hb;cases hb
theorem RwA.rw (h:RwA w bg B L):Xa w bg B L:=by
 obtain⟨vs,h1,h2,h3,h4⟩:=h.ex
 refine⟨vs,h1,h2,fun i l hl=>?_⟩
 obtain⟨v,g1,g2,g3⟩:=h3 i l hl
 obtain⟨a,c,rfl,-⟩:=g2.rd.shape
 refine⟨a,c,g1,?_,g2.rd,g3⟩
 rcases g2.shape with⟨e1,e2⟩|⟨gg,cc,e1,e2⟩
 ·omega
 ·cases e1;exact e2
theorem RwA.put {w2:World}(h:RwA w bg B L){u:Nat}{l l':List Nat}{v v':Value}{vs:List Value}(pJ:KY w bg vs 45)(hu:L[u]? =some l)(hv:vs[u]? =some v)(hk:Kp (fun b=>v.ownBlock=some b) w w')(hS:Sl w' v' 46 1 l'.length (l'.map Lp))(ho:∀b,v'.ownBlock=some b->v.ownBlock=some b\/w.heap.size<=b)(am:Kp (fun b=>b=bg) w' w2)(hB:KY w2 bg (vs.set (0+u*1) v') 45)(tC:B<=w.heap.size):RwA w2 bg B (L.set u l'):=by
 obtain⟨vs0,h1,h2,h3,h4⟩:=h.ex
 have e0:=h1.uniq pJ
 subst e0
 rw[Nat.zero_add,Nat.mul_one] at hB
 obtain⟨v0,g1,g2,g3⟩:=h3 u l hu
 rw[hv] at g1
 cases g1
 have eN:=h1.lt
 have ol:u<L.length:=by
  rcases Nat.lt_or_ge u L.length with h| h
  ·exact h
  ·rw[List.getElem?_eq_none h] at hu;cases hu
 have ym:∀b,v'.ownBlock=some b->B<=b/\b≠bg:=fun b hb=>by
  rcases ho b hb with e| e
  ·exact g3 b e
  ·omega
 have aO:∀(j:Nat) (vj:Value) (b:Nat),vs0[j]? =some vj->vj.ownBlock=some b->b<w.heap.size:=fun j vj b hj hb=>by
  obtain⟨lj,Jd⟩:∃lj,L[j]? =some lj:=⟨_,List.getElem?_eq_getElem (by
   rw[<-h2];rcases Nat.lt_or_ge j vs0.length with h| h
   ·exact h
   ·rw[List.getElem?_eq_none h] at hj;cases hj)⟩
  obtain⟨vj',k1,k2,-⟩:=h3 j lj Jd;rw[hj] at k1;cases k1;exact k2.lt hb
 refine⟨_,hB,by simp[h2],fun i li hl=>?_,fun i j vi vj b gI hi hj hb=>?_⟩
 ·by_cases e:u=i
  ·subst e;rw[List.getElem?_set_self ol] at hl;cases hl;exact⟨v',List.getElem?_set_self (by rw[h2];exact ol),hS.kp am (fun b hb e=>(ym b hb).2 e),ym⟩
  ·rw[List.getElem?_set_ne e] at hl;obtain⟨vi,k1,k2,k3⟩:=h3 i li hl;exact⟨vi,by rw[List.getElem?_set_ne e];exact k1,(k2.kp hk (fun b hb e2=>h4 u i v vi b e hv k1 e2 hb)).kp am (fun b hb e=>(k3 b hb).2 e),k3⟩
 ·by_cases ei:u=i
  ·subst ei;rw[List.getElem?_set_self (by rw[h2];exact ol)] at hi;cases hi;rw[List.getElem?_set_ne gI] at hj;intro bT;rcases ho b hb with e| e
   ·exact h4 u j v vj b gI hv hj e bT
   ·have:=aO j vj b hj bT;omega
  ·rw[List.getElem?_set_ne ei] at hi;by_cases ej:u=j
   ·subst ej;rw[List.getElem?_set_self (by rw[h2];exact ol)] at hj;cases hj;intro bT;rcases ho b bT with e| e
    ·exact h4 i u vi v b gI hi hv hb e
    ·have:=aO i vi b hi hb;omega
   ·rw[List.getElem?_set_ne ej] at hj;exact h4 i j vi vj b gI hi hj hb
end
theorem z0c {g:List (List Nat)}(av:N2 g){w:World}{gb go gc:Nat}(hg:GrR w gb go g):Lk Tryz.prog 26 [.slice (some ⟨gb,go,none⟩) g.length gc] w fun v w'=>∃bt,v= .slice (some ⟨bt,0,none⟩) g.length g.length/\Xa w' bt w.heap.size (Sa g)/\Ext w w':=by
 have eL:maxLen=9223372036854775807:=rfl
 have hn:=av.n
 refine KJ (e:=[(0,_)]) Tryz.func26 rfl Tryz.ntmps26 rfl rfl (qN rfl (KO rfl (qM rfl (An rfl (qV (LM R6 rfl) (KU rfl rfl (pmk (c:=g.length) (n:=g.length) R6 OI rfl rfl rfl (by omega) (by omega) (by omega)) ?_))))))
 rintro _ w1 ⟨bt,rfl,⟨pd,ad,ai⟩,-⟩
 have lL:RwA w1 bt w.heap.size (Pu g 0 0):=by
  have e:Pu g 0 0=List.replicate g.length []:=by
   apply List.ext_getElem<;>simp[Pu,Qn]
  rw[e];exact RwA.new ai
 refine KO rfl (py (run_seq (qN rfl (KO rfl (py (KL (MV (α:=Nat) (0) (fun v=>[(0,.slice (some ⟨gb,go,none⟩) g.length gc),(3,.slice (some ⟨bt,0,none⟩) g.length g.length),(4,I (v:Int))]) (fun v w'=>v<=g.length/\RwA w' bt w.heap.size (Pu g v 0)/\Ext w w') (fun v=>g.length-v) ?hI ?hround)))))))
 case hI=>exact⟨Nat.zero_le _,lL,ad⟩
 case hround =>
  rintro v w2 ⟨hv,dj,af⟩ ih
  try dsimp only
  refine run_seq (qN rfl (An rfl (An rfl (qV (LM R6 rfl) (qV (LX rfl rfl) (py (KZ rfl (fun hq=>?_) (fun hq=>?_))))))))
  ·have eU:v<g.length:=by omega
   have dW:g[v]? =some (L9 g v):=by unfold L9;rw[List.getElem?_eq_getElem eU];rfl
   have gm:(L9 g v).length<=g.length:=av.len (List.mem_of_getElem? dW);refine It (run_seq (KL (qN rfl (KO rfl (py (KL (MV (α:=Nat) (0) (fun i=>[(0,.slice (some ⟨gb,go,none⟩) g.length gc),(3,.slice (some ⟨bt,0,none⟩) g.length g.length),(4,I (v:Int)),(5,I (i:Int))]) (fun i w'=>i<=(L9 g v).length/\RwA w' bt w.heap.size (Pu g v i)/\Ext w w') (fun i=>(L9 g v).length-i) ?hI ?hround)))))))
   case hI=>exact⟨Nat.zero_le _,dj,af⟩
   case hround=>
    rintro i w3 ⟨hi,o9,ah⟩ ih2;obtain⟨a,c,ff,eM⟩:=hg v _ dW;have ag:=Ext.Lb w3
    try dsimp only
    refine run_seq (qN rfl (An rfl (An rfl (An rfl (qV (LC R6 OI rfl rfl (by omega)) (qV (Lm Li rfl rfl (Mm ah ff)) (qV (LM Li rfl) (qV (LX rfl rfl) (py (KZ rfl (fun fE=>?_) (fun fE=>?_)))))))))))
    ·obtain⟨u,hu⟩:∃u,(L9 g v)[i]? =some u:=⟨_,List.getElem?_eq_getElem (by omega)⟩;obtain⟨lb,lo,rfl,y6⟩:=eM i u hu;have sZ:u<g.length:=OR av v u (List.mem_of_getElem? hu);have FN:=Qr g v i sZ;have me:=z3a g v i u;obtain⟨vs,pJ,sq,jh,Je⟩:=id o9.ex;obtain⟨vu,FO,Jf,zp⟩:=jh u _ FN
     have Dy:∀{w':World},Kp (fun b=>vu.ownBlock=some b) w3 w'->w'.cell? ⟨bt,0+u*1,none⟩=some vu:=fun hk=>by
      rw[(hk.KN pJ (fun e=>(zp _ e).2 rfl)).cell,Nat.zero_add,Nat.mul_one];exact FO
     have z3:=ah.size;refine It (run_seq (KL ?_));have zr:∀{w':World},Kp (fun b=>vu.ownBlock=some b) w3 w'->Ext w w':=fun hk=>ah.KK hk (fun b e=>(zp b e).1);refine Le [23] (fun w'=>Kp (fun b=>vu.ownBlock=some b) w3 w') (by kernel_rfl) rfl (qL [22,23] 0 rfl (fun _ h=>KW rfl) (ag.kp) (qL [3,4,6,7,22,23] 1 rfl (fun _ h=>KW rfl) (ag.kp) (qL [3,4,6,7,22,23] 2 rfl (fun _ h=>KW rfl) (ag.kp) (qL [4,6,7,22,23] 3 rfl (fun _ h=>LC R6 OI rfl rfl (by omega)) (ag.kp) (qL [6,7,22,23] 5 rfl (fun _ h=>KW rfl) (ag.kp) (qL [16,17,21,22,23] 8 rfl (fun _ h=>KW rfl) (ag.kp) (qL [11,12,14,15,16,17,21,22,23] 9 rfl (fun _ h=>KW rfl) (ag.kp) (qL [11,12,14,15,16,17,21,22,23] 10 rfl (fun _ h=>KW rfl) (ag.kp) (qL [12,14,15,16,17,21,22,23] 11 rfl (fun _ h=>LC R6 OI rfl rfl (by omega)) (ag.kp) (qL [14,15,16,17,21,22,23] 13 rfl (fun _ h=>KW rfl) (ag.kp) (qL [19,20,21,22,23] 18 rfl (fun _ h=>KW rfl) (ag.kp) (qL [20,21,22,23] 19 rfl (fun _ h=>Zv rfl U3 Mk) (ag.kp) (qL [6,7,22,23] 4 rfl (fun _ h=>Lm Li rfl rfl (Mm (zr h) ff)) (ag.kp) ?_)))))))))))));refine qL [14,15,16,17,21,22,23] 12 rfl (fun _ h=>Lm Li rfl rfl (Mm (zr h) ff)) (ag.kp) (qL [7,22,23] 6 rfl (fun _ h=>LC Li L8 rfl rfl (by omega)) (ag.kp) (qL [15,16,17,21,22,23] 14 rfl (fun _ h=>LC Li L8 rfl rfl (by omega)) (ag.kp) (qL [22,23] 7 rfl (fun _ h=>Lm Mk rfl rfl (Mm (zr h) y6)) (ag.kp) (qL [16,17,21,22,23] 15 rfl (fun _ h=>Lm Mk rfl rfl (Mm (zr h) y6)) (ag.kp) (qL [17,21,22,23] 16 rfl (fun _ h=>LC R6 OI rfl rfl (by omega)) (ag.kp) (qL [21,22,23] 17 rfl (fun _ h=>Lm Li rfl rfl (Dy h)) (ag.kp) ?_))))));rw[Nat.mod_eq_of_lt (show v<4294967296 by omega)];refine MB (i:=20) (by kernel_rfl) (LZ (i:=20) rfl rfl rfl (Tx (parts:=[(0,.tmp 43)]) (cs:=[_]) (zs:=[Value.int .u32 0]) Li L8 rfl (by kernel_rfl) rfl rfl rfl (by decide)) ?_);rintro v4 w4 ⟨b4,rfl,⟨gh,aB,aJ⟩,dU⟩;refine⟨ag.kp.trans aB.kp,?_⟩;have cY:=ag.trans aB;refine MB (i:=21) (by kernel_rfl) (LZ (i:=21) rfl rfl rfl (pap Li L8 rfl (by decide) rfl rfl (Jf.ext cY) dU.rd (fun c hc=>by obtain⟨z,-,rfl⟩:=List.mem_map.1 (show c∈[v].map Lp from hc);rfl) (by omega) (by omega)) ?_);rintro v5 w5 ⟨gd,aj,rD,-⟩;refine⟨cY.kp.trans aj,?_⟩;have iU:Kp (fun b=>vu.ownBlock=some b) w3 w5:=cY.kp.trans aj;have z34:=cY.size;have DE:=iU.KN pJ (fun e=>(zp _ e).2 rfl);refine qL [23] 22 rfl (fun _ h=>LC R6 OI rfl rfl (by omega)) (cY.kp.trans aj) (LD [23] (by kernel_rfl) (by kernel_rfl) (qO 23 (Lv (i:=23) rfl rfl (Mt OI rfl rfl (RR gd) DE (by rw[sq,Oi];omega)) ?_)));rintro w6 ⟨aN,aT⟩;refine⟨trivial,?_⟩;have kr:=o9.put (l':=Qn g v i u++[v]) pJ FN FO iU (by rw[List.length_append,List.map_append];exact gd) (fun b hb=>(rD b hb).imp id fun e=>by omega) aT aN z3;rw[z2V av hu] at kr;refine qE (KM (KQ rfl (An rfl (LH rfl rfl (KO rfl (py ?_))))));exact(ih2 (i+1) _ ⟨by omega,kr,(ah.KK iU (fun b e=>(zp b e).1)).KK aT (fun b e=>by omega)⟩ (by omega)).qb
    ·have cO:i=(L9 g v).length:=by omega
     subst cO;refine KX rfl (KM (KQ rfl (An rfl (LH rfl rfl (KO rfl (py ?_))))))
     have e:Pu g v (L9 g v).length=Pu g (v+1) 0:=by
      unfold Pu;exact List.map_congr_left fun u _=>z1p g v u
     exact(ih (v+1) _ ⟨by omega,by rw[<-e];exact o9,ah⟩ (by omega)).qb
  ·have eU:v=g.length:=by omega
   subst eU;refine KX rfl (qN rfl (An rfl (KO rfl (py (KP Tryz.func26 rfl ?_)))));exact⟨_,rfl,bt,rfl,dj.rw,af⟩
theorem XI (z:Int)(hz: -9223372036854775808<=z/\z<=9223372036854775807)(w:World):Lk Tryz.prog 7 [I z] w fun v w'=>∃n:Nat,v=I (n:Int)/\1<=n/\n<=40/\w'=w:=by
 have r1:=PG z 40 (by decide)
 have r2:=RD z 40 (by decide)
 refine KJ (e:=[(0,_)]) Tryz.func7 rfl Tryz.ntmps7 rfl rfl (qN rfl (KO rfl (qM rfl (An rfl (qV (yrt rfl rfl (by decide)) (LH rfl rfl (qV (yrt rfl rfl (by decide)) ?_)))))))
 rw[show(z.tmod 40+40).tmod 40=nrm z 40 from rfl]
 refine LH rfl rfl (KO rfl (py (KP Tryz.func7 rfl ?_)))
 exact⟨_,rfl,(1+nrm z 40).toNat,by rw[Int.toNat_of_nonneg (by omega)];rfl,by omega,by omega,rfl⟩
def z27:LW:=⟨7,3,3,3,64⟩
def z1O:LW:=⟨0,0,2,1,64⟩
def z2b:LW:=⟨2,1,4,2,3⟩
theorem ZK (z:Int)(hz: -9223372036854775808<=z/\z<=9223372036854775807)(w:World):Lk Tryz.prog 25 [I z] w fun v w'=>∃p:LW,v=bpV p/\p.M3/\p.zeta<=3/\Ext w w':=by
 have r1:=PG z 3 (by decide)
 have r2:=RD z 3 (by decide)
 refine KJ (e:=[(0,_)]) Tryz.func25 rfl Tryz.ntmps25 rfl rfl (qN rfl (KU rfl rfl (N3 (cs:=[_,_,_,_,_]) MP rfl) ?_))
 rintro _ w1 ⟨b2,rfl,bT,ad,ai⟩
 refine qM rfl (qV (NA (parts:=[(0,.const (Value.int .i64 7)),(1,.const (Value.int .i64 3)),(2,.const (Value.int .i64 3)),(3,.const (Value.int .i64 3)),(4,.const (Value.int .i64 64))]) (cs:=[_,_,_,_,_]) MP rfl z7J rfl rfl) (qV (NA (parts:=[(0,.const (Value.int .i64 0)),(1,.const (Value.int .i64 0)),(2,.const (Value.int .i64 2)),(3,.const (Value.int .i64 1)),(4,.const (Value.int .i64 64))]) (cs:=[_,_,_,_,_]) MP rfl z7J rfl rfl) (qV (NA (parts:=[(0,.const (Value.int .i64 2)),(1,.const (Value.int .i64 1)),(2,.const (Value.int .i64 4)),(3,.const (Value.int .i64 2)),(4,.const (Value.int .i64 3))]) (cs:=[_,_,_,_,_]) MP rfl z7J rfl rfl) (KU rfl rfl (Tx (parts:=[(0,.tmp 3),(1,.tmp 4),(2,.tmp 5)]) (cs:=[_,_,_,_,_,_,_,_,_,_,_,_,_,_,_]) (zs:=[Value.int .i64 0,Value.int .i64 0,Value.int .i64 0,Value.int .i64 0,Value.int .i64 0,Value.int .i64 0,Value.int .i64 0,Value.int .i64 0,Value.int .i64 0,Value.int .i64 0,Value.int .i64 0,Value.int .i64 0,Value.int .i64 0,Value.int .i64 0,Value.int .i64 0]) z7o MP rfl (by kernel_rfl) rfl rfl rfl (by decide)) ?_))))
 rintro _ w2 ⟨b3,rfl,⟨dZ,af,ak⟩,-⟩
 refine An rfl (qV (yrt rfl rfl (by decide)) (LH rfl rfl (qV (yrt rfl rfl (by decide)) ?_)))
 rw[show(z.tmod 3+3).tmod 3=nrm z 3 from rfl]
 have gP:=af.KN ai
 have DF:nrm z 3=((0:Nat):Int)\/nrm z 3=((1:Nat):Int)\/nrm z 3=((2:Nat):Int):=by omega
 have lb:=ai.lt
 rcases DF with e|e| e
 ·rw[e];refine qV (LC z7o MP rfl rfl (by omega)) (qV (Lj (news:=Qf z27) VA rfl MP rfl (KY.cells (i:=0+0*5) (n:=5) ak rfl) rfl) (L0 rfl (Lz (news:=Qf z27) MP rfl rfl rfl rfl gP (by simp)) ?_));rintro w3 ⟨ao,au⟩;refine py (Lh Tryz.func25 (.cell VA rfl MP rfl (KY.cells (n:=5) ao (news:=[_,_,_,_,_]) rfl) rfl .nil) ?_);exact⟨_,rfl,z27,rfl,by unfold LW.M3 Nc.M3 z27 LW.list;decide,by decide,(ad.trans af).KK au (fun j e=>by omega)⟩
 ·rw[e];refine qV (LC z7o MP rfl rfl (by omega)) (qV (Lj (news:=Qf z1O) VA rfl MP rfl (KY.cells (i:=0+1*5) (n:=5) ak rfl) rfl) (L0 rfl (Lz (news:=Qf z1O) MP rfl rfl rfl rfl gP (by simp)) ?_));rintro w3 ⟨ao,au⟩;refine py (Lh Tryz.func25 (.cell VA rfl MP rfl (KY.cells (n:=5) ao (news:=[_,_,_,_,_]) rfl) rfl .nil) ?_);exact⟨_,rfl,z1O,rfl,by unfold LW.M3 Nc.M3 z1O LW.list;decide,by decide,(ad.trans af).KK au (fun j e=>by omega)⟩
 ·rw[e];refine qV (LC z7o MP rfl rfl (by omega)) (qV (Lj (news:=Qf z2b) VA rfl MP rfl (KY.cells (i:=0+2*5) (n:=5) ak rfl) rfl) (L0 rfl (Lz (news:=Qf z2b) MP rfl rfl rfl rfl gP (by simp)) ?_));rintro w3 ⟨ao,au⟩;refine py (Lh Tryz.func25 (.cell VA rfl MP rfl (KY.cells (n:=5) ao (news:=[_,_,_,_,_]) rfl) rfl .nil) ?_);exact⟨_,rfl,z2b,rfl,by unfold LW.M3 Nc.M3 z2b LW.list;decide,by decide,(ad.trans af).KK au (fun j e=>by omega)⟩
theorem Rb {L:List Bool}{s n:Nat}{b:Bool}(h:s+n<=L.length)(i:Nat):(Mz L s n b)[i]? =if s<=i/\i<s+n then some b else L[i]? :=by
 unfold Mz
 have hl:(L.take s).length=s:=by rw[List.length_take];omega
 by_cases h1:i<s
 ·rw[if_neg (by omega),List.getElem?_append_left (by omega),List.getElem?_take_of_lt h1]
 ·rw[List.getElem?_append_right (by omega),hl];by_cases h2:i<s+n
  ·rw[if_pos (by omega),List.getElem?_append_left (by rw[List.length_replicate];omega),List.getElem?_replicate,if_pos (by omega)]
  ·rw[if_neg (by omega),List.getElem?_append_right (by rw[List.length_replicate];omega),List.length_replicate,List.getElem?_drop]
   congr 1
   omega
theorem Z8 {L:List Bool}{a n:Nat}(h:ZX L a)(hn:a+n<=L.length):ZX (Mz L a n true) (a+n):=by
 have h2:=h.a2
 refine⟨by omega,by rw[My hn];exact hn,fun i h1 h3=>?_,fun i h1 h3=>?_⟩
 ·rw[Rb hn];split
  ·rfl
  ·exact h.tk i h1 (by omega)
 ·rw[My hn] at h3;rw[Rb hn,if_neg (by omega)];exact h.fr i (by omega) h3
theorem z3e {L:List Bool}{a n:Nat}(h:ZX L a)(hn:a+n<=L.length):Mz (Mz L a n true) a n false=L:=by
 have h1:=My (b:=true) hn
 have h4:=My (b:=false) (L:=Mz L a n true) (s:=a) (n:=n) (by omega)
 apply List.ext_getElem?
 intro i
 rw[Rb (by omega),Rb hn]
 by_cases hi:a<=i/\i<a+n
 ·rw[if_pos hi];exact(h.fr i hi.1 (by omega)).symm
 ·rw[if_neg hi,if_neg hi]
theorem Yi {Q:N1}{txt:Int->Bytes}{K:Nat}{X:Nat->Prop}{w:World}(hP:Sp Q txt K X w)(hX:∀b,X b->b<w.heap.size)(hK:K<=90000000000)(x1:X 1)(x2:X 2)(hG:KY w 1 (NM .gamma) 298)(hU:KY w 2 (NM .unary) 298){g:List (List Nat)}(av:N2 g)(bj:1<=g.length)(nF:g.length<=40){ga:Option Addr}{gc:Nat}(lR:GrM w (.slice ga g.length gc) g){p:LW}(hp:p.M3)(hz:p.zeta<=3){a:Nat}(ha:ZX Q.L a)(eT:a+72<=Q.L.length):
  Lk Tryz.prog 24 [ptr Q.s 0,.slice ga g.length gc,bpV p] w fun v w'=>∃(G:GwP) (txt':Int->Bytes),v= .tuple #[ptr G.k 0,.bool true]/\G.g=g/\G.st=a/\G.len<=72/\1<=G.len/\(w.heap.size<=G.k/\w.heap.size<=G.x/\w.heap.size<=G.rb)/\Oa G (Q.Mg (Mz Q.L a G.len true)) txt' (K+200) (fun j=>X j\/j=G.x\/j=G.k) w'/\(∀y:Int,y<(a:Int)\/(a:Int)+(G.len:Int)<=y->txt' y=txt y)/\Kp (fun b=>¬X b) w w':=by
 have dS:=hP.n
 refine KJ (e:=[(0,_),(1,_),(2,_)]) Tryz.func24 rfl Tryz.ntmps24 rfl rfl (qN rfl (KU rfl rfl (MH rfl (cs:=Qf p) rfl) ?_))
 rintro _ w1 ⟨bp,rfl,Kv,ad,oI⟩
 refine KO rfl (KO rfl (qM rfl (An rfl (qV (Lj (news:=Qf p) VA rfl MP rfl (KY.cells (i:=0) (n:=5) oI rfl) rfl) (La [.tmp 16,.tmp 17] zd5 rfl (z1k hp av bj (lR.ext ad) (ad.KN hG) (ad.KN hU)) ?_)))))
 rintro _ w2 ⟨E,Jg,rfl,af⟩
 have yM:NY p g E:=⟨hp,av,bj,Jg⟩
 have Jh:=z6j yM nF hz
 obtain⟨T,hT⟩:∃T,Sy p g E=T:=⟨_,rfl⟩
 rw[hT] at Jh⊢
 have aI:=ad.trans af
 have eu:=hP.ext' aI
 refine An rfl (qV (Lu rfl rfl) (qV (Lu rfl rfl) (KO rfl (KO rfl (py (run_seq (qN rfl (An rfl (qV (M0 rfl rfl) (py (KH rfl (It (qN rfl ?_)))))))))))))
 refine An rfl (La [.tmp 24] YT rfl (eu.size) ?_)
 rintro _ w2 ⟨rfl,rfl⟩
 refine An rfl (qV (R1 U9 rfl) (La [.tmp 25,.tmp 27] zd7 rfl (XA T.length (by omega) _) ?_))
 rintro _ w2 ⟨rfl,rfl⟩
 obtain⟨N,hN⟩:∃N,(T.length+523) / 512=N:=⟨_,rfl⟩
 rw[hN]
 have jR:1<=N/\N<=72/\T.length<=N*512-12:=by omega
 refine An rfl (qV (Lu rfl rfl) (qV (Lu rfl rfl) (KO rfl (KO rfl (py (Ll.qb (e:=[(0,_),(6,_),(7,_),(8,_),(9,_),(10,_)]) ?_))))))
 refine run_seq (qN rfl (An rfl (qV (M0 rfl rfl) ?_)))
 have fZ:∀b,X b->b<w2.heap.size:=fun b hb=>by have:=hX b hb;have:=aI.size;omega
 refine py (KH rfl (It (qN rfl (An rfl (An rfl (La [.tmp 34,.tmp 35] zc2 rfl (eu.take fZ ha jR.1 (by omega)) ?_))))))
 rintro _ w3 ⟨rfl,fi,au⟩
 have eO:(Mz Q.L a N true).length=Q.L.length:=My (by omega)
 obtain⟨Q3,zt⟩:∃Q3,Q.Mg (Mz Q.L a N true)=Q3:=⟨_,rfl⟩
 rw[zt] at fi
 have uE:Q3.s=Q.s:=by rw[<-zt];rfl
 have Kw:Q3.L.length=Q.L.length:=by rw[<-zt];exact eO
 rw[<-uE]
 have z3:=au.size
 have o4:∀b,X b->b<w3.heap.size:=fun b hb=>by have:=fZ b hb;omega
 refine An rfl (qV (Lu rfl rfl) (qV (Lu rfl rfl) (KU rfl rfl (N3 (cs:=[_,_]) Nh rfl) ?_)))
 rintro _ w4 ⟨be,rfl,Fa,aB,eC⟩
 refine L0 rfl (Lz (news:=[I (a:Int),I (N:Int)]) Nh rfl rfl rfl rfl eC (by simp)) ?_
 rintro w5 ⟨nG,aj⟩
 replace nG:KY w5 be [I (a:Int),I (N:Int)] 97:=nG
 have ce:Ext w3 w5:=aB.KK aj (fun j e=>by omega)
 refine KO rfl (py (run_seq (qN rfl (An rfl (qV (M0 rfl rfl) ?_)))))
 have gE:Sp Q3 txt K (fun b=>X b\/b=be) w5:=fi.ext ce (fun b e=>e.imp id fun e=>by omega)
 refine py (KH rfl (It (qN rfl (An rfl (qV (Lj (news:=[I (a:Int),I (N:Int)]) YE rfl Nh rfl (KY.cells (i:=0) (n:=2) nG rfl) rfl) (La [.tmp 42,.tmp 43] zed rfl (XS gE jR.1 (by omega)) ?_))))))
 rintro _ w6 ⟨wb,bs,bx,bw,sum,rfl,gl,yb,⟨z1',z2',z3',z4'⟩,aG⟩
 have z5:=ce.size
 have z6:=aG.size
 have lbe:=nG.lt
 obtain⟨X6,jU⟩:∃X6:Nat->Prop,(fun b=>X b\/b=be\/b=wb\/b=bs\/b=bx\/b=bw)=X6:=⟨_,rfl⟩
 have gA:∀b,X b->X6 b:=fun b hb=>by rw[<-jU];exact .inl hb
 have aW:X6 wb/\X6 bs/\X6 bx/\X6 bw:=by rw[<-jU];exact⟨.inr (.inr (.inl rfl)),.inr (.inr (.inr (.inl rfl))),.inr (.inr (.inr (.inr (.inl rfl)))),.inr (.inr (.inr (.inr (.inr rfl))))⟩
 have DG:X6 be:=by rw[<-jU];exact .inr (.inl rfl)
 have pC:Sp Q3 txt K X6 w6:=gE.ext aG (fun b e=>by
  rw[<-jU] at e;rcases e with e|e| e
  ·exact .inl (.inl e)
  ·exact .inl (.inr e)
  ·exact .inr (by omega))
 have l1:=yb.wr.lt
 have l2:=yb.sb.lt
 have l3:=yb.xb.lt
 have l4:=yb.pb.lt
 have pK:∀b,X6 b->b<w6.heap.size:=fun b e=>by
  rw[<-jU] at e;rcases e with e| e
  ·have:=o4 b e;omega
  ·omega
 have DH:be≠wb:=by omega
 refine An rfl (qV (Lu rfl rfl) (qV (Lu rfl rfl) (KO rfl (KO rfl (py (run_seq (qN rfl (An rfl (qV (M0 rfl rfl) (An rfl (An rfl (An rfl (La [.tmp 50,.tmp 51] zdc rfl (Zg pC pK (by omega) yb gl aW (by omega) jR.1 jR.2.2) ?_)))))))))))))
 rintro _ w7 ⟨rfl,sum7,qz,txt7,rest,xI,gQ,gK,DI,DJ,aA,qZ⟩
 have z7:=aA.size
 refine qV (M0 rfl rfl) (qV (Ls rfl rfl) (An rfl (An rfl (La [.tmp 56] zei rfl (ZM xI (fun b e=>by have:=pK b e;omega) (by omega) gQ qz aW (by omega) hN.symm (by rw[show T.length%512=T.length-512*(T.length / 512) by omega];exact gK) (fun b hb e=>by have:=pK b e;have:=qZ b hb;omega) DI) ?_))))
 rintro _ w8 ⟨rfl,txt8,o6,DK,DL,xV,bh⟩
 have z8:=bh.size
 have ou:Kp (fun b=>¬X6 b\/b=wb) w6 w8:=aA.trans bh
 have DM:=ou.KN (aG.KN nG) (fun e=>e.elim (fun e=>e DG) DH)
 refine qV (M0 rfl rfl) (qV (Ls rfl rfl) (py (Ll.qb (e:=[(0,_),(6,_),(7,_),(9,_),(11,_),(59,_)]) ?_)))
 refine KH rfl (It (qN rfl (An rfl (qV (Lj (news:=[I (a:Int),I (N:Int)]) YE rfl Nh rfl (KY.cells (i:=0) (n:=2) DM rfl) rfl) (La [.tmp 61,.tmp 62] zdg rfl (z11 o6 (fun b e=>by have:=pK b e;omega) (by omega) jR.1 (by omega) jR.2.2 qz DL) ?_)))))
 rintro _ w9 ⟨rb,rfl,yd,As,qw,aL⟩
 have z9:=aL.size
 have lrb:=yd.lt
 have hL:Laid txt8 a T:=Laid.of fun k hk=>⟨qw.W8 (by omega) (by omega),DK k hk⟩
 subst hT
 have hO:StO Q3 txt8 (K+(Sy p g E).length / 512+2) a N (Sy p g E):=⟨by omega,by omega,hL,by omega⟩
 have rj:Kp (fun b=>¬X b) w w6:=(aI.kp.trans au).trans (ce.trans aG).kp
 have md:Kp (fun b=>¬X b) w w8:=rj.KK ou fun b e=>by
  rcases e with e| e
  ·exact .inr fun e2=>e (gA b e2)
  ·exact .inl (by have:=aI.size;omega)
 have lH:Kp (fun b=>¬X b) w w9:=md.trans (aL.L2 fun b e e2=>e (gA b e2))
 have z2:=aI.size
 have pD:¬X rb:=fun e=>by have:=hX rb e;omega
 have hI:(z3F hO rb sum7).inv X w9:=⟨qw.less (fun b e=>e.imp (gA b) id),yd,pD⟩
 refine An rfl (qV (Lu rfl rfl) (qV (Lu rfl rfl) (KO rfl (KO rfl (py (run_seq (qN rfl (An rfl (qV (M0 rfl rfl) (py (KH rfl (It (qN rfl ?_)))))))))))))
 refine An rfl (La [.tmp 69] zdO rfl (z1j yM hO hI (fun b e=>by have:=hX b e;omega) x1 x2 (lH.KN hG (fun e=>e x1)) (lH.KN hU (fun e=>e x2))) ?_)
 rintro _ w10 ⟨k,x,rfl,zf,nx,Ji,ax⟩
 refine An rfl (qV (Lu rfl rfl) (qV (Lu rfl rfl) (KO rfl (KO rfl (qM rfl (An rfl (An rfl (qV (Mr rfl rfl) (MR (An rfl (An rfl (qV (ZB Z6 rfl rfl) (qV (LR rfl rfl) ?_)))))))))))))
 refine KO rfl (KO rfl (py (Ll.qb (e:=[(6,_),(7,_)]) ?_)))
 refine KP Tryz.func24 rfl (⟨_,rfl,⟨p,g,E,a,N,rb,sum7,k,x⟩,txt8,rfl,rfl,rfl,jR.2.1,jR.1,⟨by show w.heap.size<=k;omega,by show w.heap.size<=x;omega,by show w.heap.size<=rb;omega⟩,?_,fun y hy=>?_,lH.trans ax⟩)
 ·rw[zt];exact Oa.more (G:=⟨p,g,E,a,N,rb,sum7,k,x⟩) ⟨hO,Ji⟩ (by omega) (by omega)
 ·show txt8 y=txt y;have hy:y<(a:Int)\/(a:Int)+(N:Int)<=y:=hy;rw[xV y hy,DJ y (by omega)]
structure Wd where
 d:Nat
 Q:N1
 txt:Int->Bytes
 K:Nat
 G:GwP
 T:GwP
 a:Nat
def Wd.v (W:Wd):List Value:=[ptr W.d 0,ptr W.Q.s 0,ptr W.G.k 0,ptr W.T.k 0,I ((200-W.a:Nat):Int)]
structure WdM (W:Wd)(g:List (List Nat))(XX:Nat->Prop)(w:World):Prop where
 hg:Oa W.G W.Q W.txt W.K (fun b=>XX b/\b≠W.G.rb) w
 ht:Oa W.T W.Q W.txt W.K (fun b=>XX b/\b≠W.T.rb) w
 gg:W.G.g=g
 tg:W.T.g=Sa g
 pre:ZX W.Q.L W.a
 a:W.a<=146
 L:W.Q.L.length=200
 K:W.K<=400
 gs:W.G.st+W.G.len<=W.T.st
 ts:W.T.st+W.T.len<=W.a
theorem z2w {w:World}{g:List (List Nat)}(av:N2 g)(bj:1<=g.length)(nF:g.length<=40){ga:Option Addr}{gc:Nat}(lR:GrM w (.slice ga g.length gc) g)(hG:KY w 1 (NM .gamma) 298)(hU:KY w 2 (NM .unary) 298)(fr fo:Int)(lP: -9223372036854775808<=fr/\fr<=9223372036854775807)(DN: -9223372036854775808<=fo/\fo<=9223372036854775807):
  Lk Tryz.prog 8 [.slice ga g.length gc,I fr,I fo] w fun v w'=>∃(W:Wd) (XX:Nat->Prop),v= .tuple #[.agg W.v.toArray,.bool true]/\WdM W g XX w'/\Ext w w'/\∀b,b<w.heap.size->XX b/\b≠W.G.rb/\b≠W.T.rb:=by
 have r1:=PG fr 12 (by decide)
 have r2:=RD fr 12 (by decide)
 have l1:=hG.lt
 have l2:=hU.lt
 refine KJ (e:=[(0,_),(1,_),(2,_)]) Tryz.func8 rfl Tryz.ntmps8 rfl rfl (qN rfl (KU rfl rfl (N3 (cs:=[_,_,_,_,_]) ZL rfl) ?_))
 rintro _ w1 ⟨bW,rfl,Kx,ad,FP⟩
 have z1:=ad.size
 have lW:=FP.lt
 refine KO rfl (qM rfl (qV (NA (parts:=[(0,.const (Value.int .i64 200)),(1,.const (Value.int .i64 1))]) (cs:=[_,_]) z6i rfl zdM rfl rfl) (La [.tmp 19] zdk rfl (z7M 200 1 _ (by unfold Ug;decide)) ?_)))
 rintro _ w2 ⟨d,Fd,rfl,hD,af,Jj⟩
 refine An rfl (qV (Lu rfl rfl) (qV (Lu rfl rfl) (KO rfl (KO rfl (qM rfl (La [.const (Value.int .i64 2),.const (Value.int .i64 200)] ze7 rfl (z2L 200 (by decide) _) ?_))))))
 rintro _ w3 ⟨m,gi,rfl,hE,hm,s6,ah⟩
 have z2:=af.size
 have z3:=ah.size
 have Jk:=hD.ext ah
 refine An rfl (qV (Lu rfl rfl) (qV (Lu rfl rfl) (KO rfl (KO rfl (qM rfl (An rfl (An rfl (qV (yrt rfl rfl (by decide)) (LH rfl rfl (qV (yrt rfl rfl (by decide)) ?_))))))))))
 rw[show(fr.tmod 12+12).tmod 12=nrm fr 12 from rfl]
 obtain⟨nf,Jl,DO,Jm⟩:∃nf:Nat,1+nrm fr 12=(nf:Int)/\1<=nf/\nf<=12:=⟨(1+nrm fr 12).toNat,by omega,by omega,by omega⟩
 refine LH rfl rfl ?_
 rw[Jl]
 have gC:(List.replicate 200 false).length=200:=List.length_replicate
 have Jn:¬Fd m/\¬Fd gi:=⟨fun e=>by have:=hD.lt _ e;omega,fun e=>by have:=hD.lt _ e;omega⟩
 refine An rfl (La [.tmp 28,.tmp 33,.tmp 34] zcZ rfl (z3S (L:=List.replicate 200 false) (by rw[gC];exact Jk) hE Jn nf DO (by omega)) ?_)
 rintro _ w4 ⟨P,rfl,hM,hI,Jo,Jp,FQ,Jq,aB⟩
 have z4:=aB.size
 have cK:Ext w w4:=((ad.trans af).trans ah).trans aB
 have DP:=((af.trans ah).trans aB).KN FP
 obtain⟨X,hX⟩:∃X:Nat->Prop,(fun b=>b<w.heap.size\/b=bW)=X:=⟨_,rfl⟩
 have DQ:∀b,X b->b<w1.heap.size:=fun b e=>by rw[<-hX] at e;omega
 have nH:∀b,b<w.heap.size->X b:=fun b e=>by rw[<-hX];exact .inl e
 have zu:X bW:=by rw[<-hX];exact .inr rfl
 have kN:Sp P (fun _=>zeros 512) 0 X w4:=⟨P,hM,hI,⟨rfl,rfl,rfl,rfl,rfl,rfl,rfl,rfl,rfl⟩,fun b hb e=>by
  have:=DQ b e;rcases Jq b hb with e|e|e| e
  ·have:=Jj b e;omega
  ·omega
  ·omega
  ·omega⟩
 have kJ:ZX P.L 2:=by
  rw[FQ];exact⟨Nat.le_refl _,by rw[gC];omega,fun i h1 h2=>by omega,fun i h1 h2=>by rw[gC] at h2;rw[List.getElem?_replicate,if_pos h2]⟩
 have Kz:P.L.length=200:=by rw[FQ,gC]
 refine An rfl (qV (Lu rfl rfl) (qV (Lu rfl rfl) (KO rfl (KO rfl (py (Ll.qb (e:=[(0,_),(2,_),(6,_),(7,_),(8,_),(9,_),(10,_),(11,_),(12,_),(13,_)]) ?_))))))
 refine run_seq (qN rfl (An rfl (qV (M0 rfl rfl) (Ly (An rfl (An rfl (qV (M0 rfl rfl) (Ly (qV (Ls rfl rfl) (An rfl (An rfl (qV (M0 rfl rfl) (Ly ?_)))))))))))))
 refine qV (Ls rfl rfl) (An rfl (An rfl (qV (LQ S4 rfl rfl) (qV (Ls rfl rfl) (py (KH rfl (It (qN rfl (An rfl (An rfl (An rfl (La [.tmp 56] zay rfl (ZK fo DN _) ?_))))))))))))
 rintro _ w5 ⟨p1,rfl,At,m4,aR⟩
 have z5:=aR.size
 have bB:=cK.trans aR
 have Jr:∀b,X b->b<w5.heap.size:=fun b e=>by have:=DQ b e;omega
 refine La [.tmp 54,.tmp 55,.tmp 57] zah rfl (Yi (kN.ext' aR) Jr (by omega) (nH 1 l1) (nH 2 l2) (bB.KN hG) (bB.KN hU) av bj nF (lR.ext bB) At m4 kJ (by omega)) ?_
 rintro _ w6 ⟨G,txt6,rfl,Js,KA,KB,Jt,⟨n1,n2,n3⟩,df,KC,aT⟩
 have gZ:Ext w w6:=bB.KK aT (fun b e=>by
  rcases Nat.lt_or_ge b w.heap.size with h| h
  ·exact absurd (nH b h) e
  ·exact h)
 have z6:=aT.size
 have DR:=aT.KN (aR.KN DP) (fun e=>e zu)
 have DB:(Mz P.L 2 G.len true).length=P.L.length:=My (by omega)
 have nI:ZX (Mz P.L 2 G.len true) (2+G.len):=Z8 kJ (by omega)
 obtain⟨Q6,DS⟩:∃Q6,P.Mg (Mz P.L 2 G.len true)=Q6:=⟨_,rfl⟩
 have DT:Q6.L=Mz P.L 2 G.len true:=by rw[<-DS];rfl
 have te:Q6.s=P.s/\Q6.d=P.d/\Q6.m=P.m:=by rw[<-DS];exact⟨rfl,rfl,rfl⟩
 rw[DS] at df
 rw[<-DT] at DB nI
 obtain⟨gb,go,gc',jk,DU⟩:=lR.r bj
 cases jk
 refine An rfl (qV (Lu rfl rfl) (qV (Lu rfl rfl) (KO rfl (KO rfl (py (Ll.qb (e:=[(0,_),(2,_),(6,_),(7,_),(8,_),(10,_),(12,_),(14,_),(15,_)]) ?_))))))
 refine qN rfl (An rfl (An rfl (La [.tmp 63] zdX rfl (z0c av (DU.ext gZ)) ?_)))
 rintro _ w7 ⟨bt,rfl,Ju,bL⟩
 have gj:=gZ.trans bL
 have z7:=bL.size
 have qy:=df.ext bL
 have me:=Tl g
 refine An rfl (qV (z5d rfl rfl) ?_)
 obtain⟨fo2,ye⟩:∃z,IntKind.i64.wrap (fo+1)=z:=⟨_,rfl⟩
 have yf: -9223372036854775808<=fo2/\fo2<=9223372036854775807:=by
  rw[<-ye,IntKind.wrap_i64];omega
 rw[ye]
 refine La [.tmp 66] zay rfl (ZK fo2 yf _) ?_
 rintro _ w8 ⟨p2,rfl,rt,nO,cI⟩
 have z8:=cI.size
 have bH:=qy.ext cI
 have tf:=gj.trans cI
 obtain⟨X2,fZ⟩:∃X2:Nat->Prop,(fun b=>(X b\/b=G.x\/b=G.k)\/b=G.rb)=X2:=⟨_,rfl⟩
 have gV:∀b,X b->X2 b:=fun b e=>by rw[<-fZ];exact .inl (.inl e)
 have o6:Sp Q6 txt6 (0+200) X2 w8:=by rw[<-fZ];exact bH.sp
 have DV:∀b,X2 b->b<w8.heap.size:=fun b e=>bH.lt1 b (by rw[<-fZ] at e;exact e)
 have DW:GrM w8 (.slice (some ⟨bt,0,none⟩) (Sa g).length (Sa g).length) (Sa g):=(Ju.ext cI).gr
 have nU:=Yi o6 DV (by omega) (gV _ (nH 1 l1)) (gV _ (nH 2 l2)) (tf.KN hG) (tf.KN hU) (z6q av) (by omega) (by omega) DW rt nO nI (by omega)
 rw[te.1,me] at nU
 refine La [.tmp 62,.tmp 64,.tmp 67] zah rfl (nU) ?_
 rintro _ w9 ⟨T,txt9,rfl,Jv,KD,KE,Jw,⟨t1,t2,t3⟩,cR,DX,aL⟩
 have z9:=aL.size
 have fK:Ext w w9:=tf.KK aL (fun b e=>by
  rcases Nat.lt_or_ge b w.heap.size with h| h
  ·exact absurd (gV b (nH b h)) e
  ·exact h)
 have DY:=aL.KN ((bL.trans cI).KN DR) (fun e=>e (gV _ zu))
 have FS:(Mz Q6.L (2+G.len) T.len true).length=Q6.L.length:=My (by omega)
 have nJ:ZX (Mz Q6.L (2+G.len) T.len true) (2+G.len+T.len):=Z8 nI (by omega)
 obtain⟨Q9,DZ⟩:∃Q9,Q6.Mg (Mz Q6.L (2+G.len) T.len true)=Q9:=⟨_,rfl⟩
 have E0:Q9.L=Mz Q6.L (2+G.len) T.len true:=by rw[<-DZ];rfl
 have th:Q9.s=Q6.s/\Q9.d=Q6.d/\Q9.m=Q6.m:=by rw[<-DZ];exact⟨rfl,rfl,rfl⟩
 rw[DZ] at cR
 rw[<-E0] at FS nJ
 have yg:=cR.sp
 have ti:=cR.lt1
 have Jy:Oa G Q9 txt9 (0+200+200) (fun b=>(X b\/b=G.x\/b=G.k)\/b=T.x\/b=T.k\/b=T.rb) w9:=bH.zbh aL (fun b e=>by rw[<-fZ] at e;exact e) (fun j e=> .inl e) (fun j e=>e.imp id fun e=>by
   have h1:=ti T.x (.inl (.inr (.inl rfl)));have h2:=ti T.k (.inl (.inr (.inr rfl)));have h3:=ti T.rb (.inr rfl)
   omega) (yg.less fun b e=>by
   rw[<-fZ];rcases e with(e|e|e|e)| e
   ·exact .inl (.inl (.inl e))
   ·exact .inl (.inr (.inl e))
   ·exact .inl (.inr (.inr e))
   ·exact .inr e
   ·exact .inl (.inl (.inr e))) th.1 FS (by omega) (fun y h1 h2=>DX y (.inl (by omega)))
 have eT:=yg.room nJ (by omega)
 rw[th.2.2,te.2.2,Jo] at eT
 refine An rfl (qV (Lu rfl rfl) (qV (Lu rfl rfl) (KO rfl (KO rfl (qM rfl (An rfl (An rfl (An rfl (An rfl (An rfl (La [.tmp 75] z9T rfl (eT) ?_)))))))))))
 rintro _ w10 ⟨rfl,bz⟩
 have yh:=bz.KN DY
 rw[show Q9.L.length-(2+G.len+T.len)=200-(2+G.len+T.len) by omega]
 refine qV (NA (parts:=[(0,.tmp 71),(1,.tmp 72),(2,.tmp 73),(3,.tmp 74),(4,.tmp 76)]) (cs:=[_,_,_,_,_]) ZL rfl ze4 rfl rfl) (An rfl (An rfl (An rfl (qV (LR rfl rfl) (L0 rfl (Lz (news:=[_,_,_,_,_]) ZL rfl rfl rfl rfl yh (by simp)) ?_)))))
 rintro w11 ⟨yi,aP⟩
 refine KO rfl (py (Ll.qb (e:=[(6,_),(7,_)]) ?_))
 refine Lh Tryz.func8 (.cell U30 rfl ZL rfl (KY.cells (n:=5) yi (news:=[_,_,_,_,_]) rfl) rfl (.tmp rfl .nil)) ?_
 obtain⟨XX,gA⟩:∃XX:Nat->Prop,(fun b=>X b\/b=G.x\/b=G.k\/b=G.rb\/b=T.x\/b=T.k\/b=T.rb)=XX:=⟨_,rfl⟩
 have FT:=bH.rbX
 have FU:=cR.rbX
 have xR:=bH.xk
 have FW:=cR.xk
 have zG:=bH.lt1 _ (.inr rfl)
 have zGk:=bH.lt1 _ (.inl xR.1)
 have zGx:=bH.lt1 _ (.inl xR.2.1)
 have ly:∀b,X b->b<w1.heap.size:=DQ
 have E1:Oa G Q9 txt9 400 (fun b=>XX b/\b≠G.rb) w11:=by
  refine Oa.less (Y:=fun b=>(X b\/b=G.x\/b=G.k)\/b=T.x\/b=T.k\/b=T.rb) ((Jy.ext bz).own aP fun j e=>?_) (fun b e=>?_) ?_
  ·subst e;exact⟨.inl (.inl zu),by omega,by omega,by omega,by omega⟩
  ·rw[<-gA] at e;rcases e with⟨e|e|e|e|e,h⟩
   ·exact .inl (.inl e)
   ·exact .inl (.inr (.inl e))
   ·exact .inl (.inr (.inr e))
   ·exact absurd e h
   ·exact .inr e
  ·rw[<-gA];exact⟨⟨.inr (.inr (.inl rfl)),fun e=>FT (e▸xR.1)⟩,⟨.inr (.inl rfl),fun e=>FT (e▸xR.2.1)⟩,⟨.inl (nH 1 l1),by omega⟩,⟨.inl (nH 2 l2),by omega⟩⟩
 have E2:Oa T Q9 txt9 400 (fun b=>XX b/\b≠T.rb) w11:=by
  refine Oa.less (Y:=fun j=>X2 j\/j=T.x\/j=T.k) ((cR.ext bz).own aP fun j e=>?_) (fun b e=>?_) ?_
  ·subst e;exact⟨.inl (gV _ zu),by omega,by omega,by omega,by omega⟩
  ·rw[<-gA] at e;rw[<-fZ];rcases e with⟨e|e|e|e|e|e|e,h⟩
   ·exact .inl (.inl (.inl e))
   ·exact .inl (.inl (.inr (.inl e)))
   ·exact .inl (.inl (.inr (.inr e)))
   ·exact .inl (.inr e)
   ·exact .inr (.inl e)
   ·exact .inr (.inr e)
   ·exact absurd e h
  ·rw[<-gA];exact⟨⟨.inr (.inr (.inr (.inr (.inr (.inl rfl))))),fun e=>FU (e▸FW.1)⟩,⟨.inr (.inr (.inr (.inr (.inl rfl)))),fun e=>FU (e▸FW.2.1)⟩,⟨.inl (nH 1 l1),by omega⟩,⟨.inl (nH 2 l2),by omega⟩⟩
 refine⟨_,rfl,⟨d,Q9,txt9,400,G,T,2+G.len+T.len⟩,XX,?_,⟨E1,E2,Js,Jv,nJ,?_,?_,?_,?_,?_⟩,?_,fun b hb=>⟨by rw[<-gA];exact .inl (nH b hb),fun e=>?_,fun e=>?_⟩⟩
 ·unfold Wd.v;rw[th.1,te.1]
  rfl
 ·show 2+G.len+T.len<=146;omega
 ·show Q9.L.length=200;omega
 ·exact Nat.le_refl _
 ·show G.st+G.len<=T.st;omega
 ·show T.st+T.len<=2+G.len+T.len;omega
 ·exact(fK.trans bz).KK aP fun b e=>by omega
 ·have e:b=G.rb:=e;omega
 ·have e:b=T.rb:=e;omega
theorem zaz:N2 [[1],[2],[]]:=⟨fun l hl=>by
 simp only[List.mem_cons,List.not_mem_nil,or_false] at hl
 rcases hl with rfl|rfl|rfl<;>exact⟨by decide,by decide⟩,by decide,by decide⟩
theorem z3Y {w:World}(hG:KY w 1 (NM .gamma) 298)(hU:KY w 2 (NM .unary) 298):Lk Tryz.prog 9 [] w fun v w'=>v= .bool true/\Ext w w':=by
 refine KJ (e:=[]) Tryz.func9 rfl Tryz.ntmps9 rfl rfl (qN rfl (KO rfl (qM rfl (KU rfl rfl (Tx (parts:=[(0,.const (Value.int .u32 1))]) (cs:=[_]) (zs:=[Value.int .u32 0]) Li L8 rfl (by kernel_rfl) rfl rfl rfl (by decide)) ?_))))
 rintro _ w1 ⟨b1,rfl,⟨bS,ad,ai⟩,jc⟩
 refine KU rfl rfl (Tx (parts:=[(0,.const (Value.int .u32 2))]) (cs:=[_]) (zs:=[Value.int .u32 0]) Li L8 rfl (by kernel_rfl) rfl rfl rfl (by decide)) ?_
 rintro _ w2 ⟨b2,rfl,⟨bT,af,ak⟩,cL⟩
 refine KU rfl rfl (Tx (parts:=[]) (cs:=[]) (zs:=[]) Li L8 rfl (by kernel_rfl) rfl rfl rfl (by decide)) ?_
 rintro _ w3 ⟨b3,rfl,⟨dZ,ah,ao⟩,cM⟩
 refine KU rfl rfl (Tx (parts:=[(0,.tmp 14),(1,.tmp 15),(2,.tmp 16)]) (cs:=[_,_,_]) (zs:=[Value.slice none 0 0,Value.slice none 0 0,Value.slice none 0 0]) R6 OI rfl (by kernel_rfl) rfl rfl rfl (by decide)) ?_
 rintro _ w4 ⟨b4,rfl,⟨gh,aB,aJ⟩,dU⟩
 have lR:GrM w4 (.slice (some ⟨b4,0,none⟩) 3 3) [[1],[2],[]]:=by
  refine⟨⟨_,dU.rd,fun i l hl=>?_⟩⟩
  match i,hl with
  | 0, hl =>
    cases hl
    exact⟨_,_,rfl,Nat.le_refl _,((jc.rd.ext af).ext ah).ext aB⟩
  | 1, hl =>
    cases hl
    exact⟨_,_,rfl,Nat.le_refl _,(cL.rd.ext ah).ext aB⟩
  | 2, hl =>
    cases hl
    exact⟨_,_,rfl,Nat.le_refl _,cM.rd.ext aB⟩
  |i+3,hl=>cases hl
 have cK:=((ad.trans af).trans ah).trans aB
 have z4:=cK.size
 refine La [.tmp 17,.const (Value.int .i64 1),.const (Value.int .i64 0)] cf8 rfl (z2w (g:=[[1],[2],[]]) zaz (by decide) (by decide) lR (cK.KN hG) (cK.KN hU) 1 0 (by decide) (by decide)) ?_
 rintro _ w5 ⟨W,XX,rfl,hW,aR,gA⟩
 have bB:=cK.trans aR
 have z5:=bB.size
 refine An rfl (qV (Lu rfl rfl) (qV (Lu rfl rfl) (KU rfl rfl (N3 (cs:=[_,_,_,_,_]) ZL rfl) ?_)))
 rintro _ w6 ⟨b6,rfl,nN,aG,aN⟩
 have z6:=aG.size
 refine L0 rfl (Lz (news:=W.v) ZL rfl rfl rfl rfl aN (by simp)) ?_
 rintro w7 ⟨bE,aA⟩
 have gJ:KY w7 b6 [ptr W.d 0,ptr W.Q.s 0,ptr W.G.k 0,ptr W.T.k 0,I ((200-W.a:Nat):Int)] 30:=bE
 have l7:=bE.lt
 have z7:=aA.size
 have ic:=aG.kp.trans aA
 have gy:=hW.hg.lt
 have ij:=hW.hg.xk
 have i1:=gy _ ij.1
 have i2:=gy _ ij.2.1
 have i3:=gy _ ij.2.2.1
 have i4:=gy _ ij.2.2.2
 have qy:Oa W.G W.Q W.txt W.K (fun b=>(XX b/\b≠W.G.rb)\/b=b6) w7:=(hW.hg.grow aG (Y:=fun b=>(XX b/\b≠W.G.rb)\/b=b6) (fun j e=>e.imp id fun e=>by have:=aN.lt;omega) (fun j e=> .inl e)).own aA fun j e=>by subst e;exact⟨.inr rfl,by omega,by omega,by omega,by omega⟩
 have oe:∀b,b<w.heap.size->(XX b/\b≠W.G.rb)\/b=b6:=fun b hb=> .inl ⟨(gA b (by omega)).1,(gA b (by omega)).2.1⟩
 have aq:=hW.gg
 have dW:W.G.g.length=3:=by rw[aq];rfl
 have ha:=hW.a
 have hL:=hW.L
 have Jz:=hW.K
 have JA:=hW.gs
 have tt:=hW.ts
 refine KO rfl (py (run_seq (qN rfl (An rfl (qV ((by first|exact LN rfl|exact Na rfl)) ?_)))))
 refine py (KH rfl (It (qN rfl (qV (KT z0d rfl) (qV (KS S4 rfl rfl gJ rfl) (qV (KT z4A rfl) (qV (KS Z6 rfl rfl gJ rfl) (La [.tmp 25,.tmp 27,.const (Value.int .i64 0)] zcz rfl (X9 qy (by omega) (by omega) hW.pre (by omega) (by omega) (root:=0) (by omega)) ?_))))))))
 rintro _ w8 ⟨rr,vb,txt8,rfl,kQ,ep,h8,xV,bh⟩
 rw[dW,show(List.replicate 3 nv).set 0 0=[0,nv,nv] from rfl] at h8
 have s8:=QF h8 (by omega) (by omega) (by decide)
 rw[aq,show WE 0 [[1],[2],[]] [0,nv,nv]=([0,1,nv],true) by decide] at s8
 refine An rfl (qV (Lu rfl rfl) (qV (Lu rfl rfl) (KO rfl (KO rfl (py (run_seq (qN rfl (An rfl (qV (M0 rfl rfl) (py (Ll.qb (e:=[(0,_),(3,_),(32,_)]) ?_)))))))))))
 refine KH rfl (It (qN rfl (An rfl (La [.tmp 34] z6Z rfl (s8) ?_))))
 rintro _ w9 ⟨rfl,txt9,h9,DX,aL⟩
 have s9:=QF h9 (by omega) (by omega) (by decide)
 rw[aq,show WE (0+1) [[1],[2],[]] [0,1,nv]=([0,1,2],true) by decide] at s9
 refine An rfl (qV (Lu rfl rfl) (qV (Lu rfl rfl) (KO rfl (KO rfl (qM rfl (An rfl (La [.tmp 39] z6Z rfl (s9) ?_)))))))
 rintro _ w10 ⟨rfl,txt10,fj,xY,ax⟩
 have s10:=QF fj (by omega) (by omega) (by decide)
 rw[aq,show WE (0+1+1) [[1],[2],[]] [0,1,2]=([0,1,2],false) by decide] at s10
 refine An rfl (qV (Lu rfl rfl) (qV (Lu rfl rfl) (KO rfl (KO rfl (qM rfl (An rfl (La [.tmp 44] z6Z rfl (s10) ?_)))))))
 rintro _ w11 ⟨rfl,txt11,m8,E3,aP⟩
 refine An rfl (qV (Lu rfl rfl) (qV (Lu rfl rfl) (KO rfl (KO rfl (qM rfl (An rfl (La [.tmp 49,.const (Value.int .i64 2)] zbq rfl (WU m8 (i:=2) (x:=2) rfl) ?_)))))))
 rintro _ w12 ⟨rfl,EF,aU⟩
 refine An rfl (qV (Lu rfl rfl) (qV (Lu rfl rfl) (KO rfl (KO rfl (py (Ll.qb (e:=[(0,_),(5,_),(7,_),(9,_),(11,_),(12,_)]) ?_))))))
 refine qN rfl (An rfl (qV ((by first|exact LN rfl|exact Na rfl)) ?_))
 refine An rfl (An rfl (qV ((by first|exact LN rfl|exact Na rfl)) ?_))
 refine qV (LR rfl rfl) (An rfl (An rfl (qV (LR rfl rfl) (An rfl (An rfl (qV (Mr rfl rfl) (qV (LR rfl rfl) (An rfl (An rfl (qV (Mr rfl rfl) (MR (qV (LR rfl rfl) (KO rfl ?_)))))))))))))
 refine py (KP Tryz.func9 rfl (⟨_,rfl,rfl,?_⟩))
 have E4:=bB.trans aG
 have KF:∀b,b<w.heap.size->b≠rr:=fun b hb=>by omega
 refine(((((E4.KK aA fun b e=>by omega).KK bh fun b e=>?_).KK aL fun b e=>?_).KK ax fun b e=>?_).KK aP fun b e=>?_).KK aU fun b e=>?_
 all_goals rcases Nat.lt_or_ge b w.heap.size with h| h
 all_goals first|omega|skip
 ·exact absurd (oe b h) e
 ·exact e.elim (fun e=>absurd (.inl (oe b h)) e) (fun e=>by omega)
 ·exact e.elim (fun e=>absurd (.inl (oe b h)) e) (fun e=>by omega)
 ·exact e.elim (fun e=>absurd (.inl (oe b h)) e) (fun e=>by omega)
 ·exact absurd (.inl (.inl (oe b h))) e
section
variable {G:GwP}{w w':World}{Q:N1}{txt:Int->Bytes}{K:Nat}{X Y:Nat->Prop}{rr vb sv r:Nat}{s:Tz}{av:N2 G.g}
structure RnM (G:GwP)(Q:N1)(txt:Int->Bytes)(K:Nat)(X:Nat->Prop)(rr vb sv:Nat)(av:N2 G.g)(r:Nat)(s:Tz)(w:World):Prop where
 m:Qa G Q txt K X rr vb sv s.t s.done (O5 s.d) w
 i:BfI G.g av r s
 ok:UE s.d
 r:r<G.g.length
theorem UE.new {n r:Nat}:UE (Tz.new n r).d:=fun u k hu=>by
 unfold Tz.new at hu
 dsimp only at hu
 by_cases e:r=u
 ·subst e;rcases Nat.lt_or_ge r n with h| h
  ·rw[List.getElem?_set_self (by simpa using h)] at hu;cases hu;decide
  ·rw[List.getElem?_eq_none (by simpa using h)] at hu;cases hu
 ·rw[List.getElem?_set_ne e,List.getElem?_replicate] at hu;split at hu
  ·cases hu
  ·cases hu
theorem z43 {n r:Nat}:O5 (Tz.new n r).d=(List.replicate n nv).set r 0:=by
 unfold O5 Tz.new
 rw[List.map_set,List.map_replicate];rfl
theorem RnM.new (h:Qa G Q txt K X rr vb sv 0 false ((List.replicate G.g.length nv).set r 0) w)(av:N2 G.g)(hr:r<G.g.length):RnM G Q txt K X rr vb sv av r (Tz.new G.g.length r) w:=
 ⟨by rw[z43];exact h,BfI.new av hr,UE.new,hr⟩
theorem z1A (h:RnM G Q txt K X rr vb sv av r s w)(hK:K<=800000000000)(hd:s.done=false):Lk Tryz.prog 11 [ptr rr 0] w fun v w'=>v= .tuple #[.bool (s.step G.g).done,I 0]/\∃txt',RnM G Q txt' (K+3200) X rr vb sv av r (s.step G.g) w'/\(∀y:Int,y<(sv:Int)\/(sv:Int)+1<=y->txt' y=txt y)/\Kp (fun b=>¬X b\/b=rr) w w':=by
 have hr:=h.r
 have ht:=h.i.zat h.r hd
 have hn:=h.m.n
 have hm:=h.m
 rw[hd] at hm
 have hl:=hm.len
 have hv:PZ (O5 s.d).length 128=1:=by
  rw[hl];unfold PZ;omega
 have pL:=ZO (t:=s.t) (show s.t+1<4294967295 by omega) G.g (List.range G.g.length) (p:=(s.d,false)) h.ok
 have e1:WE s.t G.g (O5 s.d)=(O5 (WD s.t G.g s.d).1,(WD s.t G.g s.d).2):=pL.1
 have hs:=QF hm hK (by omega) (by omega)
 rw[e1,hv] at hs
 refine hs.mono ?_
 rintro v w' ⟨rfl,txt',h',hy,hk⟩
 exact⟨rfl,txt',⟨h',h.i.step hd,pL.2,hr⟩,hy,hk⟩
def vN (o:Option Nat):Nat:=match o with
 |none=>18446744073709551615
 |some k=>k
theorem z3L (h:RnM G Q txt K X rr vb sv av r s w)(hd:s.done=true){u:Nat}(hu:u<G.g.length):Lk Tryz.prog 12 [ptr rr 0,I (u:Int)] w fun v w'=>v= .tuple #[L5 (vN (dF s.d u)),I 0]/\RnM G Q txt K X rr vb sv av r s w'/\Kp (fun b=>¬(X b\/b=G.rb)) w w':=by
 have hm:=h.m
 rw[hd] at hm
 have hl:=h.i.len
 have hg:s.d[u]? =some s.d[u]:=List.getElem?_eq_getElem (by omega)
 have hx:(O5 s.d)[u]? =some (dN s.d[u]):=by rw[U0,hg];rfl
 refine(WU hm hx).mono ?_
 rintro v w' ⟨rfl,h',hk⟩
 refine⟨?_,⟨by rw[hd];exact h',h.i,h.ok,h.r⟩,hk⟩
 have e:(if dN s.d[u]=4294967295 then 18446744073709551615 else dN s.d[u])=vN (dF s.d u):=by
  unfold dF;rw[hg]
  cases ho:s.d[u] with
  |none=>rfl
  | some k =>
    have:=h.ok u k (by rw[hg,ho]);show(if k=4294967295 then 18446744073709551615 else k)=k;rw[if_neg (by have e:k<4294967296-1:=this;omega)]
 rw[e]
theorem RnM.grow (h:RnM G Q txt K X rr vb sv av r s w)(hx:Ext w w')(bV:∀j,X j->Y j)(hY:∀j,Y j->X j\/(w.heap.size<=j/\j<w'.heap.size)):RnM G Q txt K Y rr vb sv av r s w':=
 ⟨h.m.grow hx hY bV,h.i,h.ok,h.r⟩
end
theorem z6t {g:List (List Nat)}{av:N2 g}{r:Nat}{s:Tz}(hI:BfI g av r s)(hr:r<g.length)(hd:s.done=true)(u:Nat):dF (Rp g r g.length) u=dF s.d u:=by
 have hL:=Yq av hr g.length
 cases e:dF s.d u with
 | some k =>
   have h1:=(hI.all hd u k).1 e
   exact hL.all u k h1 (by have:=h1.z6T av hr;omega)
 | none =>
   cases e2:dF (Rp g r g.length) u with
   |none=>rfl
   | some k =>
     have:=(hI.all hd u k).2 (hL.has u k e2).1;rw[e] at this;cases this
structure Sg (s:Tz)(v:Nat)(M:Int):Prop where
 pos:0<=M
 le:∀u,u<v->dI (dF s.d u)<=M
 eq:M=0\/∃u,u<v/\dI (dF s.d u)=M
theorem Sg.zero (s:Tz):Sg s 0 0:=⟨Int.le_refl _,fun u h=>by omega,.inl rfl⟩
theorem Sg.step {s:Tz}{v:Nat}{M:Int}(h:Sg s v M):Sg s (v+1) (max M (dI (dF s.d v))):=by
 have hp:=h.pos
 refine⟨by omega,fun u hu=>?_,?_⟩
 ·by_cases e:u=v
  ·subst e;omega
  ·have:=h.le u (by omega);omega
 ·by_cases e:dI (dF s.d v)<=M
  ·rw[show max M (dI (dF s.d v))=M by omega];rcases h.eq with e|⟨u,hu,e⟩
   ·exact .inl e
   ·exact .inr ⟨u,by omega,e⟩
  ·exact .inr ⟨v,by omega,by omega⟩
theorem Sg.fin {g:List (List Nat)}{av:N2 g}{r:Nat}{s:Tz}{M:Int}(hI:BfI g av r s)(hd:s.done=true)(h:Sg s g.length M):M+1=(s.t:Int):=by
 obtain⟨h1,u0,k0,h2,h3⟩:=hI.fin hd
 have hu:=zao h2
 rw[hI.len] at hu
 have h4:=h.le u0 hu
 rw[h2] at h4
 have h4:(k0:Int)<=M:=h4
 have h5:=h.pos
 rcases h.eq with e|⟨u,hu,e⟩
 ·omega
 ·cases e2:dF s.d u with
  | none =>
    rw[e2] at e;have e:(-1:Int)=M:=e
    omega
  | some k =>
    rw[e2] at e;have e:(k:Int)=M:=e;have h6:=(hI.lev.has u k e2).2;have h7:k≠s.t:=fun e3=>h1 u (by rw[e2,e3]);omega
theorem shortest_ret {w:World}(hG:KY w 1 (NM .gamma) 298)(hU:KY w 2 (NM .unary) 298)(n root fr fo:Int)(hn: -9223372036854775808<=n/\n<=9223372036854775807)(iP: -9223372036854775808<=root/\root<=9223372036854775807)(lP: -9223372036854775808<=fr/\fr<=9223372036854775807)(DN: -9223372036854775808<=fo/\fo<=9223372036854775807){ea:Option Addr}{ec:Nat}{es:List (Nat×Nat)}(s0:es.length<=9000000000000000000)(hE:EdR w ea es):Lk Tryz.prog 4 [I n,.slice ea es.length ec,I root,I fr,I fo] w fun v w'=>v= .bool true/\Ext w w':=by
 refine KJ (e:=[(0,_),(1,_),(2,_),(3,_),(4,_)]) Tryz.func4 rfl Tryz.ntmps4 rfl rfl (qN rfl (KO rfl (qM rfl (An rfl (La [.tmp 25] cf7 rfl (XI n hn _) ?_)))))
 rintro _ w ⟨m,rfl,o8,dP,rfl⟩
 refine An rfl (La [.tmp 26,.tmp 27] cf6 rfl (z42 o8 dP s0 hE) ?_)
 rintro _ w1 ⟨g,bg,rfl,j6,av,lL,ad⟩
 have r1:=PG root (g.length:Int) (by omega)
 have r2:=RD root (g.length:Int) (by omega)
 refine KO rfl (qM rfl (An rfl (An rfl (qV (LM R6 rfl) (qV (yrt rfl rfl (by omega)) (An rfl (qV (LM R6 rfl) (LH rfl rfl (An rfl (qV (LM R6 rfl) (qV (yrt rfl rfl (by omega)) ?_)))))))))))
 rw[show(root.tmod (g.length:Int)+(g.length:Int)).tmod (g.length:Int)=nrm root (g.length:Int) from rfl]
 obtain⟨r,hr,JB⟩:∃r:Nat,nrm root (g.length:Int)=(r:Int)/\r<g.length:=⟨(nrm root (g.length:Int)).toNat,by omega,by omega⟩
 rw[hr]
 have yj:=lL.gr
 have bj:1<=g.length:=by omega
 have nF:g.length<=40:=by omega
 refine KO rfl (qM rfl (An rfl (An rfl (An rfl (La [.tmp 40,.tmp 41,.tmp 42] cf8 rfl (z2w av bj nF yj (ad.KN hG) (ad.KN hU) fr fo lP DN) ?_)))))
 rintro _ w5 ⟨W,XX,rfl,hW,aR,gA⟩
 have bB:=ad.trans aR
 have z5:=bB.size
 refine An rfl (qV (Lu rfl rfl) (qV (Lu rfl rfl) (KU rfl rfl (N3 (cs:=[_,_,_,_,_]) ZL rfl) ?_)))
 rintro _ w6 ⟨b6,rfl,nN,aG,aN⟩
 have z6:=aG.size
 refine L0 rfl (Lz (news:=W.v) ZL rfl rfl rfl rfl aN (by simp)) ?_
 rintro w7 ⟨bE,aA⟩
 have gJ:KY w7 b6 [ptr W.d 0,ptr W.Q.s 0,ptr W.G.k 0,ptr W.T.k 0,I ((200-W.a:Nat):Int)] 30:=bE
 have l7:=bE.lt
 have z7:=aA.size
 have gj:=(bB.trans aG).KK aA fun b e=>by omega
 refine KO rfl (py (Ll.qb (e:=[(2,_),(10,_),(11,_),(12,_),(13,_)]) ?_))
 refine run_seq (qN rfl (An rfl (qV ((by first|exact LN rfl|exact Na rfl)) ?_)))
 refine An rfl (La [] cf9 rfl (z3Y (gj.KN hG) (gj.KN hU)) ?_)
 rintro _ w8 ⟨rfl,cI⟩
 refine qV ((by first|exact LN rfl|exact Na rfl)) ?_
 refine qV (Ls rfl rfl) ?_
 have gy:=hW.hg.lt
 have ij:=hW.hg.xk
 have i1:=gy _ ij.1
 have i2:=gy _ ij.2.1
 have i3:=gy _ ij.2.2.1
 have i4:=gy _ ij.2.2.2
 obtain⟨X,hX⟩:∃X:Nat->Prop,(fun b=>(XX b/\b≠W.G.rb)\/b=b6)=X:=⟨_,rfl⟩
 have qy:Oa W.G W.Q W.txt W.K X w7:=by
  rw[<-hX];exact(hW.hg.grow aG (Y:=fun b=>(XX b/\b≠W.G.rb)\/b=b6) (fun j e=>e.imp id fun e=>by have:=aN.lt;omega) (fun j e=> .inl e)).own aA fun j e=>by subst e;exact⟨.inr rfl,by omega,by omega,by omega,by omega⟩
 have oe:∀b,b<w1.heap.size->X b:=fun b hb=>by rw[<-hX];exact .inl ⟨(gA b hb).1,(gA b hb).2.1⟩
 have jU:X b6:=by rw[<-hX];exact .inr rfl
 have aq:=hW.gg
 have dW:W.G.g.length=g.length:=by rw[aq]
 have ha:=hW.a
 have hL:=hW.L
 have Jz:=hW.K
 have JA:=hW.gs
 have tt:=hW.ts
 have bZ:=cI.KN gJ
 refine py (KH rfl (It (qN rfl (qV (KT z0d rfl) (qV (KS S4 rfl rfl bZ rfl) (qV (KT z4A rfl) (qV (KS Z6 rfl rfl bZ rfl) (An rfl (La [.tmp 54,.tmp 56,.tmp 57] zcz rfl (X9 (qy.ext cI) (by omega) (by omega) hW.pre (by omega) (by omega) (root:=r) (by omega)) ?_)))))))))
 rintro _ w9 ⟨rr,vb,txt9,rfl,kQ,ep,h9,DX,aL⟩
 have u3:N2 W.G.g:=by rw[aq];exact av
 have FX:=RnM.new h9 u3 (by omega)
 obtain⟨Q,hQ⟩:∃Q,W.Q.Mg (Mz W.Q.L W.a 1 true)=Q:=⟨_,rfl⟩
 obtain⟨Y,hY⟩:∃Y:Nat->Prop,(fun b=>X b\/b=rr\/b=vb)=Y:=⟨_,rfl⟩
 rw[hQ,hY] at FX
 have kB:∀b,X b->Y b:=fun b e=>by rw[<-hY];exact .inl e
 have rC:∀b,X b->b<w8.heap.size:=fun b e=>by have:=qy.lt b e;have:=cI.size;omega
 have z15:=aR.size
 have z8:=cI.size
 have z9:=aL.size
 have gu:Ext w1 w9:=((((aR.trans aG).KK aA fun b e=>by omega).trans cI)).KK aL fun b e=>by
  rcases Nat.lt_or_ge b w1.heap.size with h| h
  ·exact absurd (oe b h) e
  ·exact h
 have JC:w1.heap.size<=rr:=by have:=cI.size;omega
 have pD:b6≠rr:=by have:=cI.size;omega
 have cC:=aL.KN bZ (fun e=>e jU)
 refine An rfl (qV (Lu rfl rfl) (qV (Lu rfl rfl) (KO rfl (KO rfl (py (run_seq (qN rfl (An rfl (qV (M0 rfl rfl) (py (KH rfl (It (qN rfl ?_)))))))))))))
 refine KO rfl (py (Ll.qb (e:=[(2,_),(10,_),(11,_),(12,_),(14,_),(16,_)]) ?_))
 refine run_seq (qN rfl (KO rfl (py (KL (MV (α:=Tz) (Tz.new W.G.g.length r) (fun s=>[(2,I (r:Int)),(11,.slice (some ⟨bg,0,none⟩) g.length g.length),(12,ptr b6 0),(14,ptr rr 0),(16,.bool s.done),(17,I (s.t:Int))]) (fun s w'=>(∃txt K,RnM W.G Q txt K Y rr vb W.a u3 r s w'/\K<=1000+3300*s.t)/\Ext w1 w'/\KY w' b6 [ptr W.d 0,ptr W.Q.s 0,ptr W.G.k 0,ptr W.T.k 0,I ((200-W.a:Nat):Int)] 30) (fun s=>g.length+1-s.t) ?hI ?hround)))))
 case hI=>exact⟨⟨txt9,_,FX,by show W.K+3<=1000+3300*0;omega⟩,gu,cC⟩
 case hround =>
  rintro s w10 ⟨⟨txt10,K10,hN,hK⟩,bz,dK⟩ ih
  try dsimp only
  by_cases hd:s.done=true
  ·have hI:=hN.i;obtain⟨-,u0,k0,JD,g9⟩:=hI.fin hd;have JE:=(hI.lev.has u0 k0 JD).1.z6T u3 hN.r;rw[hd];refine run_seq (qN rfl (An rfl (An rfl (qV (LM R6 rfl) (qV (Qv rfl rfl) (MR (An rfl (An rfl (qV ((by first|exact LN rfl|exact Na rfl)) ?_)))))))));refine qV (LR rfl rfl) (py (KH rfl (KX rfl (qN rfl (An rfl (An rfl ?_))))));obtain⟨gb,go,gc,jk,DU⟩:=(yj.ext bz).r bj;cases jk;refine La [.tmp 81,.tmp 82] zd0 rfl (WC av JB DU) ?_;rintro _ w11 ⟨bd,rfl,nj,rO,aQ⟩;have eN:=nj.lt;obtain⟨Y2,E5⟩:∃Y2:Nat->Prop,(fun b=>Y b\/b=bd)=Y2:=⟨_,rfl⟩;have E6:Y2 bd:=by rw[<-E5];exact .inr rfl
   have pM:∀b,Y b->Y2 b:=fun b e=>by rw[<-E5];exact .inl e
   have iE:RnM W.G Q txt10 K10 Y2 rr vb W.a u3 r s w11:=hN.grow aQ pM fun j e=>by rw[<-E5] at e;exact e.imp id fun e=>by omega
   have sG:=z6t hI hN.r hd;refine KO rfl (qM rfl (KO rfl (py (run_seq (qN rfl (KO rfl (py (KL (MV (α:=Nat×Int) ((0,0)) (fun p=>[(11,.slice (some ⟨bg,0,none⟩) g.length g.length),(12,ptr b6 0),(14,ptr rr 0),(16,.bool true),(20,.slice (some ⟨bd,0,none⟩) g.length g.length),(21,I p.2),(22,I (p.1:Int))]) (fun p w'=>p.1<=g.length/\Sg s p.1 p.2/\Ext w1 w'/\RnM W.G Q txt10 K10 Y2 rr vb W.a u3 r s w'/\KY w' bd ((Rp g r g.length).map fun o=>I (dI o)) 3/\KY w' b6 [ptr W.d 0,ptr W.Q.s 0,ptr W.G.k 0,ptr W.T.k 0,I ((200-W.a:Nat):Int)] 30) (fun p=>g.length-p.1) ?hI ?hround)))))))))
   case hI=>exact⟨Nat.zero_le _,Sg.zero s,bz.trans aQ,iE,nj,aQ.KN dK⟩
   case hround=>
    rintro⟨v,M⟩ w12 ⟨hv,hM,aC,eH,yk,aZ⟩ ih2
    try dsimp only
    refine run_seq (qN rfl (An rfl (An rfl (qV (LM R6 rfl) (qV (LX rfl rfl) (py (KZ rfl (fun hq=>?_) (fun hq=>?_))))))))
    ·have eU:v<g.length:=by omega
     refine It (run_seq (KL (qN rfl (An rfl (An rfl (La [.tmp 91,.tmp 92] zbq rfl (z3L eH hd (by omega)) ?_))))));rintro _ w13 ⟨rfl,jy,cz⟩
     have aX:Ext w1 w13:=aC.KK cz fun b e=>by
      rcases Nat.lt_or_ge b w1.heap.size with h| h
      ·exact absurd (.inl (pM b (kB b (oe b h)))) e
      ·exact h
     have nK:=cz.KN yk (fun e=>e (.inl E6));have dm:=cz.KN aZ (fun e=>e (.inl (pM _ (kB _ jU))))
     have ik:w13.cell? ⟨bd,0+v*1,none⟩=some (I (dI (dF s.d v))):=by
      rw[nK.cell,Nat.zero_add,Nat.mul_one,z0W (by rw[PU];exact eU),<-sG v,aq]
     refine An rfl (qV (Lu rfl rfl) (qV (Lu rfl rfl) (KO rfl (KO rfl (py (run_seq (qN rfl (An rfl (qV (M0 rfl rfl) (An rfl ?_))))))))));by_cases he:dF s.d v=none
     ·have E7:max M (dI (dF s.d v))=max M (-1):=by rw[he];rfl
      rw[he,show dI none=(-1:Int) from rfl] at ik;rw[he,show vN none=18446744073709551615 from rfl];refine An rfl (An rfl (qV (LC Mw LG rfl rfl (by omega)) (qV (Lm U3 rfl rfl ik) (qV (Ou rfl rfl) (Ly (An rfl (qS (qS (qS (qS (qS (qS (qS ?_)))))))))))));refine qV (Ls rfl rfl) (qV (Ls rfl rfl) (An rfl (An rfl (An rfl (qV (LC Mw LG rfl rfl (by omega)) (qV (Lm U3 rfl rfl ik) (qV (LX rfl rfl) (MR (An rfl (An rfl (qV (M0 rfl rfl) (Ly (qV (LR rfl rfl) ?_)))))))))))));refine qV (Ls rfl rfl) (py (KH rfl (It (KQ rfl (An rfl (An rfl (An rfl (qV (LC Mw LG rfl rfl (by omega)) (qV (Lm U3 rfl rfl ik) (qV (yma rfl rfl) ?_))))))))));rw[<-E7];refine KO rfl (py (KM (KQ rfl (An rfl (LH rfl rfl (KO rfl (py ?_)))))));exact(ih2 (v+1,max M (dI (dF s.d v))) _ ⟨by show v+1<=g.length;omega,hM.step,aX,jy,nK,dm⟩ (by show g.length-(v+1)<g.length-v;omega)).qb
     ·obtain⟨k,hk⟩:∃k,dF s.d v=some k:=by
       cases e:dF s.d v with
       |none=>exact absurd e he
       |some k=>exact⟨k,rfl⟩
      have zf:=(hI.lev.has v k hk).1.z6T u3 hN.r;have E7:max M (dI (dF s.d v))=max M (k:Int):=by rw[hk];rfl
      rw[hk,show dI (some k)=(k:Int) from rfl] at ik;rw[hk,show vN (some k)=k from rfl];refine An rfl (An rfl (qV (LC Mw LG rfl rfl (by omega)) (qV (Lm U3 rfl rfl ik) (qV (Ou rfl rfl) (MR (An rfl (An rfl (An rfl (An rfl (qV (LC Mw LG rfl rfl (by omega)) (qV (Lm U3 rfl rfl ik) (qV (LF rfl U3 Mq (by omega)) (qV (M0 rfl rfl) ?_)))))))))))));refine Ly (qV (LR rfl rfl) (qV (Ls rfl rfl) (An rfl (An rfl (An rfl (qV (LC Mw LG rfl rfl (by omega)) (qV (Lm U3 rfl rfl ik) (qV (LX rfl rfl) (Ly (An rfl (qS (qS (qV (Ls rfl rfl) ?_)))))))))))));refine qV (Ls rfl rfl) (py (KH rfl (It (KQ rfl (An rfl (An rfl (An rfl (qV (LC Mw LG rfl rfl (by omega)) (qV (Lm U3 rfl rfl ik) (qV (yma rfl rfl) ?_))))))))));rw[<-E7];refine KO rfl (py (KM (KQ rfl (An rfl (LH rfl rfl (KO rfl (py ?_)))))));exact(ih2 (v+1,max M (dI (dF s.d v))) _ ⟨by show v+1<=g.length;omega,hM.step,aX,jy,nK,dm⟩ (by show g.length-(v+1)<g.length-v;omega)).qb
    ·have eU:v=g.length:=by omega
     subst eU;have KG:=Sg.fin hI hd (by rw[aq];exact hM);have hg:=Ext.Lb w12
     have rP:PZ (O5 s.d).length 128=1:=by
      rw[eH.m.len];unfold PZ;omega
     have FY:Q.L=Mz W.Q.L W.a 1 true:=by rw[<-hQ];rfl
     have uE:Q.s=W.Q.s/\Q.m=W.Q.m:=by rw[<-hQ];exact⟨rfl,rfl⟩
     have FZ:W.a+1<=W.Q.L.length:=by omega
     have ew:=YC (eH.m.ext hg) hW.pre.a2 (fun i h1 h2=>by rw[rP] at h2;rw[FY,Rb FZ,if_pos ⟨h1,h2⟩]);rw[rP] at ew;obtain⟨Q2,yB⟩:∃Q2,Q.Mg (Mz Q.L W.a 1 false)=Q2:=⟨_,rfl⟩;have tp:Q2.L=W.Q.L:=by rw[<-yB];show Mz Q.L W.a 1 false=_;rw[FY,z3e hW.pre FZ]
     have tq:Q2.s=W.Q.s/\Q2.m=W.Q.m:=by rw[<-yB];exact uE
     rw[yB] at ew;have fW:∀{w14:World},Kp (fun b=>¬Y2 b\/b=rr\/b=vb) w12.drew w14->Kp (fun b=>¬Y b\/b=rr\/b=vb) w12 w14:=fun hk=>hg.kp.trans (hk.L2 fun b e=>e.imp (fun e e2=>e (pM b e2)) id);have cS:∀{w14 w16:World},Kp (fun b=>¬Y2 b\/b=rr\/b=vb) w12.drew w14->Ext w14 w16->Kp (fun b=>¬Y b\/b=rr\/b=vb) w12 w16:=fun hk hx=>(fW hk).trans hx.kp
     have pL:∀{w14:World} {txt14:Int->Bytes} (h:Oa W.G Q2 txt14 K10 Y2 w14),Lk Tryz.prog 17 [ptr W.Q.s 0] w14 fun v w'=>v=ptr W.Q.m 0/\w'=w14:=fun h=>by
      have:=h.sp.map;rw[tq.1,tq.2] at this;exact this
     have eT:∀{w14:World} {txt14:Int->Bytes} (h:Oa W.G Q2 txt14 K10 Y2 w14),Lk Tryz.prog 18 [ptr W.Q.m 0] w14 fun v w'=>v=I ((200-W.a:Nat):Int)/\Ext w14 w':=fun h=>by
      have:=h.sp.room (by rw[tp];exact hW.pre) (by rw[tp];omega);rw[tq.2,tp,hL] at this;exact this
     refine KX rfl (run_seq (KV (fun w'=>Kp (fun b=>¬Y b\/b=rr\/b=vb) w12 w') (by kernel_rfl) rfl (KR 0 rfl (KW rfl) (hg.kp) (KR 1 rfl (KW rfl) (hg.kp) (KR 2 rfl (KW rfl) (hg.kp) (KR 4 rfl (KW rfl) (hg.kp) (KR 5 rfl (PM rfl rfl (by omega)) (hg.kp) (O2 3 [.tmp 133] rfl ze1 rfl (Yx (eH.m.ext hg)) ?_))))))));rintro _ w13 ⟨rfl,rfl⟩;refine⟨hg.kp,?_⟩;refine KR 6 rfl (Mr rfl rfl) (hg.kp) (OL (KR 7 rfl (LR rfl rfl) (hg.kp) (KR 8 rfl (KW rfl) (hg.kp) (KR 9 rfl (KW rfl) (hg.kp) (O2 10 [.tmp 140] rfl zdt rfl (ew) ?_)))));rintro _ w14 ⟨rfl,txt14,yl,JF,cX⟩;refine⟨fW cX,?_⟩;refine KR 11 rfl (Mr rfl rfl) (fW cX) (OL (KR 12 rfl (LR rfl rfl) (fW cX) (KR 13 rfl (KW rfl) (fW cX) (KR 14 rfl (KT z0d rfl) (fW cX) (qT 15 rfl (fun _ hS=>KS S4 rfl rfl (hS.KN aZ (fun e=>e.elim (fun e=>e (kB b6 jU)) (fun e=>by omega))) rfl) (fW cX) ?_)))));refine KR 18 rfl (KT z9q rfl) (fW cX) (qT 19 rfl (fun _ hS=>KS U3 rfl rfl (hS.KN aZ (fun e=>e.elim (fun e=>e (kB b6 jU)) (fun e=>by omega))) rfl) (fW cX) ?_);refine O2 16 [.tmp 146] rfl zdJ rfl (pL yl) ?_;rintro _ w15 ⟨rfl,rfl⟩;refine⟨fW cX,?_⟩;refine O2 17 [.tmp 147] rfl z9T rfl (eT yl) ?_;rintro _ w16 ⟨rfl,bF⟩;refine⟨cS cX bF,?_⟩;refine KR 20 rfl (Mr rfl rfl) (cS cX bF) (OL (KR 21 rfl (LR rfl rfl) (cS cX bF) (KR 22 rfl (MO rfl) (cS cX bF) (qE (Ll.qb (e:=[(10,_)]) ?_)))));refine KP Tryz.func4 rfl (⟨_,rfl,rfl,ad.trans ((aC.KK (fW cX) fun b e=>?_).trans bF)⟩);rcases Nat.lt_or_ge b w1.heap.size with h| h
     ·exact e.elim (fun e=>absurd (kB b (oe b h)) e) (fun e=>by omega)
     ·exact h
  ·have E8:s.done=false:=by cases e:s.done with
    |false=>rfl
    |true=>exact absurd e hd
   have mR:=hN.i.zat hN.r E8;rw[E8];refine run_seq (qN rfl (An rfl (An rfl (qV (LM R6 rfl) (qV (Qv rfl rfl) (MR (An rfl (An rfl (qV ((by first|exact LN rfl|exact Na rfl)) ?_)))))))));refine qV (LR rfl rfl) (py (L3 rfl (It (run_seq (KL (qN rfl (An rfl (La [.tmp 74] z6Z rfl (z1A hN (by omega) E8) ?_))))))));rintro _ w11 ⟨rfl,txt11,iE,E3,aP⟩;refine An rfl (qV (Lu rfl rfl) (qV (Lu rfl rfl) (KO rfl (KO rfl (py (run_seq (qN rfl (An rfl (qV (M0 rfl rfl) (py (KH rfl (It (KQ rfl ?_)))))))))))));refine An rfl (KO rfl (py (KM (KQ rfl (An rfl (LH rfl rfl (KO rfl (py ?_))))))))
   have aQ:Ext w1 w11:=bz.KK aP fun b e=>by
    rcases Nat.lt_or_ge b w1.heap.size with h| h
    ·exact e.elim (fun e=>absurd (kB b (oe b h)) e) (fun e=>by omega)
    ·exact h
   exact(ih (s.step W.G.g) _ ⟨⟨txt11,K10+3200,iE,by show K10+3200<=1000+3300*(s.t+1);omega⟩,aQ,aP.KN dK (fun e=>e.elim (fun e=>e (kB b6 jU)) (fun e=>pD e))⟩ (by show g.length+1-(s.t+1)<g.length+1-s.t;omega)).qb
end Go.Proofs.YtpldpcjdjcgicaaGreatDoor
namespace Go.Proofs.YtpldpcjdjcgicaaGreatDoor
open Go Go.ChangeShapes Go.WideShapes Go.ChangeAt Go.RowKit
set_option linter.all false
def TP (P:Program)(ts:List TypeId):Bool:=ts.all fun t=>P.readableRec t&&decide (t<P.types.size)
theorem Se {H:Type}{enc:TypeId×Value->H}{P:Program}(hl:laidOutB P=true){W W':World}(hb:Below W.heap.size W W'):
  ∀ {ts : List TypeId} {vs : List Value} {ds : List (DataW H)} {ps : List MemPlace}, TP P ts = true -> DataW.TrodAll enc P W 0 (fun _ => true) true ts vs ds ps ->
    DataW.TrodAll enc P W' 0 (fun b=>decide (b<W.heap.size)) true ts vs ds ps
 |[],[],[],_,_,h=>h
 | t :: ts, v :: vs, d :: ds, _, hr, h => by
   obtain⟨p,q,h1,h2,rfl⟩:=h;simp only[TP,List.all_cons,Bool.and_eq_true,decide_eq_true_eq] at hr
   exact⟨p,q,Below.trod hl hr.1.1 hr.1.2 h1 hb (by obtain⟨m,hm⟩:=h1;exact DataW.trod_lt m _ _ _ hm),Se hl hb hr.2 h2,rfl⟩
 |[],[],_::_,_,_,h=>h.elim
 |[],_::_,_,_,_,h=>h.elim
 |_::_,[],_,_,_,h=>h.elim
 |_::_,_::_,[],_,_,h=>h.elim
theorem UC {H:Type}{enc:TypeId×Value->H}{P:Program}{W:World}{base:Nat}{spare:Nat->Bool}{held:Bool}:
  ∀{ts:List TypeId} {vs:List Value} {ds:List (DataW H)} {ps:List MemPlace},DataW.TrodAll enc P W base spare held ts vs ds ps->ds.length=ts.length
 |[],[],[],_,_=>rfl
 | t :: ts, v :: vs, d :: ds, _, h => by
   obtain⟨p,q,h1,h2,rfl⟩:=h
   simpa using UC h2
 |[],[],_::_,_,h=>h.elim
 |[],_::_,_,_,h=>h.elim
 |_::_,[],_,_,h=>h.elim
 |_::_,_::_,[],_,h=>h.elim
theorem own:ownKnob Tryz.prog.godebug=none:=by kernel_rfl
theorem laidOut:laidOutB Tryz.prog=true:=by kernel_rfl
end Go.Proofs.YtpldpcjdjcgicaaGreatDoor
namespace Go.Proofs.YtpldpcjdjcgicaaGreatDoor
open Go Go.ChangeShapes Go.WideShapes Go.ChangeAt Go.RowKit Go.Deep
set_option linter.all false
set_option maxRecDepth 100000
section
variable {H:Type}{enc:TypeId×Value->H}{W:World}{sp:Nat->Bool}
theorem z52 (n:Int)(h:(Lit.int .u32 n).wf=true):Value.int .u32 n=Lp n.toNat/\n.toNat<4294967296:=by
 simp[Lit.wf,IntKind.min,IntKind.max,IntKind.signed,IntKind.bits] at h
 exact⟨by unfold Lp;congr;omega,by omega⟩
theorem i64_in (n:Int)(h:(Lit.int .i64 n).wf=true): -9223372036854775808<=n/\n<=9223372036854775807:=by
 simp[Lit.wf,IntKind.min,IntKind.max,IntKind.signed,IntKind.bits] at h;omega
theorem z3O {w:World}{b off:Nat}{spot:Option Nat}{v:Value}(h:w.cell? ⟨b,off,spot⟩=some v):spot=none:=by
 unfold World.cell? at h
 split at h
 ·cases spot with
  |none=>rfl
  |some s=>simp at h
 ·cases h
theorem open_edges {fuel:Nat}{v:Value}{x:DataW H×List MemPlace}(h:DataW.trod enc Tryz.prog W 0 sp true fuel 22 [v]=some x)(hw:∀n∈x.1.weights Tryz.prog 22,n<=reachBytes):∃(ea:Option Addr) (ec:Nat) (es:List (Nat×Nat)),v= .slice ea es.length ec/\EdR W ea es/\es.length<=9000000000000000000:=by
 rcases open_slice_pairs U22 U65 (by kernel_rfl) rfl rfl (by kernel_rfl) (by kernel_rfl) h with⟨hv,hx⟩|⟨a,len,cap,m,n,V0,V1,D0,D1,P0,P1,hv,-,hl,hm,yS,hx,nL⟩
 ·cases hv;exact⟨none,0,[],rfl,fun i e he=>by simp at he,by simp⟩
 ·cases hv;have eL:maxLen=9223372036854775807:=rfl;have gL:len<=m:=by rw[yS];split<;>omega
  have hk:∀i,i<len->∃e:Nat×Nat,e.1<4294967296/\e.2<4294967296/\W.cell? (a.add (i*2))=some (Lp e.1)/\W.cell? (a.add (i*2+1))=some (Lp e.2):=fun i hi=>by
   obtain⟨c0,c1,h0,h1⟩:=nL i (by omega);obtain⟨n0,e0,-,f0⟩:=DataW.trod_int Mk h0;obtain⟨n1,e1,-,f1⟩:=DataW.trod_int Mk h1;have e0:V0 i= .int .u32 n0:=by simpa using e0
   have e1:V1 i= .int .u32 n1:=by simpa using e1
   obtain⟨q0,b0⟩:=z52 n0 f0;obtain⟨q1,b1⟩:=z52 n1 f1;exact⟨(n0.toNat,n1.toNat),b0,b1,by rw[c0,e0,q0],by rw[c1,e1,q1]⟩
  obtain⟨E,hE⟩:∃E:Nat->Nat×Nat,∀i,i<len->(E i).1<4294967296/\(E i).2<4294967296/\W.cell? (a.add (i*2))=some (Lp (E i).1)/\W.cell? (a.add (i*2+1))=some (Lp (E i).2):=
   choose_lt (α:=Nat×Nat) (n:=len) (p:=fun i e=>e.1<4294967296/\e.2<4294967296/\W.cell? (a.add (i*2))=some (Lp e.1)/\W.cell? (a.add (i*2+1))=some (Lp e.2)) hk
  refine⟨some a,cap,(List.range len).map E,by simp,fun i e he=>?_,?_⟩
  ·rw[List.getElem?_map] at he;rcases Nat.lt_or_ge i len with hi|hi
   ·rw[List.getElem?_range hi] at he;obtain rfl:=ML he;obtain⟨g1,g2,g3,g4⟩:=hE i hi;obtain⟨b,off,spot⟩:=a;have h3:=(hE 0 (by omega)).2.2.1;rw[Nat.zero_mul] at h3;simp only[Addr.add,if_true] at h3;obtain rfl:=z3O h3;rw[ME] at g3 g4;exact⟨g1,g2,b,off,rfl,g3,by rw[Nat.add_assoc];exact g4⟩
   ·rw[List.getElem?_eq_none (by simpa using hi)] at he;cases he
  ·have oc:=hw ((len+(m-len))*8) (by rw[hx];simp[DataW.weights,U22,show Tryz.prog.bytesOf 65=8 by kernel_rfl]);simp[reachBytes] at oc;simp;omega
end
end Go.Proofs.YtpldpcjdjcgicaaGreatDoor
namespace Go.Proofs.YtpldpcjdjcgicaaGreatDoor
open Go Go.ChangeShapes Go.WideShapes Go.ChangeAt Go.RowKit
set_option linter.all false
theorem law_lifted_tied {H:Type}{enc:TypeId×Value->H}{C:Checked}{os:Os}{f:FuncId}{fn:Func}{s:ChangeSpec}{t:TypeId}{ts:List TypeId}{laid:List (String×DataW Unit)}
  (own:ownKnob C.prog.godebug=none) (started:os.Started) (hl:laidOutB C.prog=true) (noInit:C.prog.inits.idxOf? f=none) (hfn:C.prog.funcs[f]? =some fn)
  (hts:fn.params.toList=ts) (hrd:TP C.prog ts=true) (hrt:fn.resultTypes=#[t]) (hb:C.prog.underlying t=some .bool) (hsv:s.vars=[])
  (hpl:(laid.all fun x=>x.2.handleName?.isNone)=true)
  (hspec:∀ds:List (DataW H),ds.length=ts.length->s.fn H ds={results:=[.lit (.bool true)],args:=ds})
  (witness:∃(w:World) (tape:Tape) (i:Input),w.os=os/\(w.forCall tape i).Shaped C.prog/\i.vars=[]/\Input.okWide C.prog (w.forCall tape i) .any w.heap.size f i/\
   ((s.pre enc C.prog fn [] false (w.forCall tape i).memory i.args/\laidMetH C.prog laid (w.forCall tape i).memory)/\sizedMet enc C.prog fn (OpenSpec.ofChange s) false (w.forCall tape i).memory i.args)/\({}:Assume).holds C.prog (lone (Frame.enter C.prog f i.args .normal) [] (w.forCall tape i)))
  (hret:∀(W:World) (base:Nat) (args:List Value) (ds:List (DataW H)) (ps:List MemPlace),W.ShapedOpen C.prog->laidMet C.prog laid W->
   (∀(j:Nat) t v,ts[j]? =some t->args[j]? =some v->Value.okWide C.prog W .any base t v)->
   DataW.TrodAll enc C.prog W 0 (fun _=>true) true ts args ds ps->W.noneFrozen ps->
   (DataW.weightsEach C.prog ts ds).all (·<=reachBytes)=true->
   Lk C.prog f args W fun v w'=>v= .bool true/\Ext W w'):
  ReturnsInHanded {} C os f .any (fun w args=>(s.pre enc C.prog fn [] false w args/\laidMetH C.prog laid w)/\sizedMet enc C.prog fn (OpenSpec.ofChange s) false w args) (s.post enc C.prog fn false true false false):=by
 refine returnsInHanded_of_calls own started noInit witness ?_
 intro w tape i _ hsh _ hok hpre hholds
 obtain⟨_,_,_,fn',hfn',_,_,_,_,hval⟩:=hok
 have e:fn'=fn:=Option.some.inj (hfn'.symm.trans hfn)
 subst e
 obtain⟨⟨⟨ds,gs,before,hw,hc⟩,hx⟩,hz⟩:=hpre
 have hW:=DataW.Whole.of_heap (w':=w.forCall tape i) (by rfl) hw
 have hW':=hW
 have hsz0:(DataW.weightsEach C.prog (fn'.params.toList++s.plain.varTypes C.prog) (ds++gs)).all (·<=reachBytes)=true:=hz.weights hw
 obtain⟨p,q,hA,hV,rfl,hfz,_⟩:=hW
 rw[hsv] at hV
 obtain⟨rfl,rfl⟩:=trodVars_none hV
 rw[hts] at hA
 have hlen:=UC hA
 have hsz:(DataW.weightsEach C.prog ts ds).all (·<=reachBytes)=true:=by
  have hv:s.plain.varTypes C.prog=[]:=by simp[ChangeSpec.plain,DataSpec.varTypes,hsv]
  rw[hts,hv,List.append_nil,List.append_nil] at hsz0;exact hsz0
 have hL:laidMet C.prog laid (w.forCall tape i):=by
  rw[MakeChecks.laidMetH_plain _ _ _ hpl] at hx;exact hx.of_heap (by rfl)
 have hr:=hret _ w.heap.size i.args.toList ds p hsh hL (fun j t v h1 h2=>hval j t v (by rw[<-hts] at h1;simpa using h1) (by simpa using h2)) hA (by rw[List.append_nil] at hfz;exact hfz) hsz
 unfold Lk at hr;rw[Array.toArray_toList] at hr
 refine Calls.mono hr fun x W' ⟨v,hx,hv,hext⟩=>?_
 subst hx;subst hv
 have bel:=hext.below
 refine ChangeSpec.post_blind ⟨ds,[],p++[],[],p,[],hW',?_,?_,?_,bel.frame _,fun h=>by cases h⟩
 ·rw[List.append_nil,hspec ds hlen,hrt];exact trodAll_mk1 (shut_bool hb _)
 ·rw[List.append_nil,hspec ds hlen,hts];exact Se hl bel hrd hA
 ·rw[hsv,List.append_nil,hspec ds hlen]
  rfl
theorem pair_cells {P:Program}{W:World}{t fuel:Nat}{cs:Array Value}{f0 f1:Field}{ka kb:IntKind}{a b:Int}{p:List MemPlace}(hs:P.underlying t=some (.struct #[f0,f1]))(hc:P.cellsOf t=2)(o0:f0.offset=0)(o1:f1.offset=1)
  (c0:P.cellsOf f0.type=1) (c1:P.cellsOf f1.type=1) (u0:P.underlying f0.type=some (.int ka)) (u1:P.underlying f1.type=some (.int kb))
  (hd:DataW.trod (fun _=>()) P W 0 (fun _=>true) false fuel t cs.toList=some (.agg [.lit (.int ka a),.lit (.int kb b)],p)):cs.toList=[.int ka a,.int kb b]:=by
 obtain⟨y0,y1,n,hx,hl,h0,h1⟩:=trod_struct2 hs hd
 obtain⟨v0,e0,rfl,-⟩:=DataW.trod_int u0 h0
 obtain⟨v1,e1,rfl,-⟩:=DataW.trod_int u1 h1
 rw[hc] at hl
 rw[o0,c0] at e0
 rw[o1,c1] at e1
 simp at hx
 obtain⟨⟨rfl,rfl⟩,-⟩:=hx
 match hcs:cs.toList,hl with
 | [x, y], _ =>
   rw[hcs] at e0 e1;simp at e0 e1;rw[e0,e1]
theorem z2a {P:Program}{W:World}{n:String}{g T:Nat}{cs:Array Value}{l:List Value}(hW:W.ShapedOpen P)(hgs:g<P.globals.size)(hz:(((begin P (fun _ _=>0) default).world.heap[g]?).bind Obj.row?).map (·.2)=some T)(hg:P.globalNamed n=some g)(hv:W.var? P n=some cs)(hcs:cs.toList=l):KY W g l T:=by
 cases hr:((begin P (fun _ _=>0) default).world.heap[g]?).bind Obj.row? with
 |none=>rw[hr] at hz;cases hz
 | some x =>
   obtain⟨z,t⟩:=x;rw[hr] at hz;obtain rfl:t=T:=Option.some.inj hz;obtain⟨c,hh,-,-⟩:=hW.1 g z t hgs hr;simp only[World.var?,hg,Option.bind_some,hh] at hv;have hc:c=cs:=by simpa using hv
   subst hc;refine⟨(0,0),by rw[hh,<-hcs],fun i _ e=>by simp at e⟩
theorem laid_two {W:World}{laid:List (String×DataW Unit)}(hlaid:laid=[("wattle/list.gamma",.agg [.lit (.int .u8 1),.lit (.int .u64 0)]),("wattle/list.unary",.agg [.lit (.int .u8 0),.lit (.int .u64 0)])])(hW:W.ShapedOpen Tryz.prog)(h:laidMet Tryz.prog laid W):KY W 1 [.int .u8 1,.int .u64 0] 298/\KY W 2 [.int .u8 0,.int .u64 0] 298:=by
 subst hlaid
 obtain⟨ps,hL,-,hB⟩:=h
 obtain⟨g0,t0,cs0,fuel0,p0,q0,hg0,ht0,hv0,hd0,hL,hps⟩:=hL
 obtain⟨g1,t1,cs1,fuel1,p1,q1,hg1,ht1,hv1,hd1,hL,hqs⟩:=hL
 obtain rfl:=Option.some.inj ((show Tryz.prog.globalNamed "wattle/list.gamma"=some 1 by kernel_rfl).symm.trans hg0)
 obtain rfl:=Option.some.inj ((show Tryz.prog.globalNamed "wattle/list.unary"=some 2 by kernel_rfl).symm.trans hg1)
 obtain rfl:=Option.some.inj ((show(Tryz.prog.globals[1]?).map (·.type)=some 298 by kernel_rfl).symm.trans ht0)
 obtain rfl:=Option.some.inj ((show(Tryz.prog.globals[2]?).map (·.type)=some 298 by kernel_rfl).symm.trans ht1)
 have e0:=pair_cells Tryz.underlying298 (by kernel_rfl) rfl rfl (by kernel_rfl) (by kernel_rfl) Tryz.underlying5 Tryz.underlying41 hd0
 have e1:=pair_cells Tryz.underlying298 (by kernel_rfl) rfl rfl (by kernel_rfl) (by kernel_rfl) Tryz.underlying5 Tryz.underlying41 hd1
 have hgs:∀g:Nat,g<3->g<Tryz.prog.globals.size:=fun g hg=>Nat.lt_of_lt_of_le hg (of_decide_eq_true (by kernel_rfl))
 exact⟨z2a hW (hgs 1 (by decide)) (by kernel_rfl) hg0 hv0 e0,z2a hW (hgs 2 (by decide)) (by kernel_rfl) hg1 hv1 e1⟩
noncomputable def limWorld (os:Os):World:=
 let w0:=World.holding Tryz.prog os ⟨#[],#[],[]⟩
 { w0 with heap := w0.heap.modify 1 fun
   | .cells _ t frozen=> .cells #[.int .u8 1,.int .u64 0] t frozen
   |o=>o}
end Go.Proofs.YtpldpcjdjcgicaaGreatDoor
