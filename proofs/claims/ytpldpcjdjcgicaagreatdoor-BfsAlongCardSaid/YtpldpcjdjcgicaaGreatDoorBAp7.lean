/- Texts ArE, ArF, ArG, PlA, PlB, PlC, PlD, PlE, PlF, PlG, ShR, Bdr, StP, VcP, StA, VcQ, SumsP, SumsA, StB, StC, StD, one behind the other (what the statement BfsAlong does not use is left out). -/
import Derived.Test.YtpldpcjdjcgicaaGreatDoorBAp2
import Derived.Test.YtpldpcjdjcgicaaGreatDoorBAp6
import Derived.Shelf.Strings.Repeat
import Derived.Test.YtpldpcjdjcgicaaGreatDoorProg
import Derived.Room.AppendFits
set_option maxHeartbeats 16000000
namespace Go.Proofs.YtpldpcjdjcgicaaGreatDoor
open Go Go.RowKit
set_option linter.all false
set_option maxRecDepth 100000
theorem Arc.Ok.z9g {A:Arc}(h:A.Ok):(A.Mi 2 (A.KX.drop 1)).Ok:=by
 have hs:(A.Mi 2 (A.KX.drop 1)).all.Sublist A.all:=(((List.drop_sublist 1 A.KX).append_right A.KU).append_left A.often).append_left A.once
 have:=h.first
 have h2:=hs.length_le
 have h3:=h.total
 exact⟨h.pos,h.nd.sublist hs,h.held,by show A.once.length+(A.KX.drop 1).length≤A.size;rw[List.length_drop];omega,Nat.le_trans h2 h3,h.tg⟩
theorem Arc.Ok.zbB {A:Arc}(h:A.Ok):(A.Mi 3 (A.KU.drop 1)).Ok:=by
 have hs:(A.Mi 3 (A.KU.drop 1)).all.Sublist A.all:=(((List.drop_sublist 1 A.KU).append_left A.KX).append_left A.often).append_left A.once
 exact⟨h.pos,h.nd.sublist hs,h.held,h.first,Nat.le_trans hs.length_le h.total,h.tg⟩
section
variable {w w' w2:World}{c p:Nat}{A A' A2:Arc}{V V' V2:Nat→Value×Value}{S:Nat→Prop}{k:Int}
theorem NH.head (h:NH w c A V p){j:Nat}(hj:j<4){x:Int}{r:List Int}(hl:A.li j=x::r):∃b o cp,(V j).1= .slice (some ⟨b,o,none⟩) (A.li j).length cp∧w.cell? ⟨b,o+0*1,none⟩=some (I x):=by
 have hR:=(h.q j hj).sl.rd
 rcases hR.2 with⟨c,hc,h0⟩|⟨b,off,c',hc,-⟩
 ·rw[hl] at h0;simp at h0
 ·rw[hc] at hR;exact⟨b,off,c',hc,LN hR (i:=0) (by rw[hl];rfl)⟩
theorem VG (h:NH w c A V p)(hA:A.Ok)(cn:A.size≤1000):Le Tryz.prog 161 [ptr c 0] w fun v w'=>v=z6O false A.add.2∧∃V',RE w c V p w' A.add.1 V':=by
 have rh:=hA.lens cn 0
 have j6:=hA.lens cn 1
 have il:=hA.lens cn 2
 have lQ:=hA.lens cn 3
 have gM:=hA.pos
 have iE:=A.Mf
 have tJ:=hA.held
 have Kb:=hA.first
 have eu:=hA.total
 have aQ:∀{b:Nat},Nw c V p b→b<w.heap.size:=h.lt
 rw[show A.li 0=A.once from rfl] at rh
 rw[show A.li 1=A.often from rfl] at j6
 rw[show A.li 2=A.KX from rfl] at il
 rw[show A.li 3=A.KU from rfl] at lQ
 have hB:=h.cells
 obtain⟨a0,c0,e0,-⟩:∃a c,(V 0).1= .slice a A.once.length c∧_:=(h.q 0 (by decide)).sl.rd.shape
 obtain⟨a1,c1,e1,-⟩:∃a c,(V 1).1= .slice a A.often.length c∧_:=(h.q 1 (by decide)).sl.rd.shape
 obtain⟨a2,c2,e2,-⟩:∃a c,(V 2).1= .slice a A.KX.length c∧_:=(h.q 2 (by decide)).sl.rd.shape
 obtain⟨a3,c3,e3,-⟩:∃a c,(V 3).1= .slice a A.KU.length c∧_:=(h.q 3 (by decide)).sl.rd.shape
 rw[e0,e1,e2,e3] at hB
 refine KA (e:=[(0,_)]) Tryz.func161 rfl Tryz.ntmps161 rfl rfl (qN rfl (KL rfl rfl (MN (cs:=[_,_,_]) Lf rfl) ?_))
 rintro _ w1 ⟨b2,rfl,bM,ad,ak⟩
 replace ak:KP w1 b2 [.bool false,.bool false,I 0] 232:=ak
 have n2:∀b,Nw c V p b→b≠b2:=fun b hb e=>by have:=aQ hb;omega
 have ai:=ad.KD hB
 have aP:=Ext.L4 w1
 refine py (run_seq (KN (fun w'=>Ext w1 w') (by kernel_rfl) rfl (KH 0 rfl (KM rfl) aP (KH 1 rfl (KZ rfl) aP (KH 2 rfl (KK M7 rfl) aP (KH 3 rfl (KK LA rfl) aP (qT 4 rfl (fun _ h=>KJ Mu rfl rfl (h.KD ai) rfl) aP (KH 5 rfl (LG Mu rfl) aP (KH 6 rfl (KM rfl) aP (KH 7 rfl (KZ rfl) aP (KH 8 rfl (KK Ml rfl) aP (KH 9 rfl (KK LA rfl) aP (qT 10 rfl (fun _ h=>KJ Mu rfl rfl (h.KD ai) rfl) aP ?_)))))))))))))
 refine KH 11 rfl (LG Mu rfl) aP (KH 12 rfl (PW rfl rfl (by omega)) aP (KH 13 rfl (ML rfl) aP (qE (run_seq ?_))))
 rw[show(A.once.length:Int)+(A.KX.length:Int)=((A.once.length+A.KX.length:Nat):Int) by omega]
 have aa:=Ext.L4 w1.drew
 have qd:=aP.KD ai
 refine KN (fun w'=>Ext w1.drew w') (by kernel_rfl) rfl (KH 0 rfl (KM rfl) aa (KH 1 rfl (KM rfl) aa (KH 2 rfl (KZ rfl) aa (KH 3 rfl (KK Mx rfl) aa (KH 4 rfl (KK LA rfl) aa (qT 5 rfl (fun _ h=>KJ Mu rfl rfl (h.KD qd) rfl) aa (KH 6 rfl (LG Mu rfl) aa (KH 7 rfl (PW rfl rfl (by omega)) aa (KH 8 rfl (KM rfl) aa (KH 9 rfl (KZ rfl) aa (KH 10 rfl (KK Mw rfl) aa (KH 11 rfl (KK LA rfl) aa (qT 12 rfl (fun _ h=>KJ Mu rfl rfl (h.KD qd) rfl) aa ?_)))))))))))))
 refine KH 13 rfl (LG Mu rfl) aa (KH 14 rfl (PW rfl rfl (by omega)) aa (KH 15 rfl (ML rfl) aa ?_))
 rw[show((A.once.length+A.KX.length:Nat):Int)+(A.often.length:Int)+(A.KU.length:Int)=(A.all.length:Int) by omega]
 have af:=(ad.trans aP).trans aa
 obtain⟨w2,su⟩:∃w2,w1.drew.drew=w2:=⟨_,rfl⟩
 rw[su] at af
 have aC:=aP.trans aa
 rw[su] at aC⊢
 have h2:=h.ext af
 have j9:=h2.cells
 rw[e0,e1,e2,e3] at j9
 have gS:=aC.KD ak
 have ag:=Ext.L4 w2
 refine qE (Lc.qb (e:=[(0,_),(2,_),(3,_),(4,_)]) ?_)
 refine run_seq (Lp (fun e' w'=>e'=[(0,ptr c 0),(2,ptr b2 0)]∧∃A' V',A'.Ok∧A'.size=A.size∧RE w2 c V p w' A' V'∧KP w' b2 [.bool false,.bool false,I 0] 232∧A.add=A'.room false∧w2.heap.size≤w'.heap.size) ?gt (fun gt=>?mV))
 case gt=>
  rintro e' w3 ⟨rfl,A',V',Il,xa,cf,ar,dj,z3⟩;refine qN rfl (An rfl (L2 [.tmp 115,.const (Value.bool false)] Vh rfl (Oo cf.m Il (by omega) false) ?_));rintro _ w4 ⟨rfl,V4,bO⟩;have hr:=cf.trans bO
  have n3:∀b,Nw c V' p b→b≠b2:=fun b hb e=>by
   rcases cf.fp b hb with h5|h5
   ·exact n2 b h5 e
   ·have:=gS.lt;omega
  have n4:∀b,Nw c V4 p b→b≠b2:=fun b hb e=>by
   rcases hr.fp b hb with h5|h5
   ·exact n2 b h5 e
   ·have:=gS.lt;omega
  have dW:=bO.k.KD ar (fun e=>n3 _ e rfl);obtain⟨g,hg⟩:∃g,(A'.room false).2=g:=⟨_,rfl⟩;rw[hg];refine KR rfl (Lo (news:=MD false g) Lf rfl rfl rfl rfl dW (by simp)) ?_;rintro w5 ⟨cx,aj⟩;replace cx:KP w5 b2 [.bool false,.bool g.isSome,I (g.getD 0)] 232:=cx;refine py (L8 Tryz.func161 (.cell Nv rfl Lf rfl (KP.cells (n:=3) cx (news:=[_,_,_]) rfl) rfl .nil) ?_);rw[dj,hg];have z1:=ad.size;have z2:=af.size;exact⟨_,rfl,rfl,V4,hr.m.kp aj n4,fun b hb=>(hr.fp b hb).imp id (fun e=>by omega),(af.kp.trans hr.k).Kz aj (fun j e=> .inl (by omega))⟩
 case mV =>
  have e13:(A.all.length:Int)=(A.all.length:Int):=rfl;have h3:=h2.ext ag;have pd:=ag.KD j9;have co:=ag.KD gS;have z1:=ad.size;have z2:=af.size;by_cases hf:A.once.length+A.KX.length=A.size
  ·by_cases ho:A.once.length<A.size
   ·refine KB (run_seq (KN (fun w'=>Ext w2 w') (by kernel_rfl) rfl (KH 0 rfl (KM rfl) ag (KH 1 rfl (KM rfl) ag (KH 2 rfl (KZ rfl) ag (KH 3 rfl (KK Nh rfl) ag (qT 4 rfl (fun _ h=>KJ U3 rfl rfl (h.KD j9) rfl) ag (KH 5 rfl (Mc rfl rfl) ag (Pf (KH 6 rfl (KM rfl) ag (KH 7 rfl (KM rfl) ag (KH 8 rfl (KZ rfl) ag (KH 9 rfl (KK M7 rfl) ag ?_)))))))))))));refine KH 10 rfl (KK LA rfl) ag (qT 11 rfl (fun _ h=>KJ Mu rfl rfl (h.KD j9) rfl) ag (KH 12 rfl (LG Mu rfl) ag (KH 13 rfl (KM rfl) ag (KH 14 rfl (KZ rfl) ag (KH 15 rfl (KK Nh rfl) ag (qT 16 rfl (fun _ h=>KJ U3 rfl rfl (h.KD j9) rfl) ag (KH 17 rfl (LW rfl rfl) ag (Pf (KH 18 rfl (LK rfl rfl) ag (KH 19 rfl (ML rfl) ag (qE (KS rfl ?_))))))))))))
    obtain⟨x,r,hw⟩:∃x r,A.KX=x::r:=by
     cases hx:A.KX with
     |nil=>rw[hx] at hf;simp at hf;omega
     |cons x r=>exact⟨x,r,rfl⟩
    obtain⟨lb,lo,lc,xc,-⟩:=h2.head (j:=2) (by decide) hw;rw[e2] at xc;cases xc;have df:=(h3.q 2 (by decide)).sl.rd;rw[e2] at df;have qe:0<A.KX.length:=by rw[hw];simp
    have j5:((A.li 2).map I)[0]? =some (I x):=by show(A.KX.map I)[0]? =_;rw[hw];rfl
    have ae:=Ext.L4 w2.drew;refine L5 [10] (fun w'=>Ext w2.drew w') (by kernel_rfl) rfl (qL [1,2,10] 0 rfl (fun _ h=>KM rfl) ae (qL [2,10] 1 rfl (fun _ h=>KZ rfl) ae (qL [10] 2 rfl (fun _ h=>KK Ml rfl) ae (qL [4,5,6,7,8,9,10] 3 rfl (fun _ h=>KM rfl) ae (qL [5,6,7,8,9,10] 4 rfl (fun _ h=>KZ rfl) ae (qL [6,7,8,9,10] 5 rfl (fun _ h=>KK Ml rfl) ae (qL [7,8,9,10] 6 rfl (fun _ h=>KK LA rfl) ae (qL [8,9,10] 7 rfl (fun _ h=>KJ Mu rfl rfl (h.KD (ag.KD j9)) rfl) ae (qL [9,10] 8 rfl (fun _ h=>Lt Mu LC rfl rfl (by omega)) ae (qL [10] 9 rfl (fun _ h=>Lb U3 rfl rfl (LN (df.ext h) (i:=0) j5)) ae (Lu [10] (by kernel_rfl) (by kernel_rfl) (OJ 10 [.tmp 57,.tmp 64] rfl NN rfl (LI (h3.ext ae) (j:=2) (k:=x) (by decide)) ?_))))))))))));rintro _ w5 ⟨rfl,V5,bY⟩;refine⟨trivial,?_⟩;have xd:(A.li 2).erase x=A.KX.drop 1:=by show A.KX.erase x=A.KX.drop 1;rw[hw];simp
    rw[xd] at bY;have eI:=(h2.r (ag.trans ae)).trans bY;have cx:=eI.k.KD gS (fun e=>n2 _ e rfl);refine qE (Lc.qb (e:=[(0,_),(2,_)]) ?_);refine KC ?_;exact(gt _ _ ⟨rfl,_,V5,hA.z9g,(UK A (j:=2) (by decide) _).1,eI,cx,by unfold Arc.add;rw[if_pos hf,if_pos ho];rfl,eI.k.size⟩).qb
   ·refine KB (run_seq (KN (fun w'=>Ext w2 w') (by kernel_rfl) rfl (KH 0 rfl (KM rfl) ag (KH 1 rfl (KM rfl) ag (KH 2 rfl (KZ rfl) ag (KH 3 rfl (KK Nh rfl) ag (qT 4 rfl (fun _ h=>KJ U3 rfl rfl (h.KD j9) rfl) ag (KH 5 rfl (Mc rfl rfl) ag (Pf (KH 6 rfl (KM rfl) ag (KH 7 rfl (KM rfl) ag (KH 8 rfl (KZ rfl) ag (KH 9 rfl (KK M7 rfl) ag ?_)))))))))))));refine KH 10 rfl (KK LA rfl) ag (qT 11 rfl (fun _ h=>KJ Mu rfl rfl (h.KD j9) rfl) ag (KH 12 rfl (LG Mu rfl) ag (KH 13 rfl (KM rfl) ag (KH 14 rfl (KZ rfl) ag (KH 15 rfl (KK Nh rfl) ag (qT 16 rfl (fun _ h=>KJ U3 rfl rfl (h.KD j9) rfl) ag (KH 17 rfl (LW rfl rfl) ag (Pw (KH 18 rfl (LK rfl rfl) ag (KH 19 rfl (ML rfl) ag (qE (Kx rfl (qN rfl ?_)))))))))))));refine An rfl (An rfl (qV (KZ rfl) (qV (KK Nh rfl) (qV (KJ U3 rfl rfl pd rfl) (qV (Mc rfl rfl) (MC (KE rfl (py (Lc.qb (e:=[(0,_),(2,_),(4,_),(66,_)]) ?_)))))))));refine KS rfl (qN rfl (An rfl (An rfl (qV (KZ rfl) (qV (KK M7 rfl) ?_)))))
    obtain⟨x,r,hw⟩:∃x r,A.once=x::r:=by
     cases hx:A.once with
     |nil=>rw[hx] at ho;simp at ho;omega
     |cons x r=>exact⟨x,r,rfl⟩
    have f0:=PY h3 (j:=0) (by decide);rw[show A.li 0=A.once from rfl,show RM A.once= .tuple #[I x,.bool true] by rw[hw];rfl] at f0;obtain⟨w3,tK⟩:∃w3,w2.drew=w3:=⟨_,rfl⟩;rw[tK] at f0 h3 co ag⊢;refine L2 [.tmp 74,.tmp 77] SV rfl (f0) ?_;rintro _ w3 ⟨rfl,rfl⟩;refine An rfl (qV (Ll (v:=I x) rfl rfl) (qV (Ll (v:= .bool true) rfl rfl) (KE rfl (KE rfl (qM rfl (An rfl (qV (KZ rfl) (qV (KK M7 rfl) (An rfl (L2 [.tmp 83,.tmp 84] NN rfl (LI h3 (j:=0) (k:=x) (by decide)) ?_))))))))));rintro _ w5 ⟨rfl,V5,bY⟩;have xd:(A.li 0).erase x=A.once.drop 1:=by show A.once.erase x=A.once.drop 1;rw[hw];simp
    rw[xd] at bY;have eI:=(h2.r ag).trans bY;have cx:=eI.k.KD gS (fun e=>n2 _ e rfl);refine qM rfl (An rfl (qV (Nc (parts:=[(1,.const (Value.bool true)),(2,.tmp 86)]) (cs:=[_,_,_]) Lf rfl QB rfl rfl) (KR rfl (Lo (news:=MD false (some x)) Lf rfl rfl rfl rfl cx (by simp)) ?_)));rintro w6 ⟨fj,aS⟩;replace fj:KP w6 b2 [.bool false,.bool true,I x] 232:=fj;refine py (L8 Tryz.func161 (.cell Nv rfl Lf rfl (KP.cells (n:=3) fj (news:=[_,_,_]) rfl) rfl .nil) ?_)
    have n5:∀b,Nw c V5 p b→b≠b2:=fun b hb e=>by
     rcases eI.fp b hb with h5|h5
     ·exact n2 b h5 e
     ·have:=gS.lt;omega
    have dj:A.add=(A.Mi 0 (A.once.drop 1),some x):=by unfold Arc.add;rw[if_pos hf,if_neg ho,hw];rfl
    rw[dj];exact⟨_,rfl,rfl,V5,eI.m.kp aS n5,fun b hb=>(eI.fp b hb).imp id (fun e=>by omega),(af.kp.trans eI.k).Kz aS (fun j e=> .inl (by omega))⟩
  ·refine KB (run_seq (KN (fun w'=>Ext w2 w') (by kernel_rfl) rfl (KH 0 rfl (KM rfl) ag (KH 1 rfl (KM rfl) ag (KH 2 rfl (KZ rfl) ag (KH 3 rfl (KK Nh rfl) ag (qT 4 rfl (fun _ h=>KJ U3 rfl rfl (h.KD j9) rfl) ag (KH 5 rfl (Mc rfl rfl) ag (Pw (KH 6 rfl (KM rfl) ag (qJ 7 rfl (ag) (qJ 8 rfl (ag) (qJ 9 rfl (ag) ?_)))))))))))));refine qJ 10 rfl (ag) (qJ 11 rfl (ag) (qJ 12 rfl (ag) (qJ 13 rfl (ag) (qJ 14 rfl (ag) (qJ 15 rfl (ag) (qJ 16 rfl (ag) (qJ 17 rfl (ag) (KH 18 rfl (Lk rfl rfl) ag (KH 19 rfl (ML rfl) ag (qE (Kx rfl (qN rfl (An rfl ?_)))))))))))));refine An rfl (qV (KZ rfl) (qV (KK Nh rfl) (qV (KJ U3 rfl rfl pd rfl) (qV (Mc rfl rfl) (Lq (KE rfl (py (Lc.qb (e:=[(0,_),(2,_),(4,_),(66,_)]) ?_))))))));refine Kx rfl (qN rfl (An rfl (An rfl (qV (KZ rfl) (qV (KK Nh rfl) (qV (KJ U3 rfl rfl pd rfl) ?_))))));by_cases h4:A.all.length<A.size
   ·refine qV (LW rfl rfl) (MC (KE rfl (py (KS rfl (qN rfl (qV (Nc (parts:=[]) (cs:=[_,_,_]) Lf rfl QB rfl rfl) (KR rfl (Lo (news:=MD false none) Lf rfl rfl rfl rfl co (by simp)) ?_)))))));rintro w5 ⟨cx,aj⟩;replace cx:KP w5 b2 [.bool false,.bool false,I 0] 232:=cx;refine py (L8 Tryz.func161 (.cell Nv rfl Lf rfl (KP.cells (n:=3) cx (news:=[_,_,_]) rfl) rfl .nil) ?_);have dj:A.add=(A,none):=by unfold Arc.add;rw[if_neg hf,if_pos h4]
    rw[dj];exact⟨_,rfl,rfl,V,h3.kp aj n2,fun b hb=> .inl hb,((af.trans ag).Kz aj (fun j e=>by omega)).kp⟩
   ·refine qV (LW rfl rfl) (Lq (KE rfl (py (Kx rfl (qN rfl (An rfl (An rfl (qV (KZ rfl) (qV (KK Nh rfl) (qV (KJ U3 rfl rfl pd rfl) (qV (SD rfl rfl (by omega)) ?_)))))))))));by_cases h5:A.all.length=2*A.size
    ·refine qV (Mc rfl rfl) (MC (KE rfl (py (KS rfl ?_))))
     obtain⟨x,r,hw⟩:∃x r,A.KU=x::r:=by
      cases hx:A.KU with
      |nil=>rw[hx] at iE;simp at iE;omega
      |cons x r=>exact⟨x,r,rfl⟩
     obtain⟨lb,lo,lc,xc,-⟩:=h2.head (j:=3) (by decide) hw;rw[e3] at xc;cases xc;have df:=(h3.q 3 (by decide)).sl.rd;rw[e3] at df;have qe:0<A.KU.length:=by rw[hw];simp
     have j5:((A.li 3).map I)[0]? =some (I x):=by show(A.KU.map I)[0]? =_;rw[hw];rfl
     have ae:=Ext.L4 w2.drew;refine L5 [10] (fun w'=>Ext w2.drew w') (by kernel_rfl) rfl (qL [1,2,10] 0 rfl (fun _ h=>KM rfl) ae (qL [2,10] 1 rfl (fun _ h=>KZ rfl) ae (qL [10] 2 rfl (fun _ h=>KK Mw rfl) ae (qL [4,5,6,7,8,9,10] 3 rfl (fun _ h=>KM rfl) ae (qL [5,6,7,8,9,10] 4 rfl (fun _ h=>KZ rfl) ae (qL [6,7,8,9,10] 5 rfl (fun _ h=>KK Mw rfl) ae (qL [7,8,9,10] 6 rfl (fun _ h=>KK LA rfl) ae (qL [8,9,10] 7 rfl (fun _ h=>KJ Mu rfl rfl (h.KD (ag.KD j9)) rfl) ae (qL [9,10] 8 rfl (fun _ h=>Lt Mu LC rfl rfl (by omega)) ae (qL [10] 9 rfl (fun _ h=>Lb U3 rfl rfl (LN (df.ext h) (i:=0) j5)) ae (Lu [10] (by kernel_rfl) (by kernel_rfl) (OJ 10 [.tmp 106,.tmp 113] rfl NN rfl (LI (h3.ext ae) (j:=3) (k:=x) (by decide)) ?_))))))))))));rintro _ w5 ⟨rfl,V5,bY⟩;refine⟨trivial,?_⟩;have xd:(A.li 3).erase x=A.KU.drop 1:=by show A.KU.erase x=A.KU.drop 1;rw[hw];simp
     rw[xd] at bY;have eI:=(h2.r (ag.trans ae)).trans bY;have cx:=eI.k.KD gS (fun e=>n2 _ e rfl);refine qE (Lc.qb (e:=[(0,_),(2,_)]) ?_);refine KC ?_;exact(gt _ _ ⟨rfl,_,V5,hA.zbB,(UK A (j:=3) (by decide) _).1,eI,cx,by unfold Arc.add;rw[if_neg hf,if_neg h4,if_pos h5];rfl,eI.k.size⟩).qb
    ·refine qV (Mc rfl rfl) (Lq (KE rfl (py (Kx rfl (It (KC ?_))))));exact(gt _ _ ⟨rfl,A,V,hA,rfl,h2.r ag,co,by unfold Arc.add;rw[if_neg hf,if_neg h4,if_neg h5],ag.size⟩).qb
end
section
variable {w w' w2:World}{c p:Nat}{A A' A2:Arc}{V V' V2:Nat→Value×Value}{S:Nat→Prop}{k:Int}
theorem NH.Tf (h:NH w c A V p){T:Int}(hB:KP w' c (Zz A.size T V p) 167)(hk:Kp (fun b=>b=c) w w'):RE w c V p w' {A with target:=T} V:=
 ⟨⟨hB,fun j hj=>by
  have e:({A with target:=T}:Arc).li j=A.li j:=by match j,hj with|0,_|1,_|2,_|3,_=>rfl
  rw[e]
  exact(h.q j hj).kp hk fun b hb e=>h.nc j hj (e▸hb),hk.map h.pins (fun e=>h.cp e.symm),h.Qu,h.nc,h.np,h.cp⟩,fun b hb=> .inl hb,hk.KT fun b e=> .inl e⟩
theorem Arc.Ok.Tf (h:A.Ok){T:Int}(hT:0≤T∧T≤A.size):({A with target:=T}:Arc).Ok:=⟨h.pos,h.nd,h.held,h.first,h.total,hT⟩
theorem RE.mono (h:RE w c V p w' A' V'){b:Nat}(hb:∀j,Nw c V p j→j≠b)(hw:b<w.heap.size):∀j,Nw c V' p j→j≠b:=fun j hj e=>by
 rcases h.fp j hj with h5|h5
 ·exact hb j h5 e
 ·omega
theorem ZD (h : NH w c A V p)(hA : A.Ok)(cn : A.size ≤ 1000) : Le Tryz.prog 125 [ptr c 0, I k] w fun v w' => v = .tuple #[z6O (A.Mt k).2.1 (A.Mt k).2.2, I 0] ∧ ∃ V', RE w c V p w' (A.Mt k).1 V' := by
 have j6:=hA.lens cn 1
 have il:=hA.lens cn 2
 have lQ:=hA.lens cn 3
 have Ij:=hA.tg
 have gM:=hA.pos
 have iE:=A.Mf
 have eu:=hA.total
 have gE:=hA.nd
 unfold Arc.all at gE
 rw[List.nodup_append] at gE
 obtain⟨nd1,nd2,nd3⟩:=gE
 rw[List.nodup_append] at nd2
 obtain⟨nd4,nd5,nd6⟩:=nd2
 have aQ:∀{b:Nat},Nw c V p b→b<w.heap.size:=h.lt
 rw[show A.li 1=A.often from rfl] at j6
 rw[show A.li 2=A.KX from rfl] at il
 rw[show A.li 3=A.KU from rfl] at lQ
 refine KA (e:=[(0,_),(1,_)]) Tryz.func125 rfl Tryz.ntmps125 rfl rfl (qN rfl (KL rfl rfl (MN (cs:=[_,_,_]) Lf rfl) ?_))
 rintro _ w1 ⟨b4,rfl,gA,ad,aI⟩
 replace aI:KP w1 b4 [.bool false,.bool false,I 0] 232:=aI
 have n4:∀b,Nw c V p b→b≠b4:=fun b hb e=>by have:=aQ hb;omega
 have l4:=aI.lt
 have h1:=h.ext ad
 have z1:=ad.size
 refine KE rfl (py (run_seq (qN rfl (An rfl (qV (LO U89 rfl rfl) (py (Kx rfl (It (run_seq (qN rfl (An rfl (An rfl (L2 [.tmp 13,.tmp 14] zaW rfl (z3q h1 (k:=k)) ?_)))))))))))))
 rintro _ w1 ⟨rfl,rfl⟩
 by_cases bC:k∈A.once∨k∈A.often
 ·rw[decide_eq_true bC];refine py (KS rfl (qN rfl (An rfl (qV (KZ rfl) (qV (KK M7 rfl) (An rfl (L2 [.tmp 18,.tmp 19] NN rfl (LI h1 (j:=0) (k:=k) (by decide)) ?_)))))));rintro _ w2 ⟨rfl,V2,et⟩;refine qM rfl (An rfl (qV (KZ rfl) (qV (KK Mx rfl) (An rfl (L2 [.tmp 23,.tmp 24] NN rfl (LI et.m (j:=1) (k:=k) (by decide)) ?_)))));rintro _ w3 ⟨rfl,V3,cf⟩;refine qM rfl (An rfl (qV (KZ rfl) (qV (KK Mx rfl) (An rfl ?_))))
  have tF:k∉((A.Mi 0 ((A.li 0).erase k)).Mi 1 (((A.Mi 0 ((A.li 0).erase k)).li 1).erase k)).li 1:=by
   show k∉A.often.erase k;exact nd4.not_mem_erase
  have jh:(((A.Mi 0 ((A.li 0).erase k)).Mi 1 (((A.Mi 0 ((A.li 0).erase k)).li 1).erase k)).li 1).length≤8191:=by
   show(A.often.erase k).length≤_;have:=(List.length_erase_le:(A.often.erase k).length≤A.often.length);omega
  refine L2 [.tmp 28,.tmp 29] Oa rfl (Md cf.m (j:=1) (k:=k) (by decide) tF jh) ?_;rintro _ w4 ⟨rfl,V4,bO⟩;have hr:=(et.trans cf).trans bO;have cg:=hr.k.KD aI (fun e=>n4 _ e rfl);refine qM rfl (qV (Nc (parts:=[(0,.const (Value.bool true))]) (cs:=[_,_,_]) Lf rfl QB rfl rfl) (KR rfl (Lo (news:=MD true none) Lf rfl rfl rfl rfl cg (by simp)) ?_));rintro w5 ⟨aH,aj⟩;replace aH:KP w5 b4 [.bool true,.bool false,I 0] 232:=aH;refine KE rfl (py (Lc.qb (e:=[(0,_),(1,_),(4,_),(5,_)]) ?_));refine L8 Tryz.func125 (.cell Nv rfl Lf rfl (KP.cells (n:=3) aH (news:=[_,_,_]) rfl) rfl (.tmp rfl .nil)) ?_;have eu:A.Mt k=({A with once:=A.once.erase k,often:=A.often.erase k++[k]},true,none):=by unfold Arc.Mt;rw[if_pos bC]
  rw[eu];exact⟨_,rfl,rfl,V4,hr.m.kp aj (hr.mono n4 l4),fun b hb=>(hr.fp b hb).imp id (fun e=>by omega),(ad.kp.trans hr.k).Kz aj (fun j e=> .inl (by omega))⟩
 ·rw [decide_eq_false bC]; have iT : k ∉ A.once := fun e => bC (.inl e); have aN : k ∉ A.often := fun e => bC (.inr e); have kR : ¬ A.held k := bC; refine py (Kx rfl ?_); have f0 := PY h1 (j := 0) (by decide); have f1 := PY h1 (j := 1) (by decide); rw [show A.li 0 = A.once from rfl] at f0; rw [show A.li 1 = A.often from rfl] at f1
  obtain⟨v0,o0,e0,q0⟩:∃x o,RM A.once= .tuple #[I x,.bool o]∧(o=true↔A.once≠[]):=by
   cases A.once with
   |nil=>exact⟨_,_,rfl,by simp⟩
   |cons x r=>exact⟨_,_,rfl,by simp⟩
  obtain⟨v1,o1,e1,q1⟩:∃x o,RM A.often= .tuple #[I x,.bool o]∧(o=true↔A.often≠[]):=by
   cases A.often with
   |nil=>exact⟨_,_,rfl,by simp⟩
   |cons x r=>exact⟨_,_,rfl,by simp⟩
  rw[e0] at f0;rw[e1] at f1;refine It (qN rfl (An rfl (An rfl (qV (KZ rfl) (qV (KK M7 rfl) (L2 [.tmp 33,.tmp 36] SV rfl (f0) ?_))))));rintro _ w1 ⟨rfl,rfl⟩;refine An rfl (qV (Ll (v:=I v0) rfl rfl) (qV (Ll (v:= .bool o0) rfl rfl) (KE rfl (KE rfl (qM rfl (An rfl (An rfl (qV (KZ rfl) (qV (KK Mx rfl) (L2 [.tmp 41,.tmp 44] SV rfl (f1) ?_))))))))));rintro _ w1 ⟨rfl,rfl⟩;refine An rfl (qV (Ll (v:=I v1) rfl rfl) (qV (Ll (v:= .bool o1) rfl rfl) (KE rfl (KE rfl (py (Lc.qb (e:=[(0,_),(1,_),(4,_),(5,_),(7,_),(9,_)]) ?_))))));refine run_seq (qN rfl (An rfl (L2 [.tmp 48] z7j rfl (WO h1 hA cn) ?_)));rintro _ w2 ⟨rfl,af⟩;have h2:=h1.ext af;have bq:=af.KD aI;have aL:=ad.trans af;have z2:=af.size;have ev:=h2.cells;have aa:=Ext.L4 w2;obtain⟨a2,c2,e2,-⟩:∃a c,(V 2).1= .slice a A.KX.length c∧_:=(h.q 2 (by decide)).sl.rd.shape;obtain⟨a3,c3,e3,-⟩:∃a c,(V 3).1= .slice a A.KU.length c∧_:=(h.q 3 (by decide)).sl.rd.shape;rw[e2,e3] at ev;have su:=Sy h2 (j:=2) (k:=k) (by decide);have tK:=Sy h2 (j:=3) (k:=k) (by decide);rw[show A.li 2=A.KX from rfl] at su;rw[show A.li 3=A.KU from rfl] at tK;have n4':∀b,Nw c V p b→b≠b4:=n4;have l42:b4<w2.heap.size:=by omega
  by_cases bS:A.once.length+A.often.length=A.size
  ·rw [decide_eq_true bS]
   cases Fh:o0 with
   | true =>
     subst Fh;refine An rfl (An rfl (qV ((by first|exact LP rfl|exact Nq rfl)) ?_));refine qV (LK rfl rfl) (An rfl (qS (qS (qV (Lk rfl rfl) (py (Kx rfl (It (run_seq (KB (qN rfl (An rfl (qV (KZ rfl) (qV (KK Ml rfl) ?_)))))))))))));refine An rfl (L2 [.tmp 69,.tmp 70] U0 rfl (su) ?_);rintro _ w2 ⟨rfl,rfl⟩;by_cases hg:k∈A.KX
     ·rw[decide_eq_true hg];refine KE rfl (py (KS rfl (run_seq ?_)));have qe:0<A.KX.length:=List.length_pos_of_mem hg;obtain⟨q,hq⟩:∃q,A.KU.length / A.KX.length=q:=⟨_,rfl⟩;have gj:q≤2000:=by rw[←hq];exact Nat.le_trans (Nat.div_le_self _ _) lQ
      have lR:(A.KU.length:Int) / (A.KX.length:Int)=(q:Int):=by rw[←hq];exact(Int.natCast_ediv _ _).symm
      refine L5 [27] (fun w'=>Ext w2 w') (by kernel_rfl) rfl (qL [25,26,27] 0 rfl (fun _ h=>KM rfl) aa (qL [2,3,4,24,25,26,27] 1 rfl (fun _ h=>KM rfl) aa (qL [3,4,24,25,26,27] 2 rfl (fun _ h=>KZ rfl) aa (qL [4,24,25,26,27] 3 rfl (fun _ h=>KK Nh rfl) aa (qL [24,25,26,27] 4 rfl (fun _ h=>KJ U3 rfl rfl (h.KD ev) rfl) aa (qL [6,7,8,23,24,25,26,27] 5 rfl (fun _ h=>KM rfl) aa (qL [7,8,23,24,25,26,27] 6 rfl (fun _ h=>KZ rfl) aa (qL [8,23,24,25,26,27] 7 rfl (fun _ h=>KK Mo rfl) aa (qL [23,24,25,26,27] 8 rfl (fun _ h=>KJ U3 rfl rfl (h.KD ev) rfl) aa (qL [10,11,12,13,14,21,22,23,24,25,26,27] 9 rfl (fun _ h=>KM rfl) aa (qL [11,12,13,14,21,22,23,24,25,26,27] 10 rfl (fun _ h=>KZ rfl) aa (qL [12,13,14,21,22,23,24,25,26,27] 11 rfl (fun _ h=>KK Mw rfl) aa (qL [13,14,21,22,23,24,25,26,27] 12 rfl (fun _ h=>KK LA rfl) aa ?_)))))))))))));refine qL [14,21,22,23,24,25,26,27] 13 rfl (fun _ h=>KJ Mu rfl rfl (h.KD ev) rfl) aa (qL [21,22,23,24,25,26,27] 14 rfl (fun _ h=>LG Mu rfl) aa (qL [16,17,18,19,20,21,22,23,24,25,26,27] 15 rfl (fun _ h=>KM rfl) aa (qL [17,18,19,20,21,22,23,24,25,26,27] 16 rfl (fun _ h=>KZ rfl) aa (qL [18,19,20,21,22,23,24,25,26,27] 17 rfl (fun _ h=>KK Ml rfl) aa (qL [19,20,21,22,23,24,25,26,27] 18 rfl (fun _ h=>KK LA rfl) aa (qL [20,21,22,23,24,25,26,27] 19 rfl (fun _ h=>KJ Mu rfl rfl (h.KD ev) rfl) aa (qL [21,22,23,24,25,26,27] 20 rfl (fun _ h=>LG Mu rfl) aa (qL [22,23,24,25,26,27] 21 rfl (fun _ h=>Ra rfl rfl ⟨by omega,by omega,by omega⟩) aa ?_))))))));rw[lR];refine qL [23,24,25,26,27] 22 rfl (fun _ h=>yma rfl rfl) aa (qL [24,25,26,27] 23 rfl (fun _ h=>PW rfl rfl (by omega)) aa (qL [25,26,27] 24 rfl (fun _ h=>ymi rfl rfl) aa (qL [26,27] 25 rfl (fun _ h=>KZ rfl) aa (qL [27] 26 rfl (fun _ h=>KK Mo rfl) aa (Lu [27] (by kernel_rfl) (by kernel_rfl) (qO 27 (Lm (i:=27) rfl rfl (Mn LC rfl rfl rfl (aa.KD ev) (by simp)) ?_)))))));rintro w5 ⟨aG,aj⟩;refine⟨trivial,?_⟩;obtain⟨T,hT⟩:∃T:Int,min (A.size:Int) (A.target+max 1 (q:Int))=T:=⟨_,rfl⟩;have mW:0≤T∧T≤A.size:=by omega
      rw[hT] at aG
      replace aG:KP w5 c (Zz A.size T V p) 167:=by
       show KP w5 c [I (A.size:Int),(V 0).1,(V 0).2,(V 1).1,(V 1).2,(V 2).1,(V 2).2,(V 3).1,(V 3).2,I T,.map (some p)] _;rw[e2,e3];exact aG
      have bY:=(h2.ext aa).Tf aG aj;have aO:=hA.Tf mW;obtain⟨A5,bu⟩:∃A5:Arc,{A with target:=T}=A5:=⟨_,rfl⟩;have nH:A5.size=A.size:=by rw[←bu]
      have mX:¬A5.held k:=by rw[←bu];exact kR
      have pZ:k∈A5.KX:=by rw[←bu];exact hg
      rw[bu] at bY aO;refine qE (Lc.qb (e:=[(0,_),(1,_),(4,_),(5,_)]) ?_);refine qN rfl (An rfl (L2 [.tmp 99,.const (Value.bool false)] Vh rfl (Oo bY.m aO (by omega) false) ?_));rintro _ w6 ⟨rfl,V6,cz⟩;have aw:=Arc.Ob aO false;obtain⟨r6,cd⟩:∃r,A5.room false=r:=⟨_,rfl⟩;rw[cd] at cz aw⊢;obtain⟨A6,g6⟩:=r6;dsimp only at cz aw⊢;have dM:=aw.perm.length_eq;have iK:=A6.Mf;have mY:=A5.Mf;have mZ:=aO.total;have az:=((h2.r aa).trans bY).trans cz;have bI:=az.k.KD bq (fun e=>n4' _ e rfl);refine KR rfl (Lo (news:=MD false g6) Lf rfl rfl rfl rfl bI (by simp)) ?_;rintro w7 ⟨bc,aA⟩;replace bc:KP w7 b4 [.bool false,.bool g6.isSome,I (g6.getD 0)] 232:=bc;have n46:=az.mono n4' l42;have fO:=az.m.kp aA n46;refine qM rfl (An rfl (qV (KZ rfl) (qV (KK Ml rfl) (An rfl (L2 [.tmp 103,.tmp 104] NN rfl (LI fO (j:=2) (k:=k) (by decide)) ?_)))));rintro _ w8 ⟨rfl,V8,f9⟩
      have dl:k∉(A6.Mi 2 ((A6.li 2).erase k)).li 1:=by
       show k∉A6.often;exact fun e=>mX ((aw.gone k).1 (.inr e)).1
      refine py (KF rfl (An rfl (qV (KZ rfl) (qV (KK Mx rfl) (An rfl (L2 [.tmp 108,.tmp 109] Oa rfl (Md f9.m (j:=1) (k:=k) (by decide) dl (by show A6.often.length≤_;omega)) ?_))))));rintro _ w9 ⟨rfl,V9,gx⟩;have aY:=f9.trans gx;have bH:=aY.k.KD bc (fun e=>n46 _ e rfl);have ew:=bH
      have ce:∀b,Nw c V9 p b→Nw c V p b∨w2.heap.size≤b:=fun b hb=>by
       rcases aY.fp b hb with h5|h5
       ·exact az.fp b h5
       ·have:=az.k.size;have:=aA.size;exact .inr (by omega)
      have aJ:Kp (fun j=>Nw c V p j∨j=b4) w2 w9:=((az.k.KT fun j e=> .inl e).trans (aA.KT fun j e=> .inr e)).Kz aY.k (fun j e=>by
       rcases az.fp j e with h5|h5
       ·exact .inr (.inl h5)
       ·exact .inl h5)
      refine py (KC (qN rfl (qV (La (news:=MD false g6) Nv rfl Lf rfl (KP.cells (n:=3) ew rfl) rfl) (KR rfl (Lo (news:=MD false g6) Lf rfl rfl rfl rfl ew (by simp)) ?_))));rintro we ⟨cP,cS⟩;replace cP:KP we b4 [.bool false,.bool g6.isSome,I (g6.getD 0)] 232:=cP;refine KE rfl (py (L8 Tryz.func125 (.cell Nv rfl Lf rfl (KP.cells (n:=3) cP (news:=[_,_,_]) rfl) rfl (.tmp rfl .nil)) ?_))
      have n49:∀b,Nw c V9 p b→b≠b4:=fun b hb e=>by
       rcases ce b hb with h5|h5
       ·exact n4' b h5 e
       ·omega
      have eu:A.Mt k=({A6 with KX:=A6.KX.erase k,often:=A6.often++[k]},false,g6):=by
       unfold Arc.Mt;rw[if_neg bC,if_pos hg];dsimp only;rw[hq,hT,bu,cd]
      rw[eu]
      exact⟨_,rfl,rfl,V9,aY.m.kp cS n49,fun b hb=>(ce b hb).imp id (fun e=>by omega),(aL.kp.Kz aJ (fun j e=>by
       rcases e with e| e
       ·exact .inr e
       ·exact .inl (by omega))).Kz cS (fun j e=> .inl (by omega))⟩
     ·have qf:=hg;rw[decide_eq_false hg];refine KE rfl (py (Kx rfl (qN rfl (An rfl (qV (KZ rfl) (qV (KK Mw rfl) (An rfl (L2 [.tmp 114,.tmp 115] U0 rfl (tK) ?_))))))));rintro _ w2 ⟨rfl,rfl⟩;by_cases hg:k∈A.KU
      ·rw[decide_eq_true hg];refine KE rfl (py (Lc.qb (e:=[(0,_),(1,_),(4,_),(5,_),(111,_)]) ?_));refine KS rfl (run_seq ?_);have qe:0<A.KU.length:=List.length_pos_of_mem hg;obtain⟨q,hq⟩:∃q,A.KX.length / A.KU.length=q:=⟨_,rfl⟩;have gj:q≤2000:=by rw[←hq];exact Nat.le_trans (Nat.div_le_self _ _) il
       have lR:(A.KX.length:Int) / (A.KU.length:Int)=(q:Int):=by rw[←hq];exact(Int.natCast_ediv _ _).symm
       refine L5 [23] (fun w'=>Ext w2 w') (by kernel_rfl) rfl (qL [21,22,23] 0 rfl (fun _ h=>KM rfl) aa (qL [2,3,4,19,20,21,22,23] 1 rfl (fun _ h=>KM rfl) aa (qL [3,4,19,20,21,22,23] 2 rfl (fun _ h=>KZ rfl) aa (qL [4,19,20,21,22,23] 3 rfl (fun _ h=>KK Mo rfl) aa (qL [19,20,21,22,23] 4 rfl (fun _ h=>KJ U3 rfl rfl (h.KD ev) rfl) aa (qL [6,7,8,9,10,17,18,19,20,21,22,23] 5 rfl (fun _ h=>KM rfl) aa (qL [7,8,9,10,17,18,19,20,21,22,23] 6 rfl (fun _ h=>KZ rfl) aa (qL [8,9,10,17,18,19,20,21,22,23] 7 rfl (fun _ h=>KK Ml rfl) aa (qL [9,10,17,18,19,20,21,22,23] 8 rfl (fun _ h=>KK LA rfl) aa (qL [10,17,18,19,20,21,22,23] 9 rfl (fun _ h=>KJ Mu rfl rfl (h.KD ev) rfl) aa (qL [17,18,19,20,21,22,23] 10 rfl (fun _ h=>LG Mu rfl) aa (qL [12,13,14,15,16,17,18,19,20,21,22,23] 11 rfl (fun _ h=>KM rfl) aa (qL [13,14,15,16,17,18,19,20,21,22,23] 12 rfl (fun _ h=>KZ rfl) aa ?_)))))))))))));refine qL [14,15,16,17,18,19,20,21,22,23] 13 rfl (fun _ h=>KK Mw rfl) aa (qL [15,16,17,18,19,20,21,22,23] 14 rfl (fun _ h=>KK LA rfl) aa (qL [16,17,18,19,20,21,22,23] 15 rfl (fun _ h=>KJ Mu rfl rfl (h.KD ev) rfl) aa (qL [17,18,19,20,21,22,23] 16 rfl (fun _ h=>LG Mu rfl) aa (qL [18,19,20,21,22,23] 17 rfl (fun _ h=>Ra rfl rfl ⟨by omega,by omega,by omega⟩) aa ?_))));rw[lR];refine qL [19,20,21,22,23] 18 rfl (fun _ h=>yma rfl rfl) aa (qL [20,21,22,23] 19 rfl (fun _ h=>M8 rfl rfl (by omega)) aa (qL [21,22,23] 20 rfl (fun _ h=>yma rfl rfl) aa (qL [22,23] 21 rfl (fun _ h=>KZ rfl) aa (qL [23] 22 rfl (fun _ h=>KK Mo rfl) aa (Lu [23] (by kernel_rfl) (by kernel_rfl) (qO 23 (Lm (i:=23) rfl rfl (Mn LC rfl rfl rfl (aa.KD ev) (by simp)) ?_)))))));rintro w5 ⟨aG,aj⟩;refine⟨trivial,?_⟩;obtain⟨T,hT⟩:∃T:Int,max 0 (A.target-max 1 (q:Int))=T:=⟨_,rfl⟩;have mW:0≤T∧T≤A.size:=by omega
       rw[hT] at aG
       replace aG:KP w5 c (Zz A.size T V p) 167:=by
        show KP w5 c [I (A.size:Int),(V 0).1,(V 0).2,(V 1).1,(V 1).2,(V 2).1,(V 2).2,(V 3).1,(V 3).2,I T,.map (some p)] _;rw[e2,e3];exact aG
       have bY:=(h2.ext aa).Tf aG aj;have aO:=hA.Tf mW;obtain⟨A5,bu⟩:∃A5:Arc,{A with target:=T}=A5:=⟨_,rfl⟩;have nH:A5.size=A.size:=by rw[←bu]
       have mX:¬A5.held k:=by rw[←bu];exact kR
       have pZ:k∈A5.KU:=by rw[←bu];exact hg
       rw[bu] at bY aO;refine qE (Lc.qb (e:=[(0,_),(1,_),(4,_),(5,_)]) ?_);refine qN rfl (An rfl (L2 [.tmp 140,.const (Value.bool true)] Vh rfl (Oo bY.m aO (by omega) true) ?_));rintro _ w6 ⟨rfl,V6,cz⟩;have aw:=Arc.Ob aO true;obtain⟨r6,cd⟩:∃r,A5.room true=r:=⟨_,rfl⟩;rw[cd] at cz aw⊢;obtain⟨A6,g6⟩:=r6;dsimp only at cz aw⊢;have dM:=aw.perm.length_eq;have iK:=A6.Mf;have mY:=A5.Mf;have mZ:=aO.total;have az:=((h2.r aa).trans bY).trans cz;have bI:=az.k.KD bq (fun e=>n4' _ e rfl);refine KR rfl (Lo (news:=MD false g6) Lf rfl rfl rfl rfl bI (by simp)) ?_;rintro w7 ⟨bc,aA⟩;replace bc:KP w7 b4 [.bool false,.bool g6.isSome,I (g6.getD 0)] 232:=bc;have n46:=az.mono n4' l42;have fO:=az.m.kp aA n46;refine qM rfl (An rfl (qV (KZ rfl) (qV (KK Mw rfl) (An rfl (L2 [.tmp 144,.tmp 145] NN rfl (LI fO (j:=3) (k:=k) (by decide)) ?_)))));rintro _ w8 ⟨rfl,V8,f9⟩
       have dl:k∉(A6.Mi 3 ((A6.li 3).erase k)).li 1:=by
        show k∉A6.often;exact fun e=>mX ((aw.gone k).1 (.inr e)).1
       refine py (KF rfl (An rfl (qV (KZ rfl) (qV (KK Mx rfl) (An rfl (L2 [.tmp 149,.tmp 150] Oa rfl (Md f9.m (j:=1) (k:=k) (by decide) dl (by show A6.often.length≤_;omega)) ?_))))));rintro _ w9 ⟨rfl,V9,gx⟩;have aY:=f9.trans gx;have bH:=aY.k.KD bc (fun e=>n46 _ e rfl);have ew:=bH
       have ce:∀b,Nw c V9 p b→Nw c V p b∨w2.heap.size≤b:=fun b hb=>by
        rcases aY.fp b hb with h5|h5
        ·exact az.fp b h5
        ·have:=az.k.size;have:=aA.size;exact .inr (by omega)
       have aJ:Kp (fun j=>Nw c V p j∨j=b4) w2 w9:=((az.k.KT fun j e=> .inl e).trans (aA.KT fun j e=> .inr e)).Kz aY.k (fun j e=>by
        rcases az.fp j e with h5|h5
        ·exact .inr (.inl h5)
        ·exact .inl h5)
       refine py (KC (qN rfl (qV (La (news:=MD false g6) Nv rfl Lf rfl (KP.cells (n:=3) ew rfl) rfl) (KR rfl (Lo (news:=MD false g6) Lf rfl rfl rfl rfl ew (by simp)) ?_))));rintro we ⟨cP,cS⟩;replace cP:KP we b4 [.bool false,.bool g6.isSome,I (g6.getD 0)] 232:=cP;refine KE rfl (py (L8 Tryz.func125 (.cell Nv rfl Lf rfl (KP.cells (n:=3) cP (news:=[_,_,_]) rfl) rfl (.tmp rfl .nil)) ?_))
       have n49:∀b,Nw c V9 p b→b≠b4:=fun b hb e=>by
        rcases ce b hb with h5|h5
        ·exact n4' b h5 e
        ·omega
       have eu:A.Mt k=({A6 with KU:=A6.KU.erase k,often:=A6.often++[k]},false,g6):=by
        unfold Arc.Mt;rw[if_neg bC,if_neg qf,if_pos hg];dsimp only;rw[hq,hT,bu,cd]
       rw[eu]
       exact⟨_,rfl,rfl,V9,aY.m.kp cS n49,fun b hb=>(ce b hb).imp id (fun e=>by omega),(aL.kp.Kz aJ (fun j e=>by
        rcases e with e| e
        ·exact .inr e
        ·exact .inl (by omega))).Kz cS (fun j e=> .inl (by omega))⟩
      ·rw[decide_eq_false hg];refine KE rfl (py (Lc.qb (e:=[(0,_),(1,_),(4,_),(5,_),(111,_)]) ?_));refine Kx rfl (qN rfl (An rfl (L2 [.tmp 59] z4d rfl (VG h2 hA cn) ?_)));rintro _ w6 ⟨rfl,V6,cz⟩;have dj:=Arc.Xj hA;obtain⟨r6,cd⟩:∃r,A.add=r:=⟨_,rfl⟩;rw[cd] at cz dj⊢;obtain⟨A6,g6⟩:=r6;dsimp only at cz dj⊢;obtain⟨eP,-,-⟩:=dj;have iK:=A6.Mf;have az:=cz;have bI:=az.k.KD bq (fun e=>n4' _ e rfl);refine KR rfl (Lo (news:=MD false g6) Lf rfl rfl rfl rfl bI (by simp)) ?_;rintro w7 ⟨bc,aA⟩;replace bc:KP w7 b4 [.bool false,.bool g6.isSome,I (g6.getD 0)] 232:=bc;have n46:=az.mono n4' l42;have fO:=az.m.kp aA n46
       have dl:k∉A6.li 0:=by
        show k∉A6.once;exact fun e=>kR ((eP.gone k).1 (.inl e)).1
       have nT:=eP.SB;refine py (KF rfl (An rfl (qV (KZ rfl) (qV (KK M7 rfl) (An rfl (L2 [.tmp 63,.tmp 64] Oa rfl (Md fO (j:=0) (k:=k) (by decide) dl (by show A6.once.length≤_;omega)) ?_))))));rintro _ w9 ⟨rfl,V9,gx⟩;have aY:=gx;have bH:=aY.k.KD bc (fun e=>n46 _ e rfl);have ew:=bH
       have ce:∀b,Nw c V9 p b→Nw c V p b∨w2.heap.size≤b:=fun b hb=>by
        rcases aY.fp b hb with h5|h5
        ·exact az.fp b h5
        ·have:=az.k.size;have:=aA.size;exact .inr (by omega)
       have aJ:Kp (fun j=>Nw c V p j∨j=b4) w2 w9:=((az.k.KT fun j e=> .inl e).trans (aA.KT fun j e=> .inr e)).Kz aY.k (fun j e=>by
        rcases az.fp j e with h5|h5
        ·exact .inr (.inl h5)
        ·exact .inl h5)
       refine py (KC (qN rfl (qV (La (news:=MD false g6) Nv rfl Lf rfl (KP.cells (n:=3) ew rfl) rfl) (KR rfl (Lo (news:=MD false g6) Lf rfl rfl rfl rfl ew (by simp)) ?_))));rintro we ⟨cP,cS⟩;replace cP:KP we b4 [.bool false,.bool g6.isSome,I (g6.getD 0)] 232:=cP;refine KE rfl (py (L8 Tryz.func125 (.cell Nv rfl Lf rfl (KP.cells (n:=3) cP (news:=[_,_,_]) rfl) rfl (.tmp rfl .nil)) ?_))
       have n49:∀b,Nw c V9 p b→b≠b4:=fun b hb e=>by
        rcases ce b hb with h5|h5
        ·exact n4' b h5 e
        ·omega
       have eu:A.Mt k=({A6 with once:=A6.once++[k]},false,g6):=by
        unfold Arc.Mt;rw[if_neg bC,if_neg qf,if_neg hg];dsimp only;rw[cd]
       rw[eu]
       exact⟨_,rfl,rfl,V9,aY.m.kp cS n49,fun b hb=>(ce b hb).imp id (fun e=>by omega),(aL.kp.Kz aJ (fun j e=>by
        rcases e with e| e
        ·exact .inr e
        ·exact .inl (by omega))).Kz cS (fun j e=> .inl (by omega))⟩
   | false =>
     subst Fh
     have x8:o1=true:=by
      have e:A.once=[]:=Classical.not_not.1 fun e=>by have:=q0.2 e;cases this
      rw[e] at bS;exact q1.2 fun e=>by rw[e] at bS;simp at bS;omega
     subst x8;refine An rfl (An rfl (qV ((by first|exact LP rfl|exact Nq rfl)) ?_));refine qV (LK rfl rfl) (An rfl (An rfl (qV ((by first|exact LP rfl|exact Nq rfl)) ?_)));refine qV (LK rfl rfl) (py (Kx rfl (It (run_seq (KB (qN rfl (An rfl (qV (KZ rfl) (qV (KK Ml rfl) (An rfl (L2 [.tmp 69,.tmp 70] U0 rfl (su) ?_)))))))))));rintro _ w2 ⟨rfl,rfl⟩;by_cases hg:k∈A.KX
     ·rw[decide_eq_true hg];refine KE rfl (py (KS rfl (run_seq ?_)));have qe:0<A.KX.length:=List.length_pos_of_mem hg;obtain⟨q,hq⟩:∃q,A.KU.length / A.KX.length=q:=⟨_,rfl⟩;have gj:q≤2000:=by rw[←hq];exact Nat.le_trans (Nat.div_le_self _ _) lQ
      have lR:(A.KU.length:Int) / (A.KX.length:Int)=(q:Int):=by rw[←hq];exact(Int.natCast_ediv _ _).symm
      refine L5 [27] (fun w'=>Ext w2 w') (by kernel_rfl) rfl (qL [25,26,27] 0 rfl (fun _ h=>KM rfl) aa (qL [2,3,4,24,25,26,27] 1 rfl (fun _ h=>KM rfl) aa (qL [3,4,24,25,26,27] 2 rfl (fun _ h=>KZ rfl) aa (qL [4,24,25,26,27] 3 rfl (fun _ h=>KK Nh rfl) aa (qL [24,25,26,27] 4 rfl (fun _ h=>KJ U3 rfl rfl (h.KD ev) rfl) aa (qL [6,7,8,23,24,25,26,27] 5 rfl (fun _ h=>KM rfl) aa (qL [7,8,23,24,25,26,27] 6 rfl (fun _ h=>KZ rfl) aa (qL [8,23,24,25,26,27] 7 rfl (fun _ h=>KK Mo rfl) aa (qL [23,24,25,26,27] 8 rfl (fun _ h=>KJ U3 rfl rfl (h.KD ev) rfl) aa (qL [10,11,12,13,14,21,22,23,24,25,26,27] 9 rfl (fun _ h=>KM rfl) aa (qL [11,12,13,14,21,22,23,24,25,26,27] 10 rfl (fun _ h=>KZ rfl) aa (qL [12,13,14,21,22,23,24,25,26,27] 11 rfl (fun _ h=>KK Mw rfl) aa (qL [13,14,21,22,23,24,25,26,27] 12 rfl (fun _ h=>KK LA rfl) aa ?_)))))))))))));refine qL [14,21,22,23,24,25,26,27] 13 rfl (fun _ h=>KJ Mu rfl rfl (h.KD ev) rfl) aa (qL [21,22,23,24,25,26,27] 14 rfl (fun _ h=>LG Mu rfl) aa (qL [16,17,18,19,20,21,22,23,24,25,26,27] 15 rfl (fun _ h=>KM rfl) aa (qL [17,18,19,20,21,22,23,24,25,26,27] 16 rfl (fun _ h=>KZ rfl) aa (qL [18,19,20,21,22,23,24,25,26,27] 17 rfl (fun _ h=>KK Ml rfl) aa (qL [19,20,21,22,23,24,25,26,27] 18 rfl (fun _ h=>KK LA rfl) aa (qL [20,21,22,23,24,25,26,27] 19 rfl (fun _ h=>KJ Mu rfl rfl (h.KD ev) rfl) aa (qL [21,22,23,24,25,26,27] 20 rfl (fun _ h=>LG Mu rfl) aa (qL [22,23,24,25,26,27] 21 rfl (fun _ h=>Ra rfl rfl ⟨by omega,by omega,by omega⟩) aa ?_))))))));rw[lR];refine qL [23,24,25,26,27] 22 rfl (fun _ h=>yma rfl rfl) aa (qL [24,25,26,27] 23 rfl (fun _ h=>PW rfl rfl (by omega)) aa (qL [25,26,27] 24 rfl (fun _ h=>ymi rfl rfl) aa (qL [26,27] 25 rfl (fun _ h=>KZ rfl) aa (qL [27] 26 rfl (fun _ h=>KK Mo rfl) aa (Lu [27] (by kernel_rfl) (by kernel_rfl) (qO 27 (Lm (i:=27) rfl rfl (Mn LC rfl rfl rfl (aa.KD ev) (by simp)) ?_)))))));rintro w5 ⟨aG,aj⟩;refine⟨trivial,?_⟩;obtain⟨T,hT⟩:∃T:Int,min (A.size:Int) (A.target+max 1 (q:Int))=T:=⟨_,rfl⟩;have mW:0≤T∧T≤A.size:=by omega
      rw[hT] at aG
      replace aG:KP w5 c (Zz A.size T V p) 167:=by
       show KP w5 c [I (A.size:Int),(V 0).1,(V 0).2,(V 1).1,(V 1).2,(V 2).1,(V 2).2,(V 3).1,(V 3).2,I T,.map (some p)] _;rw[e2,e3];exact aG
      have bY:=(h2.ext aa).Tf aG aj;have aO:=hA.Tf mW;obtain⟨A5,bu⟩:∃A5:Arc,{A with target:=T}=A5:=⟨_,rfl⟩;have nH:A5.size=A.size:=by rw[←bu]
      have mX:¬A5.held k:=by rw[←bu];exact kR
      have pZ:k∈A5.KX:=by rw[←bu];exact hg
      rw[bu] at bY aO;refine qE (Lc.qb (e:=[(0,_),(1,_),(4,_),(5,_)]) ?_);refine qN rfl (An rfl (L2 [.tmp 99,.const (Value.bool false)] Vh rfl (Oo bY.m aO (by omega) false) ?_));rintro _ w6 ⟨rfl,V6,cz⟩;have aw:=Arc.Ob aO false;obtain⟨r6,cd⟩:∃r,A5.room false=r:=⟨_,rfl⟩;rw[cd] at cz aw⊢;obtain⟨A6,g6⟩:=r6;dsimp only at cz aw⊢;have dM:=aw.perm.length_eq;have iK:=A6.Mf;have mY:=A5.Mf;have mZ:=aO.total;have az:=((h2.r aa).trans bY).trans cz;have bI:=az.k.KD bq (fun e=>n4' _ e rfl);refine KR rfl (Lo (news:=MD false g6) Lf rfl rfl rfl rfl bI (by simp)) ?_;rintro w7 ⟨bc,aA⟩;replace bc:KP w7 b4 [.bool false,.bool g6.isSome,I (g6.getD 0)] 232:=bc;have n46:=az.mono n4' l42;have fO:=az.m.kp aA n46;refine qM rfl (An rfl (qV (KZ rfl) (qV (KK Ml rfl) (An rfl (L2 [.tmp 103,.tmp 104] NN rfl (LI fO (j:=2) (k:=k) (by decide)) ?_)))));rintro _ w8 ⟨rfl,V8,f9⟩
      have dl:k∉(A6.Mi 2 ((A6.li 2).erase k)).li 1:=by
       show k∉A6.often;exact fun e=>mX ((aw.gone k).1 (.inr e)).1
      refine py (KF rfl (An rfl (qV (KZ rfl) (qV (KK Mx rfl) (An rfl (L2 [.tmp 108,.tmp 109] Oa rfl (Md f9.m (j:=1) (k:=k) (by decide) dl (by show A6.often.length≤_;omega)) ?_))))));rintro _ w9 ⟨rfl,V9,gx⟩;have aY:=f9.trans gx;have bH:=aY.k.KD bc (fun e=>n46 _ e rfl);have ew:=bH
      have ce:∀b,Nw c V9 p b→Nw c V p b∨w2.heap.size≤b:=fun b hb=>by
       rcases aY.fp b hb with h5|h5
       ·exact az.fp b h5
       ·have:=az.k.size;have:=aA.size;exact .inr (by omega)
      have aJ:Kp (fun j=>Nw c V p j∨j=b4) w2 w9:=((az.k.KT fun j e=> .inl e).trans (aA.KT fun j e=> .inr e)).Kz aY.k (fun j e=>by
       rcases az.fp j e with h5|h5
       ·exact .inr (.inl h5)
       ·exact .inl h5)
      refine py (KC (qN rfl (qV (La (news:=MD false g6) Nv rfl Lf rfl (KP.cells (n:=3) ew rfl) rfl) (KR rfl (Lo (news:=MD false g6) Lf rfl rfl rfl rfl ew (by simp)) ?_))));rintro we ⟨cP,cS⟩;replace cP:KP we b4 [.bool false,.bool g6.isSome,I (g6.getD 0)] 232:=cP;refine KE rfl (py (L8 Tryz.func125 (.cell Nv rfl Lf rfl (KP.cells (n:=3) cP (news:=[_,_,_]) rfl) rfl (.tmp rfl .nil)) ?_))
      have n49:∀b,Nw c V9 p b→b≠b4:=fun b hb e=>by
       rcases ce b hb with h5|h5
       ·exact n4' b h5 e
       ·omega
      have eu:A.Mt k=({A6 with KX:=A6.KX.erase k,often:=A6.often++[k]},false,g6):=by
       unfold Arc.Mt;rw[if_neg bC,if_pos hg];dsimp only;rw[hq,hT,bu,cd]
      rw[eu]
      exact⟨_,rfl,rfl,V9,aY.m.kp cS n49,fun b hb=>(ce b hb).imp id (fun e=>by omega),(aL.kp.Kz aJ (fun j e=>by
       rcases e with e| e
       ·exact .inr e
       ·exact .inl (by omega))).Kz cS (fun j e=> .inl (by omega))⟩
     ·have qf:=hg;rw[decide_eq_false hg];refine KE rfl (py (Kx rfl (qN rfl (An rfl (qV (KZ rfl) (qV (KK Mw rfl) (An rfl (L2 [.tmp 114,.tmp 115] U0 rfl (tK) ?_))))))));rintro _ w2 ⟨rfl,rfl⟩;by_cases hg:k∈A.KU
      ·rw[decide_eq_true hg];refine KE rfl (py (Lc.qb (e:=[(0,_),(1,_),(4,_),(5,_),(111,_)]) ?_));refine KS rfl (run_seq ?_);have qe:0<A.KU.length:=List.length_pos_of_mem hg;obtain⟨q,hq⟩:∃q,A.KX.length / A.KU.length=q:=⟨_,rfl⟩;have gj:q≤2000:=by rw[←hq];exact Nat.le_trans (Nat.div_le_self _ _) il
       have lR:(A.KX.length:Int) / (A.KU.length:Int)=(q:Int):=by rw[←hq];exact(Int.natCast_ediv _ _).symm
       refine L5 [23] (fun w'=>Ext w2 w') (by kernel_rfl) rfl (qL [21,22,23] 0 rfl (fun _ h=>KM rfl) aa (qL [2,3,4,19,20,21,22,23] 1 rfl (fun _ h=>KM rfl) aa (qL [3,4,19,20,21,22,23] 2 rfl (fun _ h=>KZ rfl) aa (qL [4,19,20,21,22,23] 3 rfl (fun _ h=>KK Mo rfl) aa (qL [19,20,21,22,23] 4 rfl (fun _ h=>KJ U3 rfl rfl (h.KD ev) rfl) aa (qL [6,7,8,9,10,17,18,19,20,21,22,23] 5 rfl (fun _ h=>KM rfl) aa (qL [7,8,9,10,17,18,19,20,21,22,23] 6 rfl (fun _ h=>KZ rfl) aa (qL [8,9,10,17,18,19,20,21,22,23] 7 rfl (fun _ h=>KK Ml rfl) aa (qL [9,10,17,18,19,20,21,22,23] 8 rfl (fun _ h=>KK LA rfl) aa (qL [10,17,18,19,20,21,22,23] 9 rfl (fun _ h=>KJ Mu rfl rfl (h.KD ev) rfl) aa (qL [17,18,19,20,21,22,23] 10 rfl (fun _ h=>LG Mu rfl) aa (qL [12,13,14,15,16,17,18,19,20,21,22,23] 11 rfl (fun _ h=>KM rfl) aa (qL [13,14,15,16,17,18,19,20,21,22,23] 12 rfl (fun _ h=>KZ rfl) aa ?_)))))))))))));refine qL [14,15,16,17,18,19,20,21,22,23] 13 rfl (fun _ h=>KK Mw rfl) aa (qL [15,16,17,18,19,20,21,22,23] 14 rfl (fun _ h=>KK LA rfl) aa (qL [16,17,18,19,20,21,22,23] 15 rfl (fun _ h=>KJ Mu rfl rfl (h.KD ev) rfl) aa (qL [17,18,19,20,21,22,23] 16 rfl (fun _ h=>LG Mu rfl) aa (qL [18,19,20,21,22,23] 17 rfl (fun _ h=>Ra rfl rfl ⟨by omega,by omega,by omega⟩) aa ?_))));rw[lR];refine qL [19,20,21,22,23] 18 rfl (fun _ h=>yma rfl rfl) aa (qL [20,21,22,23] 19 rfl (fun _ h=>M8 rfl rfl (by omega)) aa (qL [21,22,23] 20 rfl (fun _ h=>yma rfl rfl) aa (qL [22,23] 21 rfl (fun _ h=>KZ rfl) aa (qL [23] 22 rfl (fun _ h=>KK Mo rfl) aa (Lu [23] (by kernel_rfl) (by kernel_rfl) (qO 23 (Lm (i:=23) rfl rfl (Mn LC rfl rfl rfl (aa.KD ev) (by simp)) ?_)))))));rintro w5 ⟨aG,aj⟩;refine⟨trivial,?_⟩;obtain⟨T,hT⟩:∃T:Int,max 0 (A.target-max 1 (q:Int))=T:=⟨_,rfl⟩;have mW:0≤T∧T≤A.size:=by omega
       rw[hT] at aG
       replace aG:KP w5 c (Zz A.size T V p) 167:=by
        show KP w5 c [I (A.size:Int),(V 0).1,(V 0).2,(V 1).1,(V 1).2,(V 2).1,(V 2).2,(V 3).1,(V 3).2,I T,.map (some p)] _;rw[e2,e3];exact aG
       have bY:=(h2.ext aa).Tf aG aj;have aO:=hA.Tf mW;obtain⟨A5,bu⟩:∃A5:Arc,{A with target:=T}=A5:=⟨_,rfl⟩;have nH:A5.size=A.size:=by rw[←bu]
       have mX:¬A5.held k:=by rw[←bu];exact kR
       have pZ:k∈A5.KU:=by rw[←bu];exact hg
       rw[bu] at bY aO;refine qE (Lc.qb (e:=[(0,_),(1,_),(4,_),(5,_)]) ?_);refine qN rfl (An rfl (L2 [.tmp 140,.const (Value.bool true)] Vh rfl (Oo bY.m aO (by omega) true) ?_));rintro _ w6 ⟨rfl,V6,cz⟩;have aw:=Arc.Ob aO true;obtain⟨r6,cd⟩:∃r,A5.room true=r:=⟨_,rfl⟩;rw[cd] at cz aw⊢;obtain⟨A6,g6⟩:=r6;dsimp only at cz aw⊢;have dM:=aw.perm.length_eq;have iK:=A6.Mf;have mY:=A5.Mf;have mZ:=aO.total;have az:=((h2.r aa).trans bY).trans cz;have bI:=az.k.KD bq (fun e=>n4' _ e rfl);refine KR rfl (Lo (news:=MD false g6) Lf rfl rfl rfl rfl bI (by simp)) ?_;rintro w7 ⟨bc,aA⟩;replace bc:KP w7 b4 [.bool false,.bool g6.isSome,I (g6.getD 0)] 232:=bc;have n46:=az.mono n4' l42;have fO:=az.m.kp aA n46;refine qM rfl (An rfl (qV (KZ rfl) (qV (KK Mw rfl) (An rfl (L2 [.tmp 144,.tmp 145] NN rfl (LI fO (j:=3) (k:=k) (by decide)) ?_)))));rintro _ w8 ⟨rfl,V8,f9⟩
       have dl:k∉(A6.Mi 3 ((A6.li 3).erase k)).li 1:=by
        show k∉A6.often;exact fun e=>mX ((aw.gone k).1 (.inr e)).1
       refine py (KF rfl (An rfl (qV (KZ rfl) (qV (KK Mx rfl) (An rfl (L2 [.tmp 149,.tmp 150] Oa rfl (Md f9.m (j:=1) (k:=k) (by decide) dl (by show A6.often.length≤_;omega)) ?_))))));rintro _ w9 ⟨rfl,V9,gx⟩;have aY:=f9.trans gx;have bH:=aY.k.KD bc (fun e=>n46 _ e rfl);have ew:=bH
       have ce:∀b,Nw c V9 p b→Nw c V p b∨w2.heap.size≤b:=fun b hb=>by
        rcases aY.fp b hb with h5|h5
        ·exact az.fp b h5
        ·have:=az.k.size;have:=aA.size;exact .inr (by omega)
       have aJ:Kp (fun j=>Nw c V p j∨j=b4) w2 w9:=((az.k.KT fun j e=> .inl e).trans (aA.KT fun j e=> .inr e)).Kz aY.k (fun j e=>by
        rcases az.fp j e with h5|h5
        ·exact .inr (.inl h5)
        ·exact .inl h5)
       refine py (KC (qN rfl (qV (La (news:=MD false g6) Nv rfl Lf rfl (KP.cells (n:=3) ew rfl) rfl) (KR rfl (Lo (news:=MD false g6) Lf rfl rfl rfl rfl ew (by simp)) ?_))));rintro we ⟨cP,cS⟩;replace cP:KP we b4 [.bool false,.bool g6.isSome,I (g6.getD 0)] 232:=cP;refine KE rfl (py (L8 Tryz.func125 (.cell Nv rfl Lf rfl (KP.cells (n:=3) cP (news:=[_,_,_]) rfl) rfl (.tmp rfl .nil)) ?_))
       have n49:∀b,Nw c V9 p b→b≠b4:=fun b hb e=>by
        rcases ce b hb with h5|h5
        ·exact n4' b h5 e
        ·omega
       have eu:A.Mt k=({A6 with KU:=A6.KU.erase k,often:=A6.often++[k]},false,g6):=by
        unfold Arc.Mt;rw[if_neg bC,if_neg qf,if_pos hg];dsimp only;rw[hq,hT,bu,cd]
       rw[eu]
       exact⟨_,rfl,rfl,V9,aY.m.kp cS n49,fun b hb=>(ce b hb).imp id (fun e=>by omega),(aL.kp.Kz aJ (fun j e=>by
        rcases e with e| e
        ·exact .inr e
        ·exact .inl (by omega))).Kz cS (fun j e=> .inl (by omega))⟩
      ·rw[decide_eq_false hg];refine KE rfl (py (Lc.qb (e:=[(0,_),(1,_),(4,_),(5,_),(111,_)]) ?_));refine Kx rfl (qN rfl (An rfl (L2 [.tmp 59] z4d rfl (VG h2 hA cn) ?_)));rintro _ w6 ⟨rfl,V6,cz⟩;have dj:=Arc.Xj hA;obtain⟨r6,cd⟩:∃r,A.add=r:=⟨_,rfl⟩;rw[cd] at cz dj⊢;obtain⟨A6,g6⟩:=r6;dsimp only at cz dj⊢;obtain⟨eP,-,-⟩:=dj;have iK:=A6.Mf;have az:=cz;have bI:=az.k.KD bq (fun e=>n4' _ e rfl);refine KR rfl (Lo (news:=MD false g6) Lf rfl rfl rfl rfl bI (by simp)) ?_;rintro w7 ⟨bc,aA⟩;replace bc:KP w7 b4 [.bool false,.bool g6.isSome,I (g6.getD 0)] 232:=bc;have n46:=az.mono n4' l42;have fO:=az.m.kp aA n46
       have dl:k∉A6.li 0:=by
        show k∉A6.once;exact fun e=>kR ((eP.gone k).1 (.inl e)).1
       have nT:=eP.SB;refine py (KF rfl (An rfl (qV (KZ rfl) (qV (KK M7 rfl) (An rfl (L2 [.tmp 63,.tmp 64] Oa rfl (Md fO (j:=0) (k:=k) (by decide) dl (by show A6.once.length≤_;omega)) ?_))))));rintro _ w9 ⟨rfl,V9,gx⟩;have aY:=gx;have bH:=aY.k.KD bc (fun e=>n46 _ e rfl);have ew:=bH
       have ce:∀b,Nw c V9 p b→Nw c V p b∨w2.heap.size≤b:=fun b hb=>by
        rcases aY.fp b hb with h5|h5
        ·exact az.fp b h5
        ·have:=az.k.size;have:=aA.size;exact .inr (by omega)
       have aJ:Kp (fun j=>Nw c V p j∨j=b4) w2 w9:=((az.k.KT fun j e=> .inl e).trans (aA.KT fun j e=> .inr e)).Kz aY.k (fun j e=>by
        rcases az.fp j e with h5|h5
        ·exact .inr (.inl h5)
        ·exact .inl h5)
       refine py (KC (qN rfl (qV (La (news:=MD false g6) Nv rfl Lf rfl (KP.cells (n:=3) ew rfl) rfl) (KR rfl (Lo (news:=MD false g6) Lf rfl rfl rfl rfl ew (by simp)) ?_))));rintro we ⟨cP,cS⟩;replace cP:KP we b4 [.bool false,.bool g6.isSome,I (g6.getD 0)] 232:=cP;refine KE rfl (py (L8 Tryz.func125 (.cell Nv rfl Lf rfl (KP.cells (n:=3) cP (news:=[_,_,_]) rfl) rfl (.tmp rfl .nil)) ?_))
       have n49:∀b,Nw c V9 p b→b≠b4:=fun b hb e=>by
        rcases ce b hb with h5|h5
        ·exact n4' b h5 e
        ·omega
       have eu:A.Mt k=({A6 with once:=A6.once++[k]},false,g6):=by
        unfold Arc.Mt;rw[if_neg bC,if_neg qf,if_neg hg];dsimp only;rw[cd]
       rw[eu]
       exact⟨_,rfl,rfl,V9,aY.m.kp cS n49,fun b hb=>(ce b hb).imp id (fun e=>by omega),(aL.kp.Kz aJ (fun j e=>by
        rcases e with e| e
        ·exact .inr e
        ·exact .inl (by omega))).Kz cS (fun j e=> .inl (by omega))⟩
  ·rw [decide_eq_false bS]; refine An rfl (qS (qS (qV (Lk rfl rfl) (An rfl (qS (qS (qV (Lk rfl rfl) (py (Kx rfl (It (run_seq (KB (qN rfl ?_))))))))))))); refine An rfl (qV (KZ rfl) (qV (KK Ml rfl) (An rfl (L2 [.tmp 69, .tmp 70] U0 rfl (su) ?_)))); rintro _ w2 ⟨rfl, rfl⟩; by_cases hg : k ∈ A.KX
   ·rw[decide_eq_true hg];refine KE rfl (py (KS rfl (run_seq ?_)));have qe:0<A.KX.length:=List.length_pos_of_mem hg;obtain⟨q,hq⟩:∃q,A.KU.length / A.KX.length=q:=⟨_,rfl⟩;have gj:q≤2000:=by rw[←hq];exact Nat.le_trans (Nat.div_le_self _ _) lQ
    have lR:(A.KU.length:Int) / (A.KX.length:Int)=(q:Int):=by rw[←hq];exact(Int.natCast_ediv _ _).symm
    refine L5 [27] (fun w'=>Ext w2 w') (by kernel_rfl) rfl (qL [25,26,27] 0 rfl (fun _ h=>KM rfl) aa (qL [2,3,4,24,25,26,27] 1 rfl (fun _ h=>KM rfl) aa (qL [3,4,24,25,26,27] 2 rfl (fun _ h=>KZ rfl) aa (qL [4,24,25,26,27] 3 rfl (fun _ h=>KK Nh rfl) aa (qL [24,25,26,27] 4 rfl (fun _ h=>KJ U3 rfl rfl (h.KD ev) rfl) aa (qL [6,7,8,23,24,25,26,27] 5 rfl (fun _ h=>KM rfl) aa (qL [7,8,23,24,25,26,27] 6 rfl (fun _ h=>KZ rfl) aa (qL [8,23,24,25,26,27] 7 rfl (fun _ h=>KK Mo rfl) aa (qL [23,24,25,26,27] 8 rfl (fun _ h=>KJ U3 rfl rfl (h.KD ev) rfl) aa (qL [10,11,12,13,14,21,22,23,24,25,26,27] 9 rfl (fun _ h=>KM rfl) aa (qL [11,12,13,14,21,22,23,24,25,26,27] 10 rfl (fun _ h=>KZ rfl) aa (qL [12,13,14,21,22,23,24,25,26,27] 11 rfl (fun _ h=>KK Mw rfl) aa (qL [13,14,21,22,23,24,25,26,27] 12 rfl (fun _ h=>KK LA rfl) aa ?_)))))))))))));refine qL [14,21,22,23,24,25,26,27] 13 rfl (fun _ h=>KJ Mu rfl rfl (h.KD ev) rfl) aa (qL [21,22,23,24,25,26,27] 14 rfl (fun _ h=>LG Mu rfl) aa (qL [16,17,18,19,20,21,22,23,24,25,26,27] 15 rfl (fun _ h=>KM rfl) aa (qL [17,18,19,20,21,22,23,24,25,26,27] 16 rfl (fun _ h=>KZ rfl) aa (qL [18,19,20,21,22,23,24,25,26,27] 17 rfl (fun _ h=>KK Ml rfl) aa (qL [19,20,21,22,23,24,25,26,27] 18 rfl (fun _ h=>KK LA rfl) aa (qL [20,21,22,23,24,25,26,27] 19 rfl (fun _ h=>KJ Mu rfl rfl (h.KD ev) rfl) aa (qL [21,22,23,24,25,26,27] 20 rfl (fun _ h=>LG Mu rfl) aa (qL [22,23,24,25,26,27] 21 rfl (fun _ h=>Ra rfl rfl ⟨by omega,by omega,by omega⟩) aa ?_))))))));rw[lR];refine qL [23,24,25,26,27] 22 rfl (fun _ h=>yma rfl rfl) aa (qL [24,25,26,27] 23 rfl (fun _ h=>PW rfl rfl (by omega)) aa (qL [25,26,27] 24 rfl (fun _ h=>ymi rfl rfl) aa (qL [26,27] 25 rfl (fun _ h=>KZ rfl) aa (qL [27] 26 rfl (fun _ h=>KK Mo rfl) aa (Lu [27] (by kernel_rfl) (by kernel_rfl) (qO 27 (Lm (i:=27) rfl rfl (Mn LC rfl rfl rfl (aa.KD ev) (by simp)) ?_)))))));rintro w5 ⟨aG,aj⟩;refine⟨trivial,?_⟩;obtain⟨T,hT⟩:∃T:Int,min (A.size:Int) (A.target+max 1 (q:Int))=T:=⟨_,rfl⟩;have mW:0≤T∧T≤A.size:=by omega
    rw[hT] at aG
    replace aG:KP w5 c (Zz A.size T V p) 167:=by
     show KP w5 c [I (A.size:Int),(V 0).1,(V 0).2,(V 1).1,(V 1).2,(V 2).1,(V 2).2,(V 3).1,(V 3).2,I T,.map (some p)] _;rw[e2,e3];exact aG
    have bY:=(h2.ext aa).Tf aG aj;have aO:=hA.Tf mW;obtain⟨A5,bu⟩:∃A5:Arc,{A with target:=T}=A5:=⟨_,rfl⟩;have nH:A5.size=A.size:=by rw[←bu]
    have mX:¬A5.held k:=by rw[←bu];exact kR
    have pZ:k∈A5.KX:=by rw[←bu];exact hg
    rw[bu] at bY aO;refine qE (Lc.qb (e:=[(0,_),(1,_),(4,_),(5,_)]) ?_);refine qN rfl (An rfl (L2 [.tmp 99,.const (Value.bool false)] Vh rfl (Oo bY.m aO (by omega) false) ?_));rintro _ w6 ⟨rfl,V6,cz⟩;have aw:=Arc.Ob aO false;obtain⟨r6,cd⟩:∃r,A5.room false=r:=⟨_,rfl⟩;rw[cd] at cz aw⊢;obtain⟨A6,g6⟩:=r6;dsimp only at cz aw⊢;have dM:=aw.perm.length_eq;have iK:=A6.Mf;have mY:=A5.Mf;have mZ:=aO.total;have az:=((h2.r aa).trans bY).trans cz;have bI:=az.k.KD bq (fun e=>n4' _ e rfl);refine KR rfl (Lo (news:=MD false g6) Lf rfl rfl rfl rfl bI (by simp)) ?_;rintro w7 ⟨bc,aA⟩;replace bc:KP w7 b4 [.bool false,.bool g6.isSome,I (g6.getD 0)] 232:=bc;have n46:=az.mono n4' l42;have fO:=az.m.kp aA n46;refine qM rfl (An rfl (qV (KZ rfl) (qV (KK Ml rfl) (An rfl (L2 [.tmp 103,.tmp 104] NN rfl (LI fO (j:=2) (k:=k) (by decide)) ?_)))));rintro _ w8 ⟨rfl,V8,f9⟩
    have dl:k∉(A6.Mi 2 ((A6.li 2).erase k)).li 1:=by
     show k∉A6.often;exact fun e=>mX ((aw.gone k).1 (.inr e)).1
    refine py (KF rfl (An rfl (qV (KZ rfl) (qV (KK Mx rfl) (An rfl (L2 [.tmp 108,.tmp 109] Oa rfl (Md f9.m (j:=1) (k:=k) (by decide) dl (by show A6.often.length≤_;omega)) ?_))))));rintro _ w9 ⟨rfl,V9,gx⟩;have aY:=f9.trans gx;have bH:=aY.k.KD bc (fun e=>n46 _ e rfl);have ew:=bH
    have ce:∀b,Nw c V9 p b→Nw c V p b∨w2.heap.size≤b:=fun b hb=>by
     rcases aY.fp b hb with h5|h5
     ·exact az.fp b h5
     ·have:=az.k.size;have:=aA.size;exact .inr (by omega)
    have aJ:Kp (fun j=>Nw c V p j∨j=b4) w2 w9:=((az.k.KT fun j e=> .inl e).trans (aA.KT fun j e=> .inr e)).Kz aY.k (fun j e=>by
     rcases az.fp j e with h5|h5
     ·exact .inr (.inl h5)
     ·exact .inl h5)
    refine py (KC (qN rfl (qV (La (news:=MD false g6) Nv rfl Lf rfl (KP.cells (n:=3) ew rfl) rfl) (KR rfl (Lo (news:=MD false g6) Lf rfl rfl rfl rfl ew (by simp)) ?_))));rintro we ⟨cP,cS⟩;replace cP:KP we b4 [.bool false,.bool g6.isSome,I (g6.getD 0)] 232:=cP;refine KE rfl (py (L8 Tryz.func125 (.cell Nv rfl Lf rfl (KP.cells (n:=3) cP (news:=[_,_,_]) rfl) rfl (.tmp rfl .nil)) ?_))
    have n49:∀b,Nw c V9 p b→b≠b4:=fun b hb e=>by
     rcases ce b hb with h5|h5
     ·exact n4' b h5 e
     ·omega
    have eu:A.Mt k=({A6 with KX:=A6.KX.erase k,often:=A6.often++[k]},false,g6):=by
     unfold Arc.Mt;rw[if_neg bC,if_pos hg];dsimp only;rw[hq,hT,bu,cd]
    rw[eu]
    exact⟨_,rfl,rfl,V9,aY.m.kp cS n49,fun b hb=>(ce b hb).imp id (fun e=>by omega),(aL.kp.Kz aJ (fun j e=>by
     rcases e with e| e
     ·exact .inr e
     ·exact .inl (by omega))).Kz cS (fun j e=> .inl (by omega))⟩
   ·have qf:=hg;rw[decide_eq_false hg];refine KE rfl (py (Kx rfl (qN rfl (An rfl (qV (KZ rfl) (qV (KK Mw rfl) (An rfl (L2 [.tmp 114,.tmp 115] U0 rfl (tK) ?_))))))));rintro _ w2 ⟨rfl,rfl⟩;by_cases hg:k∈A.KU
    ·rw[decide_eq_true hg];refine KE rfl (py (Lc.qb (e:=[(0,_),(1,_),(4,_),(5,_),(111,_)]) ?_));refine KS rfl (run_seq ?_);have qe:0<A.KU.length:=List.length_pos_of_mem hg;obtain⟨q,hq⟩:∃q,A.KX.length / A.KU.length=q:=⟨_,rfl⟩;have gj:q≤2000:=by rw[←hq];exact Nat.le_trans (Nat.div_le_self _ _) il
     have lR:(A.KX.length:Int) / (A.KU.length:Int)=(q:Int):=by rw[←hq];exact(Int.natCast_ediv _ _).symm
     refine L5 [23] (fun w'=>Ext w2 w') (by kernel_rfl) rfl (qL [21,22,23] 0 rfl (fun _ h=>KM rfl) aa (qL [2,3,4,19,20,21,22,23] 1 rfl (fun _ h=>KM rfl) aa (qL [3,4,19,20,21,22,23] 2 rfl (fun _ h=>KZ rfl) aa (qL [4,19,20,21,22,23] 3 rfl (fun _ h=>KK Mo rfl) aa (qL [19,20,21,22,23] 4 rfl (fun _ h=>KJ U3 rfl rfl (h.KD ev) rfl) aa (qL [6,7,8,9,10,17,18,19,20,21,22,23] 5 rfl (fun _ h=>KM rfl) aa (qL [7,8,9,10,17,18,19,20,21,22,23] 6 rfl (fun _ h=>KZ rfl) aa (qL [8,9,10,17,18,19,20,21,22,23] 7 rfl (fun _ h=>KK Ml rfl) aa (qL [9,10,17,18,19,20,21,22,23] 8 rfl (fun _ h=>KK LA rfl) aa (qL [10,17,18,19,20,21,22,23] 9 rfl (fun _ h=>KJ Mu rfl rfl (h.KD ev) rfl) aa (qL [17,18,19,20,21,22,23] 10 rfl (fun _ h=>LG Mu rfl) aa (qL [12,13,14,15,16,17,18,19,20,21,22,23] 11 rfl (fun _ h=>KM rfl) aa (qL [13,14,15,16,17,18,19,20,21,22,23] 12 rfl (fun _ h=>KZ rfl) aa ?_)))))))))))));refine qL [14,15,16,17,18,19,20,21,22,23] 13 rfl (fun _ h=>KK Mw rfl) aa (qL [15,16,17,18,19,20,21,22,23] 14 rfl (fun _ h=>KK LA rfl) aa (qL [16,17,18,19,20,21,22,23] 15 rfl (fun _ h=>KJ Mu rfl rfl (h.KD ev) rfl) aa (qL [17,18,19,20,21,22,23] 16 rfl (fun _ h=>LG Mu rfl) aa (qL [18,19,20,21,22,23] 17 rfl (fun _ h=>Ra rfl rfl ⟨by omega,by omega,by omega⟩) aa ?_))));rw[lR];refine qL [19,20,21,22,23] 18 rfl (fun _ h=>yma rfl rfl) aa (qL [20,21,22,23] 19 rfl (fun _ h=>M8 rfl rfl (by omega)) aa (qL [21,22,23] 20 rfl (fun _ h=>yma rfl rfl) aa (qL [22,23] 21 rfl (fun _ h=>KZ rfl) aa (qL [23] 22 rfl (fun _ h=>KK Mo rfl) aa (Lu [23] (by kernel_rfl) (by kernel_rfl) (qO 23 (Lm (i:=23) rfl rfl (Mn LC rfl rfl rfl (aa.KD ev) (by simp)) ?_)))))));rintro w5 ⟨aG,aj⟩;refine⟨trivial,?_⟩;obtain⟨T,hT⟩:∃T:Int,max 0 (A.target-max 1 (q:Int))=T:=⟨_,rfl⟩;have mW:0≤T∧T≤A.size:=by omega
     rw[hT] at aG
     replace aG:KP w5 c (Zz A.size T V p) 167:=by
      show KP w5 c [I (A.size:Int),(V 0).1,(V 0).2,(V 1).1,(V 1).2,(V 2).1,(V 2).2,(V 3).1,(V 3).2,I T,.map (some p)] _;rw[e2,e3];exact aG
     have bY:=(h2.ext aa).Tf aG aj;have aO:=hA.Tf mW;obtain⟨A5,bu⟩:∃A5:Arc,{A with target:=T}=A5:=⟨_,rfl⟩;have nH:A5.size=A.size:=by rw[←bu]
     have mX:¬A5.held k:=by rw[←bu];exact kR
     have pZ:k∈A5.KU:=by rw[←bu];exact hg
     rw[bu] at bY aO;refine qE (Lc.qb (e:=[(0,_),(1,_),(4,_),(5,_)]) ?_);refine qN rfl (An rfl (L2 [.tmp 140,.const (Value.bool true)] Vh rfl (Oo bY.m aO (by omega) true) ?_));rintro _ w6 ⟨rfl,V6,cz⟩;have aw:=Arc.Ob aO true;obtain⟨r6,cd⟩:∃r,A5.room true=r:=⟨_,rfl⟩;rw[cd] at cz aw⊢;obtain⟨A6,g6⟩:=r6;dsimp only at cz aw⊢;have dM:=aw.perm.length_eq;have iK:=A6.Mf;have mY:=A5.Mf;have mZ:=aO.total;have az:=((h2.r aa).trans bY).trans cz;have bI:=az.k.KD bq (fun e=>n4' _ e rfl);refine KR rfl (Lo (news:=MD false g6) Lf rfl rfl rfl rfl bI (by simp)) ?_;rintro w7 ⟨bc,aA⟩;replace bc:KP w7 b4 [.bool false,.bool g6.isSome,I (g6.getD 0)] 232:=bc;have n46:=az.mono n4' l42;have fO:=az.m.kp aA n46;refine qM rfl (An rfl (qV (KZ rfl) (qV (KK Mw rfl) (An rfl (L2 [.tmp 144,.tmp 145] NN rfl (LI fO (j:=3) (k:=k) (by decide)) ?_)))));rintro _ w8 ⟨rfl,V8,f9⟩
     have dl:k∉(A6.Mi 3 ((A6.li 3).erase k)).li 1:=by
      show k∉A6.often;exact fun e=>mX ((aw.gone k).1 (.inr e)).1
     refine py (KF rfl (An rfl (qV (KZ rfl) (qV (KK Mx rfl) (An rfl (L2 [.tmp 149,.tmp 150] Oa rfl (Md f9.m (j:=1) (k:=k) (by decide) dl (by show A6.often.length≤_;omega)) ?_))))));rintro _ w9 ⟨rfl,V9,gx⟩;have aY:=f9.trans gx;have bH:=aY.k.KD bc (fun e=>n46 _ e rfl);have ew:=bH
     have ce:∀b,Nw c V9 p b→Nw c V p b∨w2.heap.size≤b:=fun b hb=>by
      rcases aY.fp b hb with h5|h5
      ·exact az.fp b h5
      ·have:=az.k.size;have:=aA.size;exact .inr (by omega)
     have aJ:Kp (fun j=>Nw c V p j∨j=b4) w2 w9:=((az.k.KT fun j e=> .inl e).trans (aA.KT fun j e=> .inr e)).Kz aY.k (fun j e=>by
      rcases az.fp j e with h5|h5
      ·exact .inr (.inl h5)
      ·exact .inl h5)
     refine py (KC (qN rfl (qV (La (news:=MD false g6) Nv rfl Lf rfl (KP.cells (n:=3) ew rfl) rfl) (KR rfl (Lo (news:=MD false g6) Lf rfl rfl rfl rfl ew (by simp)) ?_))));rintro we ⟨cP,cS⟩;replace cP:KP we b4 [.bool false,.bool g6.isSome,I (g6.getD 0)] 232:=cP;refine KE rfl (py (L8 Tryz.func125 (.cell Nv rfl Lf rfl (KP.cells (n:=3) cP (news:=[_,_,_]) rfl) rfl (.tmp rfl .nil)) ?_))
     have n49:∀b,Nw c V9 p b→b≠b4:=fun b hb e=>by
      rcases ce b hb with h5|h5
      ·exact n4' b h5 e
      ·omega
     have eu:A.Mt k=({A6 with KU:=A6.KU.erase k,often:=A6.often++[k]},false,g6):=by
      unfold Arc.Mt;rw[if_neg bC,if_neg qf,if_pos hg];dsimp only;rw[hq,hT,bu,cd]
     rw[eu]
     exact⟨_,rfl,rfl,V9,aY.m.kp cS n49,fun b hb=>(ce b hb).imp id (fun e=>by omega),(aL.kp.Kz aJ (fun j e=>by
      rcases e with e| e
      ·exact .inr e
      ·exact .inl (by omega))).Kz cS (fun j e=> .inl (by omega))⟩
    ·rw[decide_eq_false hg];refine KE rfl (py (Lc.qb (e:=[(0,_),(1,_),(4,_),(5,_),(111,_)]) ?_));refine Kx rfl (qN rfl (An rfl (L2 [.tmp 59] z4d rfl (VG h2 hA cn) ?_)));rintro _ w6 ⟨rfl,V6,cz⟩;have dj:=Arc.Xj hA;obtain⟨r6,cd⟩:∃r,A.add=r:=⟨_,rfl⟩;rw[cd] at cz dj⊢;obtain⟨A6,g6⟩:=r6;dsimp only at cz dj⊢;obtain⟨eP,-,-⟩:=dj;have iK:=A6.Mf;have az:=cz;have bI:=az.k.KD bq (fun e=>n4' _ e rfl);refine KR rfl (Lo (news:=MD false g6) Lf rfl rfl rfl rfl bI (by simp)) ?_;rintro w7 ⟨bc,aA⟩;replace bc:KP w7 b4 [.bool false,.bool g6.isSome,I (g6.getD 0)] 232:=bc;have n46:=az.mono n4' l42;have fO:=az.m.kp aA n46
     have dl:k∉A6.li 0:=by
      show k∉A6.once;exact fun e=>kR ((eP.gone k).1 (.inl e)).1
     have nT:=eP.SB;refine py (KF rfl (An rfl (qV (KZ rfl) (qV (KK M7 rfl) (An rfl (L2 [.tmp 63,.tmp 64] Oa rfl (Md fO (j:=0) (k:=k) (by decide) dl (by show A6.once.length≤_;omega)) ?_))))));rintro _ w9 ⟨rfl,V9,gx⟩;have aY:=gx;have bH:=aY.k.KD bc (fun e=>n46 _ e rfl);have ew:=bH
     have ce:∀b,Nw c V9 p b→Nw c V p b∨w2.heap.size≤b:=fun b hb=>by
      rcases aY.fp b hb with h5|h5
      ·exact az.fp b h5
      ·have:=az.k.size;have:=aA.size;exact .inr (by omega)
     have aJ:Kp (fun j=>Nw c V p j∨j=b4) w2 w9:=((az.k.KT fun j e=> .inl e).trans (aA.KT fun j e=> .inr e)).Kz aY.k (fun j e=>by
      rcases az.fp j e with h5|h5
      ·exact .inr (.inl h5)
      ·exact .inl h5)
     refine py (KC (qN rfl (qV (La (news:=MD false g6) Nv rfl Lf rfl (KP.cells (n:=3) ew rfl) rfl) (KR rfl (Lo (news:=MD false g6) Lf rfl rfl rfl rfl ew (by simp)) ?_))));rintro we ⟨cP,cS⟩;replace cP:KP we b4 [.bool false,.bool g6.isSome,I (g6.getD 0)] 232:=cP;refine KE rfl (py (L8 Tryz.func125 (.cell Nv rfl Lf rfl (KP.cells (n:=3) cP (news:=[_,_,_]) rfl) rfl (.tmp rfl .nil)) ?_))
     have n49:∀b,Nw c V9 p b→b≠b4:=fun b hb e=>by
      rcases ce b hb with h5|h5
      ·exact n4' b h5 e
      ·omega
     have eu:A.Mt k=({A6 with once:=A6.once++[k]},false,g6):=by
      unfold Arc.Mt;rw[if_neg bC,if_neg qf,if_neg hg];dsimp only;rw[cd]
     rw[eu]
     exact⟨_,rfl,rfl,V9,aY.m.kp cS n49,fun b hb=>(ce b hb).imp id (fun e=>by omega),(aL.kp.Kz aJ (fun j e=>by
      rcases e with e| e
      ·exact .inr e
      ·exact .inl (by omega))).Kz cS (fun j e=> .inl (by omega))⟩
end
section
variable {w w' w2:World}{c p:Nat}{A A' A2:Arc}{V V' V2:Nat→Value×Value}{S:Nat→Prop}{k:Int}
end
structure Pg where
 k:Int
 b:Nat
 t:Bytes
 d:Bool
def PL (l:List Pg):List (Int×Value):=l.map fun g=>(g.k,ptr g.b 0)
def ZG (t:Bytes)(d:Bool):List Value:=[S t,.bool d,I 0]
structure MP where
 s:Nat
 d:Nat
 m:Nat
 gi:Nat
 c:Nat
 pm:Nat
 p:Nat
 fr:Nat
 V:Nat→Value×Value
 D:Dev
 A:Arc
 l:List Pg
 L:List Bool
 Fd:Nat→Prop
 h:Int
 mi:Int
 wr:Int
def MP.cp (P:MP):Nat→Nat→Prop
 |0,b=>b=P.s
 |1,b=>P.Fd b
 |2,b=>b=P.m∨b=P.gi
 |3,b=>Nw P.c P.V P.p b
 |4,b=>b=P.pm
 |5,b=>∃g∈P.l,g.b=b
 |_,_=>False
def MP.fp (P:MP)(b:Nat):Prop:=∃i,P.cp i b
def plC (P:MP):List Value:=[ptr P.d 0,ptr P.m 0,ptr P.c 0,.map (some P.pm),I (P.fr:Int),I P.h,I P.mi,I P.wr,I 0,I 0,I 0,.bool false]
def Dis (f:Nat→Nat→Prop):Prop:=∀i j,i≠j→∀b,f i b→¬f j b
structure PN (w:World)(P:MP):Prop where
 KD:KP w P.s (plC P) 92
 dev:QC w P.d P.D P.Fd
 ext:Ta w P.m P.gi P.L
 arc:NH w P.c P.A P.V P.p
 mp:Nr KI w P.pm (PL P.l)
 pg:∀g∈P.l,KP w g.b (ZG g.t g.d) 191
 pnd:(P.l.map (·.b)).Nodup
 Qu:Dis P.cp
section
variable {w w' w0:World}{P P0 P':MP}{S:Nat→Prop}{i0:Nat}
theorem PN.lt (h:PN w P){b:Nat}(hb:P.fp b):b<w.heap.size:=by
 obtain⟨i,hi⟩:=hb
 match i,hi with
 |0,e=>rw[show b=P.s from e];exact h.KD.lt
 |1,e=>exact h.dev.lt b e
 | 2, e =>
   rcases e with e| e
   ·rw[e];exact h.ext.ltm
   ·rw[e];exact h.ext.ltg
 |3,e=>exact h.arc.lt e
 |4,e=>rw[show b=P.pm from e];exact h.mp.lt
 |5,⟨g,hg,e⟩=>rw[←e];exact(h.pg g hg).lt
theorem PN.kp (h:PN w P)(hk:Kp S w w')(hn:∀b,P.fp b→¬S b):PN w' P:=
 ⟨hk.KD h.KD (hn _ ⟨0,rfl⟩),h.dev.kp hk fun b hb=>hn b ⟨1,hb⟩,h.ext.kp hk (hn _ ⟨2,.inl rfl⟩) (hn _ ⟨2,.inr rfl⟩),h.arc.kp hk fun b hb=>hn b ⟨3,hb⟩,h.mp.kp hk (hn _ ⟨4,rfl⟩),fun g hg=>hk.KD (h.pg g hg) (hn _ ⟨5,g,hg,rfl⟩),h.pnd,h.Qu⟩
theorem PN.ext' (h:PN w P)(hx:Ext w w'):PN w' P:=h.kp (S:=fun _=>False) hx fun _ _=>id
theorem PN.z2Z (h:PN w P)(hk:Kp (P.cp i0) w w')(ne:0≠i0):KP w' P.s (plC P) 92:=hk.KD h.KD (h.Qu 0 i0 ne _ rfl)
theorem PN.z2a (h:PN w P)(hk:Kp (P.cp i0) w w')(ne:1≠i0):QC w' P.d P.D P.Fd:=h.dev.kp hk fun b hb=>h.Qu 1 i0 ne b hb
theorem PN.text (h:PN w P)(hk:Kp (P.cp i0) w w')(ne:2≠i0):Ta w' P.m P.gi P.L:=h.ext.kp hk (h.Qu 2 i0 ne _ (.inl rfl)) (h.Qu 2 i0 ne _ (.inr rfl))
theorem PN.z3h (h:PN w P)(hk:Kp (P.cp i0) w w')(ne:3≠i0):NH w' P.c P.A P.V P.p:=h.arc.kp hk fun b hb=>h.Qu 3 i0 ne b hb
theorem PN.tmp (h:PN w P)(hk:Kp (P.cp i0) w w')(ne:4≠i0):Nr KI w' P.pm (PL P.l):=h.mp.kp hk (h.Qu 4 i0 ne _ rfl)
theorem PN.tpg (h:PN w P)(hk:Kp (P.cp i0) w w')(ne:5≠i0):∀g∈P.l,KP w' g.b (ZG g.t g.d) 191:=fun g hg=>hk.KD (h.pg g hg) (h.Qu 5 i0 ne _ ⟨g,hg,rfl⟩)
theorem PN.z4U (h:PN w P)(hs:∀i,i≠i0→P'.cp i=P.cp i)(hi:∀b,P'.cp i0 b→P.cp i0 b∨∀i,¬P.cp i b):Dis P'.cp:=fun i j ne b hb bM=>by
 by_cases e:i=i0
 ·have e2:j≠i0:=fun e2=>ne (e.trans e2.symm);rw[e] at hb;rw[hs j e2] at bM;rcases hi b hb with h1|h1
  ·exact h.Qu i0 j (fun e3=>e2 e3.symm) b h1 bM
  ·exact h1 j bM
 ·rw[hs i e] at hb;by_cases e2:j=i0
  ·rw[e2] at bM;rcases hi b bM with h1|h1
   ·exact h.Qu i i0 e b hb h1
   ·exact h1 i hb
  ·rw[hs j e2] at bM;exact h.Qu i j ne b hb bM
theorem PN.new (h:PN w P){b:Nat}(hb:w.heap.size≤b):∀i,¬P.cp i b:=fun i e=>by have:=h.lt ⟨i,e⟩;omega
structure Px (w0:World)(P0:MP)(w:World)(P:MP):Prop where
 m:PN w P
 fp:∀b,P.fp b→P0.fp b∨w0.heap.size≤b
 k:Kp P0.fp w0 w
theorem PN.r (h:PN w P)(hx:Ext w w'):Px w P w' P:=⟨h.ext' hx,fun b hb=> .inl hb,hx.kp⟩
theorem Px.ext (h:Px w0 P0 w P)(hx:Ext w w'):Px w0 P0 w' P:=⟨h.m.ext' hx,h.fp,h.k.trans hx.kp⟩
theorem Px.loc (h:Px w0 P0 w P)(hk:Kp S w w')(hS:∀b,S b→(P0.fp b∨w0.heap.size≤b)∧∀i,¬P.cp i b):Px w0 P0 w' P:=
 ⟨h.m.kp hk fun b ⟨i,hb⟩ e=>(hS b e).2 i hb,h.fp,h.k.Kz hk fun b e=>(hS b e).1.symm⟩
theorem Px.part (h:Px w0 P0 w P)(i0:Nat)(hm:PN w' P')(hs:∀i,i≠i0→P'.cp i=P.cp i)(hi:∀b,P'.cp i0 b→P.cp i0 b∨w0.heap.size≤b)(hk:Kp (P.cp i0) w w'):Px w0 P0 w' P':=
 ⟨hm,fun b ⟨i,hb⟩=>by
  by_cases e:i=i0
  ·rw[e] at hb;rcases hi b hb with h1|h1
   ·exact h.fp b ⟨i0,h1⟩
   ·exact .inr h1
  ·rw[hs i e] at hb
   exact h.fp b ⟨i,hb⟩,h.k.Kz hk fun b hb=>(h.fp b ⟨i0,hb⟩).symm⟩
theorem Px.trans {w2:World}{P2:MP}(h:Px w0 P0 w P)(h2:Px w P w2 P2):Px w0 P0 w2 P2:=
 ⟨h2.m,fun b hb=>by
  rcases h2.fp b hb with e| e
  ·exact h.fp b e
  ·exact .inr (by have:=h.k.size;omega),h.k.Kz h2.k fun b hb=>(h.fp b hb).symm⟩
theorem Px.dev (h:Px w0 P0 w P){D':Dev}(ht:z3c w P.d P.Fd D' w'):∃Fd',Px w0 P0 w' {P with D:=D',Fd:=Fd'}∧∀b,Fd' b→P.Fd b∨w.heap.size≤b:=by
 obtain⟨F',hd,hu⟩:=ht
 have hs:∀i,i≠1→MP.cp {P with D:=D',Fd:=F'} i=P.cp i:=fun i e=>by
  match i,e with
  |0,_|2,_|3,_|4,_|5,_=>rfl
  |i+6,_=>rfl
 have hk:Kp (P.cp 1) w w':=hu.1
 refine⟨F',h.part 1 ⟨h.m.z2Z hk (by decide),hd,h.m.text hk (by decide),h.m.z3h hk (by decide),h.m.tmp hk (by decide),h.m.tpg hk (by decide),h.m.pnd,h.m.z4U hs fun b hb=>?_⟩ hs (fun b hb=>?_) hk,hu.2⟩
 ·exact(hu.2 b hb).imp id fun e=>h.m.new e
 ·exact(hu.2 b hb).imp id fun e=>by have:=h.k.size;omega
theorem Px.arc (h:Px w0 P0 w P){A':Arc}{V':Nat→Value×Value}(hr:RE w P.c P.V P.p w' A' V'):Px w0 P0 w' {P with A:=A',V:=V'}:=by
 have hs:∀i,i≠3→MP.cp {P with A:=A',V:=V'} i=P.cp i:=fun i e=>by
  match i,e with
  |0,_|1,_|2,_|4,_|5,_=>rfl
  |i+6,_=>rfl
 have hk:Kp (P.cp 3) w w':=hr.k
 refine h.part 3 ⟨h.m.z2Z hk (by decide),h.m.z2a hk (by decide),h.m.text hk (by decide),hr.m,h.m.tmp hk (by decide),h.m.tpg hk (by decide),h.m.pnd,h.m.z4U hs fun b hb=>?_⟩ hs (fun b hb=>?_) hk
 ·exact(hr.fp b hb).imp id fun e=>h.m.new e
 ·exact(hr.fp b hb).imp id fun e=>by have:=h.k.size;omega
theorem Px.exM (h:Px w0 P0 w P){L':List Bool}(he:Ta w' P.m P.gi L')(hk:Kp (fun b=>b=P.gi) w w'):Px w0 P0 w' {P with L:=L'}:=by
 have hs:∀i,i≠2→MP.cp {P with L:=L'} i=P.cp i:=fun i e=>by
  match i,e with
  |0,_|1,_|3,_|4,_|5,_=>rfl
  |i+6,_=>rfl
 have hk:Kp (P.cp 2) w w':=hk.KT fun b e=> .inr e
 exact h.part 2 ⟨h.m.z2Z hk (by decide),h.m.z2a hk (by decide),he,h.m.z3h hk (by decide),h.m.tmp hk (by decide),h.m.tpg hk (by decide),h.m.pnd,h.m.z4U hs fun b hb=> .inl hb⟩ hs (fun b hb=> .inl hb) hk
theorem Px.cnt (h:Px w0 P0 w P){a b c:Int}(hB:KP w' P.s (plC {P with h:=a,mi:=b,wr:=c}) 92)(hk:Kp (fun b=>b=P.s) w w'):Px w0 P0 w' {P with h:=a,mi:=b,wr:=c}:=by
 have hs:∀i,i≠0→MP.cp {P with h:=a,mi:=b,wr:=c} i=P.cp i:=fun i e=>by
  match i,e with
  |1,_|2,_|3,_|4,_|5,_=>rfl
  |i+6,_=>rfl
 have hk:Kp (P.cp 0) w w':=hk
 exact h.part 0 ⟨hB,h.m.z2a hk (by decide),h.m.text hk (by decide),h.m.z3h hk (by decide),h.m.tmp hk (by decide),h.m.tpg hk (by decide),h.m.pnd,h.m.z4U hs fun b hb=> .inl hb⟩ hs (fun b hb=> .inl hb) hk
theorem Px.del (h:Px w0 P0 w P){l':List Pg}(hl:l'.Sublist P.l)(hm:Nr KI w' P.pm (PL l'))(hk:Kp (fun b=>b=P.pm) w w'):Px w0 P0 w' {P with l:=l'}:=by
 have hk:Kp (P.cp 4) w w':=hk
 have eA:∀i b,MP.cp {P with l:=l'} i b→P.cp i b:=fun i b hb=>by
  match i,hb with
  |0,e|1,e|2,e|3,e|4,e=>exact e
  |5,⟨g,hg,e⟩=>exact⟨g,hl.subset hg,e⟩
 have hp:=h.m.tpg hk (by decide)
 exact⟨⟨h.m.z2Z hk (by decide),h.m.z2a hk (by decide),h.m.text hk (by decide),h.m.z3h hk (by decide),hm,fun g hg=>hp g (hl.subset hg),(hl.map _).nodup h.m.pnd,fun i j ne b hb bM=>h.m.Qu i j ne b (eA i b hb) (eA j b bM)⟩,fun b ⟨i,hb⟩=>h.fp b ⟨i,eA i b hb⟩,h.k.Kz hk fun b hb=>(h.fp b ⟨4,hb⟩).symm⟩
theorem Px.ins (h:Px w0 P0 w P){g:Pg}(hg:w0.heap.size≤g.b∧∀i,¬P.cp i g.b)(hb:KP w g.b (ZG g.t g.d) 191)(hm:Nr KI w' P.pm (PL (P.l++[g])))(hk:Kp (fun b=>b=P.pm) w w'):Px w0 P0 w' {P with l:=P.l++[g]}:=by
 have hk:Kp (P.cp 4) w w':=hk
 have hp:=h.m.tpg hk (by decide)
 have fL:∀i b,MP.cp {P with l:=P.l++[g]} i b→P.cp i b∨(i=5∧b=g.b):=fun i b hb=>by
  match i,hb with
  |0,e|1,e|2,e|3,e|4,e=>exact .inl e
  | 5, ⟨g', cA, e⟩ =>
    rcases List.mem_append.1 cA with e2|e2
    ·exact .inl ⟨g',e2,e⟩
    ·rw[List.mem_singleton.1 e2] at e;exact .inr ⟨rfl,e.symm⟩
 refine⟨⟨h.m.z2Z hk (by decide),h.m.z2a hk (by decide),h.m.text hk (by decide),h.m.z3h hk (by decide),hm,fun g' cA=>?_,?_,fun i j ne b hb bM=>?_⟩,fun b ⟨i,hb⟩=>?_,h.k.Kz hk fun b hb=>(h.fp b ⟨4,hb⟩).symm⟩
 ·rcases List.mem_append.1 cA with e| e
  ·exact hp g' e
  ·rw[List.mem_singleton.1 e];exact hk.KD hb (hg.2 4)
 ·show((P.l++[g]).map (·.b)).Nodup;rw[List.map_append,List.nodup_append];refine⟨h.m.pnd,by simp,fun a ha b hb e=>?_⟩;obtain⟨g',cA,rfl⟩:=List.mem_map.1 ha;rw[List.map_singleton,List.mem_singleton] at hb;exact hg.2 5 ⟨g',cA,e.trans hb⟩
 ·rcases fL i b hb with e|⟨e,e2⟩
  ·rcases fL j b bM with f|⟨f,f2⟩
   ·exact h.m.Qu i j ne b e f
   ·rw[f2] at e;exact hg.2 i e
  ·rcases fL j b bM with f|⟨f,f2⟩
   ·rw[e2] at f;exact hg.2 j f
   ·exact ne (e.trans f.symm)
 ·rcases fL i b hb with e|⟨e,e2⟩
  ·exact h.fp b ⟨i,e⟩
  ·rw[e2];exact .inr hg.1
theorem Ny {α β:Type}{f:α→β}:∀{l:List α},(l.map f).Nodup→∀{a b:α},a∈l→b∈l→f a=f b→a=b
 |[],_,a,b,ha,_,_=>by cases ha
 | x :: l, hn, a, b, ha, hb, e => by
   rw[List.map_cons,List.nodup_cons] at hn;rcases List.mem_cons.1 ha with h1|h1
   ·rcases List.mem_cons.1 hb with h2|h2
    ·rw[h1,h2]
    ·exact absurd (List.mem_map.2 ⟨b,h2,by rw[←e,h1]⟩) hn.1
   ·rcases List.mem_cons.1 hb with h2|h2
    ·exact absurd (List.mem_map.2 ⟨a,h1,by rw[e,h2]⟩) hn.1
    ·exact Ny hn.2 h1 h2 e
def MH (l:List Pg)(k:Int)(t:Bytes)(d:Bool):List Pg:=l.map fun g=>if g.k=k then {g with t:=t,d:=d} else g
theorem z5E (l:List Pg)(k:Int)(t:Bytes)(d:Bool):PL (MH l k t d)=PL l:=by
 unfold PL MH
 rw[List.map_map]
 refine List.map_congr_left fun g _=>?_
 by_cases h:g.k=k
 ·simp only[Function.comp_apply,if_pos h]
 ·simp only[Function.comp_apply,if_neg h]
theorem Xb (l:List Pg)(k:Int)(t:Bytes)(d:Bool):(MH l k t d).map (·.b)=l.map (·.b):=by
 unfold MH
 rw[List.map_map]
 refine List.map_congr_left fun g _=>?_
 show Pg.b (if _ then _ else _)=_
 split<;>rfl
theorem Px.zaB (h:Px w0 P0 w P){g:Pg}(hg:g∈P.l){t:Bytes}{d:Bool}(hb:KP w' g.b (ZG t d) 191)(hk:Kp (fun b=>b=g.b) w w'):Px w0 P0 w' {P with l:=MH P.l g.k t d}:=by
 have gE:=h.m.mp.nd
 have ke:∀b,(∃g'∈MH P.l g.k t d,g'.b=b)↔∃g'∈P.l,g'.b=b:=fun b=>by
  have e:=Xb P.l g.k t d;constructor
  ·rintro⟨g',cA,rfl⟩;have:g'.b∈P.l.map (·.b):=by rw[←e];exact List.mem_map.2 ⟨g',cA,rfl⟩
   obtain⟨g2,a,b⟩:=List.mem_map.1 this;exact⟨g2,a,b⟩
  ·rintro⟨g',cA,rfl⟩;have:g'.b∈(MH P.l g.k t d).map (·.b):=by rw[e];exact List.mem_map.2 ⟨g',cA,rfl⟩
   obtain⟨g2,a,b⟩:=List.mem_map.1 this;exact⟨g2,a,b⟩
 have hs:∀i,i≠5→MP.cp {P with l:=MH P.l g.k t d} i=P.cp i:=fun i e=>by
  match i,e with
  |0,_|1,_|2,_|3,_|4,_=>rfl
  |i+6,_=>rfl
 have aj:Kp (P.cp 5) w w':=hk.KT fun b e=>⟨g,hg,e.symm⟩
 have hi:∀b,MP.cp {P with l:=MH P.l g.k t d} 5 b→P.cp 5 b:=fun b hb=>(ke b).1 hb
 refine h.part 5 ⟨h.m.z2Z aj (by decide),h.m.z2a aj (by decide),h.m.text aj (by decide),h.m.z3h aj (by decide),?_,fun g' cA=>?_,?_,h.m.z4U hs fun b hb=> .inl (hi b hb)⟩ hs (fun b hb=> .inl (hi b hb)) aj
 ·show Nr KI w' P.pm (PL (MH P.l g.k t d));rw[z5E];exact h.m.tmp aj (by decide)
 ·obtain⟨g2,aa,rfl⟩:=List.mem_map.1 cA;by_cases e:g2.k=g.k
  ·rw[if_pos e]
   have e2:g2=g:=by
    unfold PL at gE;rw[List.map_map] at gE;have CG:(P.l.map (·.k)).Nodup:=gE;exact Ny CG aa hg e
   rw[e2];exact hb
  ·rw[if_neg e];have bE:g2.b≠g.b:=fun e2=>e (by rw[Ny h.m.pnd aa hg e2]);exact hk.KD (h.m.pg g2 aa) bE
 ·show((MH P.l g.k t d).map (·.b)).Nodup;rw[Xb];exact h.m.pnd
end
def N9 (l:List Pg):Nat:=l.countP (·.d)
structure Tx (P:MP)(txt:Int→Bytes)(K:Nat):Prop where
 aok:P.A.Ok
 asz:P.A.size≤1000
 keys:∀x,x∈P.l.map (·.k)↔P.A.held x
 nd:(P.l.map (·.k)).Nodup
 rng:∀g∈P.l,0≤g.k∧g.k<(P.L.length:Int)
 tx:∀g∈P.l,g.t=txt g.k
 cl:∀g∈P.l,g.d=false→P.D.now g.k=txt g.k
 out:∀x,0≤x→x<(P.L.length:Int)→¬P.A.held x→P.D.now x=txt x
 len:∀x,0≤x→x<(P.L.length:Int)→(txt x).length=512
 down:P.D.down=false
 due:P.D.due=0
 B:P.D.B=P.L.length
 N:P.D.N=1
 ca:P.D.calls+(N9 P.l:Int)≤(K:Int)
 cc:P.D.cache.length+N9 P.l≤K
 Nt:P.D.Nt.length≤17592186044416
def Th (txt:Int→Bytes)(no:Int)(wt:Option Bytes):Int→Bytes:=fun x=>if x=no then wt.getD (txt x) else txt x
theorem Tw (txt:Int→Bytes)(no:Int):Th txt no none=txt:=by
 funext x
 unfold Th
 split<;>rfl
theorem MZ (txt:Int→Bytes)(no:Int)(wt:Option Bytes):Th txt no wt no=wt.getD (txt no):=if_pos rfl
theorem Mv (txt:Int→Bytes){no x:Int}(wt:Option Bytes)(h:x≠no):Th txt no wt x=txt x:=if_neg h
def wN (wt:Option Bytes):Nat:=if wt.isSome then 1 else 0
theorem YQ (D:Dev)(n x:Int)(s:Bytes):((D.push n s).count).now x=if n=x then s else D.now x:=by
 unfold Dev.now Dev.count Dev.push
 dsimp only
 rw[z0F]
 split<;>rfl
theorem Wm (D:Dev)(z:Int)(x:Int):({D with reads:=z}:Dev).now x=D.now x:=rfl
section
variable {P:MP}{txt:Int→Bytes}{K:Nat}{no:Int}{wt:Option Bytes}
theorem U8 (no:Int)(t:Bytes):∀{l:List Pg},(l.map (·.k)).Nodup→N9 (MH l no t true)≤N9 l+1
 |[],_=>Nat.zero_le _
 | g :: l, hn => by
   rw[List.map_cons,List.nodup_cons] at hn;by_cases h:g.k=no
   ·have e:MH l no t true=l:=by
     unfold MH
     conv=>rhs;rw[←List.map_id l]
     refine List.map_congr_left fun g' cA=>?_;rw[if_neg fun e=>hn.1 (List.mem_map.2 ⟨g',cA,by rw[e,h]⟩)];rfl
    have e2:MH (g::l) no t true={g with t:=t,d:=true}::l:=by
     show(if g.k=no then _ else g)::MH l no t true=_;rw[if_pos h,e]
    rw[e2];unfold N9;rw[List.countP_cons,List.countP_cons];split<;>split<;>omega
   ·have ih:=U8 no t hn.2
    have e2:MH (g::l) no t true=g::MH l no t true:=by
     show(if g.k=no then _ else g)::MH l no t true=_;rw[if_neg h]
    rw[e2];unfold N9 at*;rw[List.countP_cons,List.countP_cons];omega
theorem Vm {l:List Pg}(hn:(l.map (·.k)).Nodup){g:Pg}(hg:g∈l):MH l g.k g.t g.d=l:=by
 unfold MH
 conv=>rhs;rw[←List.map_id l]
 refine List.map_congr_left fun g' cA=>?_
 by_cases h:g'.k=g.k
 ·rw[if_pos h,Ny hn cA hg h];rfl
 ·rw[if_neg h];rfl
theorem z1L (l:List Pg)(k:Int)(t:Bytes)(d:Bool):(MH l k t d).map (·.k)=l.map (·.k):=by
 unfold MH
 rw[List.map_map]
 refine List.map_congr_left fun g _=>?_
 by_cases h:g.k=k
 ·simp only[Function.comp_apply,if_pos h]
 ·simp only[Function.comp_apply,if_neg h]
theorem Tl {l:List Pg}{k:Int}{t:Bytes}{d:Bool}{g:Pg}(h:g∈MH l k t d):(g∈l∧g.k≠k)∨(g.k=k∧g.t=t∧g.d=d∧∃g'∈l,g'.k=k):=by
 obtain⟨g',cA,rfl⟩:=List.mem_map.1 h
 by_cases e:g'.k=k
 ·rw[if_pos e];exact .inr ⟨e,rfl,rfl,g',cA,e⟩
 ·rw[if_neg e];exact .inl ⟨cA,e⟩
theorem Tx.YB (h:Tx P txt K){g:Pg}(hg:g∈P.l)(nZ:∀t,wt=some t→t.length=512){P':MP}(hA:P'.A=(P.A.Mt g.k).1)(hl:P'.l=MH P.l g.k (wt.getD g.t) (wt.isSome ||g.d))(hL:P'.L=P.L)(hD:P'.D=P.D):Tx P' (Th txt g.k wt) (K+wN wt):=by
 have ht:=Arc.VE h.aok g.k
 have bC:P.A.held g.k:=(h.keys _).1 (List.mem_map.2 ⟨g,hg,rfl⟩)
 have fM:=ht.no (ht.YB.2 bC)
 have tJ:∀x,P'.A.held x↔P.A.held x:=fun x=>by
  rw[hA,ht.held,fM];constructor
  ·rintro(e|e)
   ·rw[e];exact bC
   ·exact e.1
  ·intro e;exact .inr ⟨e,by simp⟩
 have hr:=h.rng g hg
 have tL:N9 P'.l≤N9 P.l+wN wt:=by
  rw[hl]
  cases wt with
  |none=>rw[show(none:Option Bytes).getD g.t=g.t from rfl,show((none:Option Bytes).isSome ||g.d)=g.d from rfl,Vm h.nd hg];exact Nat.le_add_right _ _
  |some t=>exact U8 _ _ h.nd
 have Im:=h.ca
 have Fi:=h.cc
 refine⟨by rw[hA];exact ht.ok,by rw[hA,ht.size];exact h.asz,fun x=>by rw[hl,z1L,h.keys,tJ],by rw[hl,z1L];exact h.nd,fun g' cA=>?_,fun g' cA=>?_,fun g' cA hd=>?_,fun x h0 h1 hx=>?_,fun x h0 h1=>?_,by rw[hD];exact h.down,by rw[hD];exact h.due,by rw[hD,hL];exact h.B,by rw[hD];exact h.N,by rw[hD];omega,by rw[hD];omega,by rw[hD];exact h.Nt⟩
 ·rw[hL];rw[hl] at cA;rcases Tl cA with e| e
  ·exact h.rng g' e.1
  ·rw[e.1];exact hr
 ·rw[hl] at cA;rcases Tl cA with e| e
  ·rw[Mv _ _ e.2];exact h.tx g' e.1
  ·rw[e.1,MZ,e.2.1,h.tx g hg]
 ·rw[hD];rw[hl] at cA;rcases Tl cA with e| e
  ·rw[Mv _ _ e.2];exact h.cl g' e.1 hd
  ·rw[e.2.2.1] at hd
   have hw:wt=none:=by
    cases wt with
    |none=>rfl
    |some t=>cases hd
   rw[e.1,hw,Tw];rw[hw] at hd;exact h.cl g hg hd
 ·rw[hL] at h1;rw[tJ] at hx;have bE:x≠g.k:=fun e=>hx (e▸bC);rw[hD,Mv _ _ bE];exact h.out x h0 h1 hx
 ·rw[hL] at h1;by_cases e:x=g.k
  ·rw[e,MZ]
   cases hw:wt with
   |none=>exact h.len _ (e▸h0) (e▸h1)
   |some t=>exact nZ t hw
  ·rw[Mv _ _ e];exact h.len x h0 h1
def dropPg:List Pg→Int→List Pg
 |[],_=>[]
 |g::l,k=>if g.k=k then l else g::dropPg l k
theorem PG (g:Pg)(l:List Pg)(k:Int):dropPg (g::l) k=if g.k=k then l else g::dropPg l k:=rfl
theorem z3u (l:List Pg)(k:Int):delL (PL l) k=PL (dropPg l k):=by
 induction l with
 |nil=>rfl
 | cons g l ih =>
   show(if k=g.k then PL l else(g.k,ptr g.b 0)::delL (PL l) k)=_;rw[PG];by_cases h:k=g.k
   ·rw[if_pos h,if_pos h.symm]
   ·rw[if_neg h,if_neg (fun e=>h e.symm),ih];rfl
theorem Qc:∀(l:List Pg) (k:Int),(dropPg l k).Sublist l
 |[],_=>List.Sublist.refl _
 | g :: l, k => by
   rw[PG];split
   ·exact List.sublist_cons_self _ _
   ·exact(Qc l k).cons_cons _
theorem Zh {l:List Pg}(hn:(l.map (·.k)).Nodup)(k x:Int):x∈(dropPg l k).map (·.k)↔x∈l.map (·.k)∧x≠k:=by
 induction l with
 |nil=>simp[dropPg]
 | cons g l ih =>
   rw[List.map_cons,List.nodup_cons] at hn;rw[PG];by_cases h:g.k=k
   ·rw[if_pos h,List.map_cons,List.mem_cons];constructor
    ·intro e;exact⟨.inr e,fun e2=>hn.1 (by rw[h,←e2];exact e)⟩
    ·rintro⟨e|e,e2⟩
     ·exact absurd (e.trans h) e2
     ·exact e
   ·rw[if_neg h,List.map_cons,List.map_cons,List.mem_cons,List.mem_cons];have:=ih hn.2;rw[this];constructor
    ·rintro(e|e)
     ·exact⟨.inl e,fun e2=>h (by rw[←e,e2])⟩
     ·exact⟨.inr e.1,e.2⟩
    ·rintro⟨e|e,e2⟩
     ·exact .inl e
     ·exact .inr ⟨e,e2⟩
theorem XP {l:List Pg}{g:Pg}(hn:(l.map (·.k)).Nodup)(hg:g∈l):N9 (dropPg l g.k)+(if g.d then 1 else 0)=N9 l:=by
 induction l with
 |nil=>cases hg
 | cons a l ih =>
   rw[List.map_cons,List.nodup_cons] at hn;rw[PG];by_cases h:a.k=g.k
   ·rw[if_pos h]
    have e:a=g:=by
     rcases List.mem_cons.1 hg with e| e
     ·exact e.symm
     ·exact absurd (List.mem_map.2 ⟨g,e,h.symm⟩) hn.1
    rw[e];unfold N9;rw[List.countP_cons]
   ·rw[if_neg h]
    have aa:g∈l:=by
     rcases List.mem_cons.1 hg with e| e
     ·exact absurd (by rw[e]) h
     ·exact e
    have:=ih hn.2 aa;unfold N9 at*;rw[List.countP_cons,List.countP_cons];omega
structure z6j (P:MP)(txt:Int→Bytes)(K:Nat)(g:Option Int)(D':Dev)(l':List Pg):Prop where
 now:∀x,0≤x→x<(P.L.length:Int)→x∉l'.map (·.k)→D'.now x=txt x
 cl:∀q∈l',q.d=false→D'.now q.k=txt q.k
 sub:l'.Sublist P.l
 keys:∀x,x∈l'.map (·.k)↔x∈P.l.map (·.k)∧g≠some x
 down:D'.down=false
 due:D'.due=0
 B:D'.B=P.D.B
 N:D'.N=P.D.N
 ca:D'.calls+(N9 l':Int)≤(K:Int)
 cc:D'.cache.length+N9 l'≤K
 Nt:D'.Nt.length≤17592186044416
theorem Tx.z9v (h:Tx P txt K):z6j P txt K none P.D P.l:=
 ⟨fun x h0 h1 hx=>h.out x h0 h1 fun e=>hx ((h.keys x).2 e),h.cl,List.Sublist.refl _,fun x=>by simp,h.down,h.due,rfl,rfl,h.ca,h.cc,h.Nt⟩
theorem Tx.zbO (h:Tx P txt K){g:Pg}(hg:g∈P.l):z6j P txt K (some g.k) (if g.d then(P.D.push g.k g.t).count else P.D) (dropPg P.l g.k):=by
 have yV:=XP h.nd hg
 have hk:=Zh h.nd g.k
 have Im:=h.ca
 have Fi:=h.cc
 have eA:=Qc P.l g.k
 have j5:∀x,0≤x→x<(P.L.length:Int)→x∉(dropPg P.l g.k).map (·.k)→x=g.k∨¬P.A.held x:=fun x h0 h1 hx=>by
  rw[hk,not_and] at hx;by_cases e:x=g.k
  ·exact .inl e
  ·exact .inr fun e2=>hx ((h.keys x).2 e2) e
 have n6:∀q∈dropPg P.l g.k,q∈P.l∧q.k≠g.k:=fun q hq=>⟨eA.subset hq,((hk q.k).1 (List.mem_map.2 ⟨q,hq,rfl⟩)).2⟩
 have qg:∀x,x∈(dropPg P.l g.k).map (·.k)↔x∈P.l.map (·.k)∧some g.k≠some x:=fun x=>by
  rw[hk];simp only[ne_eq,Option.some.injEq];constructor
  ·rintro⟨a,b⟩;exact⟨a,fun e=>b e.symm⟩
  ·rintro⟨a,b⟩;exact⟨a,fun e=>b e.symm⟩
 cases hd:g.d with
 | true =>
   rw[hd] at yV;rw[if_pos rfl] at yV⊢;refine⟨fun x h0 h1 hx=>?_,fun q hq rS=>?_,eA,qg,h.down,?_,rfl,rfl,?_,?_,h.Nt⟩
   ·rw[YQ];rcases j5 x h0 h1 hx with e| e
    ·rw[if_pos e.symm,e,h.tx g hg]
    ·by_cases e2:g.k=x
     ·rw[if_pos e2,←e2,h.tx g hg]
     ·rw[if_neg e2];exact h.out x h0 h1 e
   ·obtain⟨a,b⟩:=n6 q hq;rw[YQ,if_neg fun e=>b e.symm];exact h.cl q a rS
   ·have:=h.due;show(if P.D.due=0 then(0:Int) else _)=0;rw[if_pos this]
   ·show P.D.calls+1+_≤_;omega
   ·show(P.D.cache++[_]).length+_≤_
    rw[List.length_append,List.length_singleton];omega
 | false =>
   rw[hd] at yV;rw[if_neg (by simp)] at yV⊢;refine⟨fun x h0 h1 hx=>?_,fun q hq rS=>?_,eA,qg,h.down,h.due,rfl,rfl,by omega,by omega,h.Nt⟩
   ·rcases j5 x h0 h1 hx with e| e
    ·rw[e];exact h.cl g hg hd
    ·exact h.out x h0 h1 e
   ·exact h.cl q (n6 q hq).1 rS
theorem Tx.zc1 (h:Tx P txt K)(h0:0≤no)(h1:no<(P.L.length:Int))(hh:¬P.A.held no)(nZ:∀t,wt=some t→t.length=512){D':Dev}{l':List Pg}(hg:z6j P txt K (P.A.Mt no).2.2 D' l'){P':MP}{b:Nat}{z:Int}
  (hA:P'.A=(P.A.Mt no).1) (hl:P'.l=l'++[⟨no,b,wt.getD (txt no),wt.isSome⟩]) (hL:P'.L=P.L) (hD:P'.D={D' with reads:=z}):Tx P' (Th txt no wt) (K+wN wt):=by
 have ht:=Arc.VE h.aok no
 have In:=hg.ca
 have Io:=hg.cc
 have lM:∀x,x∈P'.l.map (·.k)↔x=no∨x∈l'.map (·.k):=fun x=>by
  rw[hl,List.map_append,List.mem_append,List.map_singleton,List.mem_singleton,or_comm]
 have tJ:∀x,P'.A.held x↔x=no∨x∈l'.map (·.k):=fun x=>by
  rw[hA,ht.held,hg.keys,h.keys]
 have jr:no∉l'.map (·.k):=fun e=>hh ((h.keys no).1 ((hg.keys no).1 e).1)
 have tL:N9 P'.l=N9 l'+wN wt:=by
  rw[hl];unfold N9 wN;rw[List.countP_append,List.countP_singleton]
 refine⟨by rw[hA];exact ht.ok,by rw[hA,ht.size];exact h.asz,fun x=>by rw[lM,tJ],?_,fun g iY=>?_,fun g iY=>?_,fun g iY hd=>?_,fun x x0 x1 hx=>?_,fun x x0 x1=>?_,by rw[hD];exact hg.down,by rw[hD];exact hg.due,by rw[hD,hL];exact hg.B.trans h.B,by rw[hD];exact hg.N.trans h.N,by rw[hD];show D'.calls+_≤_;omega,by rw[hD];show D'.cache.length+_≤_;omega,by rw[hD];exact hg.Nt⟩
 ·rw[hl,List.map_append,List.nodup_append];refine⟨(hg.sub.map _).nodup h.nd,by simp,fun a ha c hc e=>?_⟩;rw[List.map_singleton,List.mem_singleton] at hc;exact jr (by rw[←show a=no from e.trans hc];exact ha)
 ·rw[hL];rw[hl] at iY;rcases List.mem_append.1 iY with e| e
  ·exact h.rng g (hg.sub.subset e)
  ·rw[List.mem_singleton.1 e];exact⟨h0,h1⟩
 ·rw[hl] at iY;rcases List.mem_append.1 iY with e| e
  ·rw[Mv _ _ (fun e2=>jr (by rw[←e2];exact List.mem_map.2 ⟨g,e,rfl⟩))];exact h.tx g (hg.sub.subset e)
  ·rw[List.mem_singleton.1 e,MZ]
 ·rw[hD,Wm];rw[hl] at iY;rcases List.mem_append.1 iY with e| e
  ·rw[Mv _ _ (fun e2=>jr (by rw[←e2];exact List.mem_map.2 ⟨g,e,rfl⟩))];exact hg.cl g e hd
  ·rw[List.mem_singleton.1 e] at hd⊢
   have hw:wt=none:=by
    cases wt with
    |none=>rfl
    |some t=>cases hd
   rw[hw,Tw];exact hg.now no h0 h1 jr
 ·rw[hL] at x1;rw[tJ,not_or] at hx;rw[hD,Wm,Mv _ _ hx.1];exact hg.now x x0 x1 hx.2
 ·rw[hL] at x1;by_cases e:x=no
  ·rw[e,MZ]
   cases hw:wt with
   |none=>exact h.len _ h0 h1
   |some t=>exact nZ t hw
  ·rw[Mv _ _ e];exact h.len x x0 x1
end
section
variable {w w' w0:World}{P P0 P':MP}{S:Nat→Prop}{txt:Int→Bytes}{K:Nat}
theorem PN.cells (h:PN w P):KP w P.s [ptr P.d 0,ptr P.m 0,ptr P.c 0,.map (some P.pm),I (P.fr:Int),I P.h,I P.mi,I P.wr,I 0,I 0,I 0,.bool false] 92:=h.KD
theorem Tx.z8P (h:Tx P txt K):P.D.Small K:=⟨by have:=h.ca;omega,by have:=h.cc;omega,trivial,h.Nt⟩
theorem VJ (h:PN w P)(hN:P.D.N=1):Le Tryz.prog 44 [ptr P.s 0] w fun v w'=>v=I 512∧w'=w:=by
 have hB:=h.cells
 have cn:=z2O h.dev
 rw[hN] at cn
 refine KA (e:=[(0,_)]) Tryz.func44 rfl Tryz.ntmps44 rfl rfl (qN rfl (KE rfl (py (run_seq (qN rfl (An rfl (qV (LO RR rfl rfl) (py (Kx rfl (It (qN rfl (An rfl (qV (KZ rfl) ?_)))))))))))))
 refine qV (KK Tp rfl) (qV (KJ U26 rfl rfl hB rfl) (L2 [.tmp 8] z84 rfl (cn) ?_))
 rintro _ w ⟨rfl,rfl⟩
 refine KE rfl (py (KG Tryz.func44 rfl ?_))
 exact⟨_,rfl,rfl,rfl⟩
theorem z2L (h:PN w P):Le Tryz.prog 109 [ptr P.s 0] w fun v w'=>v=ptr P.d 0∧w'=w:=by
 have hB:=h.cells
 refine KA (e:=[(0,_)]) Tryz.func109 rfl Tryz.ntmps109 rfl rfl (qN rfl (KE rfl (py (run_seq (qN rfl (An rfl (qV (LO RR rfl rfl) (py (Kx rfl (It (qN rfl (An rfl (qV (KZ rfl) ?_)))))))))))))
 refine qV (KK Tp rfl) (qV (KJ U26 rfl rfl hB rfl) (KE rfl (py (KG Tryz.func109 rfl ?_))))
 exact⟨_,rfl,rfl,rfl⟩
theorem Uk (h:PN w P)(hd:P.D.down=false):Le Tryz.prog 89 [ptr P.s 0] w fun v w'=>v=I 0∧w'=w:=by
 have hB:=h.cells
 have tL:=z3A h.dev
 rw[hd] at tL
 refine KA (e:=[(0,_)]) Tryz.func89 rfl Tryz.ntmps89 rfl rfl (qN rfl (KE rfl (py (run_seq (KB (qN rfl (An rfl (qV (LO RR rfl rfl) (KE rfl (py (Kx rfl (qN rfl (An rfl ?_)))))))))))))
 refine qV (KZ rfl) (qV (KK z80 rfl) (qV (KJ U4 rfl rfl hB rfl) (An rfl (An rfl (qV (KZ rfl) (qV (KK Tp rfl) (qV (KJ U26 rfl rfl hB rfl) (L2 [.tmp 15] zb7 rfl (tL) ?_))))))))
 rintro _ w ⟨rfl,rfl⟩
 refine qV (Lk rfl rfl) (KE rfl (py (Kx rfl (It (KC (qN rfl (KE rfl (py (KG Tryz.func89 rfl ?_)))))))))
 exact⟨_,rfl,rfl,rfl⟩
theorem Z3 (h:PN w P)(s0:P.D.Small K)(tL:P.D.down=false)(Ip:P.D.due=0)(Iq:P.D.B=P.L.length)(ls:P.D.N=1)(hK:K<1000000000000){b:Nat}{t:Bytes}{d:Bool}{no:Int}(h0:0≤no)(h1:no<(P.L.length:Int))(ht:t.length=512)(hb:KP w b (ZG t d) 191)(lO:∀i,¬P.cp i b):
  Le Tryz.prog 126 [ptr P.s 0,I no,ptr b 0] w fun v w'=>v=I 0∧∃Fd' wr',PN w' {P with D:=if d then(P.D.push no t).count else P.D,Fd:=Fd',wr:=wr'}∧Kp (fun j=>j=b∨P.cp 0 j∨P.cp 1 j) w w'∧(∀j,Fd' j→P.Fd j∨w.heap.size≤j):=by
 replace hb:KP w b [S t,.bool d,I 0] 191:=hb
 have hB:=h.cells
 have hg:=Ext.L4 w
 have pG:P.s≠b:=fun e=>lO 0 e.symm
 have Fj:¬P.Fd P.s:=fun e=>h.Qu 0 1 (by decide) P.s rfl e
 have CH:¬P.Fd b:=lO 1
 refine KA (e:=[(0,_),(1,_),(2,_)]) Tryz.func126 rfl Tryz.ntmps126 rfl rfl ?_
 cases d with
 | false =>
   refine qN rfl (KE rfl (py (run_seq (qN rfl (An rfl (qV (KZ rfl) (qV (KK Qf rfl) (qV (KK WY rfl) (qV (KJ U4 rfl rfl hb rfl) (qV ((by first|exact LP rfl|exact Nq rfl)) ?_))))))))));refine py (KS rfl (qN rfl (KE rfl (py (KG Tryz.func126 rfl (⟨_,rfl,rfl,P.Fd,P.wr,?_,Kp.refl _ _,fun j e=> .inl e⟩))))));rw[if_neg (by simp)]
   exact h
 | true =>
   refine qN rfl (KE rfl (py (run_seq (qN rfl (An rfl (qV (KZ rfl) (qV (KK Qf rfl) (qV (KK WY rfl) (qV (KJ U4 rfl rfl hb rfl) (qV ((by first|exact LP rfl|exact Nq rfl)) ?_))))))))));have CI:=z0f no t (h.dev.ext hg) s0 hK;rw[z4Z tL Ip ⟨h0,by rw[Iq];exact h1⟩ (by rw[ls];exact ht)] at CI;dsimp only at CI;refine py (Kx rfl (It (run_seq (run_seq (KN (fun w'=>Kp P.Fd w w') (by kernel_rfl) rfl (KH 0 rfl (KM rfl) (hg.kp) (KH 1 rfl (KZ rfl) (hg.kp) (KH 2 rfl (KK Tp rfl) (hg.kp) (qT 3 rfl (fun _ h=>(by first|exact KJ U26 rfl rfl (h.KD hB Fj) rfl|exact KJ U26 rfl rfl (h.KD hb CH) rfl)) (hg.kp) ?_)))))))));refine KH 4 rfl (KM rfl) (hg.kp) (KH 5 rfl (KM rfl) (hg.kp) (KH 6 rfl (KZ rfl) (hg.kp) (KH 7 rfl (KK Qf rfl) (hg.kp) (KH 8 rfl (KK XD rfl) (hg.kp) (qT 9 rfl (fun _ h=>(by first|exact KJ U9 rfl rfl (h.KD hB Fj) rfl|exact KJ U9 rfl rfl (h.KD hb CH) rfl)) (hg.kp) ?_)))));refine OJ 10 [.tmp 17,.tmp 18,.tmp 23] rfl zbC rfl (CI) ?_;rintro _ w1 ⟨rfl,o8⟩;refine⟨hg.kp.trans o8.kpF,?_⟩;obtain⟨Fd',dw,nI⟩:=((h.r (Ext.refl w)).ext hg).dev o8;have aN:Kp P.Fd w w1:=hg.kp.trans o8.kpF;have oK:∀j,Fd' j→P.Fd j∨w.heap.size≤j:=fun j e=>(nI j e).imp id fun e=>by have:=hg.size;omega
   refine KH 11 rfl (ML rfl) (hg.kp.trans o8.kpF) (qE (qN rfl (An rfl (qV (LQ rfl rfl) ?_))));have ai:=dw.m.cells;refine py (Kx rfl (It (qN rfl (An rfl (qV (KZ rfl) (qV (KK Sc rfl) (qV (KK z3S rfl) (qV (KJ U3 rfl rfl ai rfl) (qV (z5a rfl rfl) (qV (KZ rfl) (qV (KK Sc rfl) (qV (KK z3S rfl) (KR rfl (Mn LC rfl rfl rfl ai (by simp)) ?_)))))))))))));rintro w2 ⟨ak,am⟩;obtain⟨z,hz⟩:∃z,IntKind.i64.wrap (P.wr+1)=z:=⟨_,rfl⟩;rw[hz] at ak;have et:=dw.cnt (a:=P.h) (b:=P.mi) (c:=z) ak am;have bM:=am.KD (aN.KD hb CH) (fun e=>pG e.symm);refine py (Lc.qb (e:=[(2,_),(6,_)]) ?_);refine qN rfl (An rfl (qV (KZ rfl) (qV (KK Qf rfl) (qV (KK WY rfl) (KR rfl (Mn PS rfl rfl rfl bM (by simp)) ?_)))));rintro w3 ⟨eL,ax⟩
   have CJ:∀i,¬MP.cp {P with D:=(P.D.push no t).count,Fd:=Fd',h:=P.h,mi:=P.mi,wr:=z} i b:=fun i e=>by
    match i,e with
    |0,e=>exact lO 0 e
    | 1, e =>
      rcases oK b e with e| e
      ·exact lO 1 e
      ·have:=hb.lt;omega
    |2,e=>exact lO 2 e
    |3,e=>exact lO 3 e
    |4,e=>exact lO 4 e
    |5,e=>exact lO 5 e
   refine qM rfl (KE rfl (py (KG Tryz.func126 rfl (⟨_,rfl,rfl,Fd',z,?_,?_,oK⟩))))
   ·rw[if_pos rfl];exact et.m.kp ax fun j ⟨i,hj⟩ e=>CJ i (e▸hj)
   ·exact((aN.KT fun j e=> .inr (.inr e)).trans (am.KT fun j e=> .inr (.inl e))).trans (ax.KT fun j e=> .inl e)
end
structure MP.Same (P P':MP):Prop where
 s:P'.s=P.s
 d:P'.d=P.d
 m:P'.m=P.m
 gi:P'.gi=P.gi
 c:P'.c=P.c
 pm:P'.pm=P.pm
 p:P'.p=P.p
 fr:P'.fr=P.fr
 L:P'.L=P.L
theorem MP.Same.trans {P P' P2:MP}(h:P.Same P')(h2:P'.Same P2):P.Same P2:=
 ⟨h2.s.trans h.s,h2.d.trans h.d,h2.m.trans h.m,h2.gi.trans h.gi,h2.c.trans h.c,h2.pm.trans h.pm,h2.p.trans h.p,h2.fr.trans h.fr,h2.L.trans h.L⟩
theorem UX {l:List Pg}{k:Int}{b:Nat}{t0 t:Bytes}{d0 d:Bool}(h:k∉l.map (·.k)):MH (l++[⟨k,b,t0,d0⟩]) k t d=l++[⟨k,b,t,d⟩]:=by
 unfold MH
 rw[List.map_append]
 congr 1
 ·conv=>rhs;rw[←List.map_id l]
  refine List.map_congr_left fun g hg=>?_;rw[if_neg fun e=>h (List.mem_map.2 ⟨g,hg,e⟩)];rfl
 ·show [if k=k then _ else _]=_;rw[if_pos rfl]
section
variable {w w' w0:World}{P P0 P':MP}{S':Nat→Prop}{txt:Int→Bytes}{K:Nat}
theorem PN.get (h:PN w P){q:Pg}(hq:q∈P.l):getL (PL P.l) q.k=some (ptr q.b 0):=
 YO h.mp.nd (List.mem_map.2 ⟨q,hq,rfl⟩)
theorem Px.write (h:Px w0 P0 w P){D':Dev}{Fd':Nat→Prop}{wr':Int}{b:Nat}(hm:PN w' {P with D:=D',Fd:=Fd',wr:=wr'})(hk:Kp (fun j=>j=b∨P.cp 0 j∨P.cp 1 j) w w')(hF:∀j,Fd' j→P.Fd j∨w.heap.size≤j)(hb:P0.fp b∨w0.heap.size≤b):Px w0 P0 w' {P with D:=D',Fd:=Fd',wr:=wr'}:=
 ⟨hm,fun j ⟨i,hj⟩=>by
  match i,hj with
  |0,e=>exact h.fp j ⟨0,e⟩
  | 1, e =>
    rcases hF j e with e| e
    ·exact h.fp j ⟨1,e⟩
    ·exact .inr (by have:=h.k.size;omega)
  |2,e=>exact h.fp j ⟨2,e⟩
  |3,e=>exact h.fp j ⟨3,e⟩
  |4,e=>exact h.fp j ⟨4,e⟩
  |5,e=>exact h.fp j ⟨5,e⟩,h.k.Kz hk fun j e=>by
  rcases e with e|e| e
  ·rw[e];exact hb.symm
  ·exact(h.fp j ⟨0,e⟩).symm
  ·exact(h.fp j ⟨1,e⟩).symm⟩
theorem Ub (hr : Px w0 P0 w P)(hI : Tx P txt K)(hK : K < 1000000000000){no : Int}(h0 : 0 ≤ no)(h1 : no < (P.L.length : Int))(wt : Option Bytes)(nZ : ∀ t, wt = some t → t.length = 512){x : Nat}{x0 : Value}(j5 : w0.heap.size ≤ x)(dS : ∀ i, ¬ P.cp i x)(eX : KP w x [x0] 9){f : Nat}(o5 : CF Tryz.prog f)
  (CK:∀(w1:World) (b:Nat) (t:Bytes) (d:Bool),b≠x→KP w1 b (ZG t d) 191→KP w1 x [x0] 9→Le Tryz.prog f [ptr b 0,ptr x 0] w1 fun v w2=>v= .tuple #[]∧KP w2 b (ZG (wt.getD t) (wt.isSome ||d)) 191∧KP w2 x [S (wt.getD t)] 9∧Kp (fun j=>j=if wt.isSome then b else x) w1 w2):
  Le Tryz.prog 90 [ptr P.s 0,I no,.bool wt.isSome,.func (.func f) #[] #[ptr x 0]] w fun v w'=>v=I 0∧KP w' x [S (wt.getD (txt no))] 9∧∃P',Px w0 P0 w' P'∧Tx P' (Th txt no wt) (K+wN wt)∧P.Same P'∧∀i,¬P'.cp i x:=by
 have hB:=hr.m.cells
 have g8:=Ui hr.m.dev
 rw[hI.B] at g8
 have lx:=eX.lt
 have fP:=Arc.VE hI.aok no
 obtain⟨T,hT⟩:∃T,P.A.Mt no=T:=⟨_,rfl⟩
 have eu:=ZD hr.m.arc hI.aok hI.asz (k:=no)
 rw[hT] at fP eu
 obtain⟨A2,YB,g⟩:=T
 dsimp only at fP eu
 have n4096:=hr.m.ext.n
 refine KA (e:=[(0,_),(1,_),(2,_),(3,_)]) Tryz.func90 rfl Tryz.ntmps90 rfl rfl (qN rfl (KE rfl (py (run_seq (qN rfl (An rfl (qV (LW rfl rfl) (Lq (An rfl (An rfl (An rfl (qV (KZ rfl) (qV (KK Tp rfl) ?_)))))))))))))
 refine qV (KJ U26 rfl rfl hB rfl) (L2 [.tmp 21] z3T rfl (g8) ?_)
 rintro _ w ⟨rfl,rfl⟩
 refine qV (OL rfl rfl) (Lq (qV (Lk rfl rfl) (py (Kx rfl (It (qN rfl (An rfl (qV (KZ rfl) (qV (KK z8z rfl) (qV (KJ U89 rfl rfl hB rfl) (An rfl (L2 [.tmp 29,.tmp 30] zbI rfl (eu) ?_))))))))))))
 rintro _ w1 ⟨rfl,V2,yW⟩
 have dw:=hr.arc yW
 have CL:=yW.k.KD eX (dS 3)
 have z1:=yW.k.size
 refine An rfl (qV (Ll (v:=z6O YB g) rfl rfl) (qV (Ll (v:=I 0) rfl rfl) (KL rfl rfl (MN (cs:=[_,_,_]) Lf rfl) ?_)))
 rintro _ w2 ⟨b9,rfl,nK,af,cy⟩
 have z2:=af.size
 refine KR rfl (Lo (news:=MD YB g) Lf rfl rfl rfl rfl cy (by simp)) ?_
 rintro w3 ⟨bZ,ax⟩
 replace bZ:KP w3 b9 [.bool YB,.bool g.isSome,I (g.getD 0)] 232:=bZ
 have aX:Ext w1 w3:=af.Kz ax (fun j e=>by omega)
 have cf:=dw.ext aX
 have xe:=aX.KD CL
 have z01:=dw.k.size
 have z13:=aX.size
 have eg:∀i,¬MP.cp {P with A:=A2,V:=V2} i x:=fun i e=>by
  match i,e with
  |0,e=>exact dS 0 e
  |1,e=>exact dS 1 e
  |2,e=>exact dS 2 e
  | 3, e =>
    rcases yW.fp x e with e| e
    ·exact dS 3 e
    ·omega
  |4,e=>exact dS 4 e
  |5,e=>exact dS 5 e
 have xh:∀i,¬MP.cp {P with A:=A2,V:=V2} i b9:=dw.m.new (by omega)
 have Kc:b9≠x:=by omega
 have l93:=bZ.lt
 have n8:=cf.m.cells
 dsimp only at n8
 refine KE rfl (py (Lc.qb (e:=[(0,_),(1,_),(2,_),(3,_),(8,_),(9,_),(10,_)]) ?_))
 refine run_seq (qN rfl (An rfl (qV (LQ rfl rfl) (py (Kx rfl (It (run_seq (qN rfl (qV (KK z5U rfl) ?_)))))))))
 cases YB with
 | true =>
   have bC:=fP.YB.1 rfl
   obtain⟨q,hq,CM⟩:∃q∈P.l,q.k=no:=by
    obtain⟨q,a,b⟩:=List.mem_map.1 ((hI.keys no).2 bC);exact⟨q,a,b⟩
   subst CM;refine qV (KJ U4 rfl rfl bZ rfl) (py (KS rfl (qN rfl (An rfl (qV (KZ rfl) (qV (KK Sc rfl) (qV (KK z5D rfl) (qV (KJ U3 rfl rfl n8 rfl) (qV (z5a rfl rfl) (qV (KZ rfl) (qV (KK Sc rfl) (qV (KK z5D rfl) (KR rfl (Mn LC rfl rfl rfl n8 (by simp)) ?_)))))))))))));rintro w4 ⟨aI,av⟩;obtain⟨z,hz⟩:∃z,IntKind.i64.wrap (P.h+1)=z:=⟨_,rfl⟩;rw[hz] at aI;have bO:=cf.cnt (a:=z) (b:=P.mi) (c:=P.wr) aI av;have jI:=bO.m.cells;dsimp only at jI;have pe:=av.KD xe (dS 0);have eO:=bO.m.get hq;dsimp only at eO;have tj:KP w4 q.b (ZG q.t q.d) 191:=bO.m.pg q hq;have sw:q.b≠x:=fun e=>dS 5 ⟨q,hq,e⟩;refine qM rfl (An rfl (An rfl (qV (KZ rfl) (qV (KK TJ rfl) (qV (KJ U90 rfl rfl jI rfl) (An rfl (qV (ylk (k:=q.k) (K:=KI) U90 (Ol U3) z7k rfl rfl bO.m.mp.l) ?_)))))));dsimp only;rw[eO];refine Mb rfl rfl (N6 (args:=[.tmp 54]) o5 rfl rfl) (CK w4 q.b q.t q.d sw tj pe) ?_;rintro _ w5 ⟨rfl,CN,pf,aj⟩;refine py (Lc.qb (e:=[(0,_),(1,_),(2,_),(3,_),(8,_),(9,_),(10,_)]) ?_);refine qN rfl (KE rfl (py (KG Tryz.func90 rfl ?_)));have CO:=hI.tx q hq;refine⟨_,rfl,rfl,by rw[←CO];exact pf,?_⟩
   cases wt with
   | none =>
     have xi:∀i,¬MP.cp {P with A:=A2,V:=V2,h:=z,mi:=P.mi,wr:=P.wr} i x:=fun i e2=>by
      match i,e2 with
      |0,e2=>exact eg 0 e2
      |1,e2=>exact eg 1 e2
      |2,e2=>exact eg 2 e2
      |3,e2=>exact eg 3 e2
      |4,e2=>exact eg 4 e2
      |5,e2=>exact eg 5 e2
     refine⟨_,bO.loc aj (fun j e=>⟨.inr (by rw[show j=x from e];exact j5),by rw[show j=x from e];exact xi⟩),hI.YB hq nZ (by rw[hT]) ?_ rfl rfl,⟨rfl,rfl,rfl,rfl,rfl,rfl,rfl,rfl,rfl⟩,xi⟩;show P.l=MH P.l q.k q.t q.d
     exact(Vm hI.nd hq).symm
   | some t =>
     refine⟨_,bO.zaB hq CN aj,hI.YB hq nZ (by rw[hT]) rfl rfl rfl,⟨rfl,rfl,rfl,rfl,rfl,rfl,rfl,rfl,rfl⟩,fun i e2=>?_⟩
     match i,e2 with
     |0,e2=>exact eg 0 e2
     |1,e2=>exact eg 1 e2
     |2,e2=>exact eg 2 e2
     |3,e2=>exact eg 3 e2
     |4,e2=>exact eg 4 e2
     | 5, ⟨g', cA, e2⟩ =>
       have h3:g'.b∈P.l.map (·.b):=by rw[←Xb P.l q.k];exact List.mem_map.2 ⟨g',cA,rfl⟩
       obtain⟨g2,a,b⟩:=List.mem_map.1 h3
       exact eg 5 ⟨g2,a,b.trans e2⟩
 | false =>
   have CP:¬P.A.held no:=fun e=>by have:=fP.YB.2 e;cases this
   refine qV (KJ U4 rfl rfl bZ rfl) (py (Kx rfl (It (qN rfl (An rfl (qV (KZ rfl) (qV (KK Sc rfl) (qV (KK z3Y rfl) (qV (KJ U3 rfl rfl n8 rfl) (qV (z5a rfl rfl) (qV (KZ rfl) (qV (KK Sc rfl) (qV (KK z3Y rfl) ?_)))))))))))));refine KR rfl (Mn LC rfl rfl rfl n8 (by simp)) ?_;rintro w4 ⟨aI,av⟩;obtain⟨z,hz⟩:∃z,IntKind.i64.wrap (P.mi+1)=z:=⟨_,rfl⟩;rw[hz] at aI;have bO:=cf.cnt (a:=P.h) (b:=z) (c:=P.wr) aI av;have jI:=bO.m.cells;dsimp only at jI;have pe:=av.KD xe (dS 0);have yX:b9≠P.s:=fun e=>xh 0 e;have jG:=av.KD bZ yX;have z4:=av.size;refine py (run_seq (qN rfl (qV (KK z69 rfl) (qV (KJ U4 rfl rfl jG rfl) (py ?_)))))
   have Ir:∀(D':Dev) (Fd':Nat→Prop) (l':List Pg) (wr':Int),(∀j,Fd' j→P.Fd j∨w.heap.size≤j)→l'.Sublist P.l→∀b,(∀i,¬MP.cp {P with A:=A2,V:=V2} i b)→b<w.heap.size∨(∀j,Fd' j→j≠b)→∀i,¬MP.cp {P with A:=A2,V:=V2,D:=D',Fd:=Fd',l:=l',mi:=z,wr:=wr'} i b:=fun D' Fd' l' wr' hF hl b hb bM i e=>by
    match i,e with
    |0,e=>exact hb 0 e
    | 1, e =>
      rcases bM with h| h
      ·rcases hF b e with e| e
       ·exact hb 1 e
       ·omega
      ·exact h b e rfl
    |2,e=>exact hb 2 e
    |3,e=>exact hb 3 e
    |4,e=>exact hb 4 e
    |5,⟨q,hq,e⟩=>exact hb 5 ⟨q,hl.subset hq,e⟩
   refine Lp (fun e' w'=>e'=[(0,ptr P.s 0),(1,I no),(2,.bool wt.isSome),(3,.func (.func f) #[] #[ptr x 0])]∧∃D' Fd' l' wr',Px w0 P0 w' {P with A:=A2,V:=V2,D:=D',Fd:=Fd',l:=l',mi:=z,wr:=wr'}∧z6j P txt K g D' l'∧KP w' x [x0] 9∧(∀j,Fd' j→P.Fd j∨w.heap.size≤j∧j≠x)) ?gt (fun gt=>?mV)
   case gt =>
    rintro e' w5 ⟨rfl,D',Fd',l',wr',bY,dC,pf,tB⟩;have jr:no∉l'.map (·.k):=fun e=>CP ((hI.keys no).1 ((dC.keys no).1 e).1);have z5:=bY.k.size;have lx5:=pf.lt
    have eh:∀i,¬MP.cp {P with A:=A2,V:=V2,D:=D',Fd:=Fd',l:=l',mi:=z,wr:=wr'} i x:=fun i e=>by
     match i,e with
     |0,e=>exact dS 0 e
     | 1, e =>
       rcases tB x e with e| e
       ·exact dS 1 e
       ·exact e.2 rfl
     |2,e=>exact dS 2 e
     |3,e=>exact eg 3 e
     |4,e=>exact dS 4 e
     |5,⟨q,hq,e⟩=>exact dS 5 ⟨q,dC.sub.subset hq,e⟩
    refine qN rfl (qV (Nc (parts:=[]) (cs:=[_,_,_]) zbh rfl zam rfl rfl) (KL rfl rfl (Mz rfl (cs:=ZG [] false) rfl) ?_));rintro _ w6 ⟨b,rfl,hb,aK,aW⟩;replace aW:KP w6 b [S [],.bool false,I 0] 191:=aW;have cz:=bY.ext aK;have na:=aK.KD pf;have ng:b≠x:=by omega
    have fQ:∀i,¬MP.cp {P with A:=A2,V:=V2,D:=D',Fd:=Fd',l:=l',mi:=z,wr:=wr'} i b:=bY.m.new (by omega);have lb6:=aW.lt
    have xj:getL (PL l') no=none:=WQ fun e=>jr (by
     unfold PL at e;rw[List.map_map] at e
     exact e)
    refine KE rfl (py (run_seq (qN rfl (An rfl (qV ((by first|exact LP rfl|exact Nq rfl)) ?_)))))
    cases wt with
    | none =>
      refine py (KS rfl ?_);have lu:=cz.m.cells;dsimp only at lu;have dX:=z2F no cz.m.dev (k:=K) ⟨by have:=dC.ca;show D'.calls≤_;omega,by have:=dC.cc;show D'.cache.length≤_;omega,trivial,dC.Nt⟩ hK
      have Is:D'.read no=({D' with reads:=IntKind.i64.wrap (D'.reads+1)},txt no,0):=by
       have hh:D'.has no=true:=by
        have:=dC.B;have:=hI.B;simp[Dev.has];omega
       unfold Dev.read;rw[if_neg (by rw[dC.down];simp),if_neg (by rw[hh];simp),dC.now no h0 h1 jr]
      dsimp only at dX;rw[Is] at dX;dsimp only at dX;refine qN rfl (An rfl (An rfl (qV (KZ rfl) (qV (KK Tp rfl) (qV (KJ U26 rfl rfl lu rfl) (An rfl (L2 [.tmp 97,.tmp 98] z96 rfl (dX) ?_)))))));rintro _ w7 ⟨rfl,qa⟩;obtain⟨Fd7,CQ,xl⟩:=cz.dev qa;have gN:Kp Fd' w6 w7:=qa.kpF;have bG:=gN.KD aW (fQ 1);have sx:=gN.KD na (eh 1);refine An rfl (qV (Ll (v:=S (txt no)) rfl rfl) (qV (Ll (v:=I 0) rfl rfl) (qV (KZ rfl) (qV (KK Qf rfl) (qV (KK XD rfl) (KR rfl (Mn WH rfl rfl rfl bG (by simp)) ?_))))));rintro w8 ⟨bU,bj⟩;replace bU:KP w8 b (ZG (txt no) false) 191:=bU
      have sy:∀i,¬MP.cp {P with A:=A2,V:=V2,D:={D' with reads:=IntKind.i64.wrap (D'.reads+1)},Fd:=Fd7,l:=l',mi:=z,wr:=wr'} i b:=fun i e=>by
       match i,e with
       |0,e=>exact fQ 0 e
       | 1, e =>
         rcases xl b e with e| e
         ·exact fQ 1 e
         ·omega
       |2,e=>exact fQ 2 e
       |3,e=>exact fQ 3 e
       |4,e=>exact fQ 4 e
       |5,e=>exact fQ 5 e
      have jJ:∀i,¬MP.cp {P with A:=A2,V:=V2,D:={D' with reads:=IntKind.i64.wrap (D'.reads+1)},Fd:=Fd7,l:=l',mi:=z,wr:=wr'} i x:=fun i e=>by
       match i,e with
       |0,e=>exact eh 0 e
       | 1, e =>
         rcases xl x e with e| e
         ·exact eh 1 e
         ·have:=na.lt;omega
       |2,e=>exact eh 2 e
       |3,e=>exact eh 3 e
       |4,e=>exact eh 4 e
       |5,e=>exact eh 5 e
      have f9:=CQ.loc bj (fun j e=>by rw[show j=b from e];exact⟨.inr (by omega),sy⟩);have CR:=bj.KD sx (fun e=>ng e.symm);have xm:=f9.m.cells;dsimp only at xm;refine KE rfl (qM rfl (An rfl (qV (LQ rfl rfl) (py (Lc.qb (e:=[(0,_),(1,_),(3,_),(10,_),(13,_),(106,_)]) ?_)))));refine Kx rfl (It (qN rfl (An rfl (qV (KZ rfl) (qV (KK TJ rfl) (qV (KJ U90 rfl rfl xm rfl) (An rfl (An rfl (KR rfl (z8S (k:=no) (K:=KI) U90 (Ol U3) rfl rfl rfl f9.m.mp) ?_)))))))));rintro w9 ⟨lS,aJ⟩;dsimp only at lS;rw[P7 _ _ _ xj] at lS;have gx:=f9.ins (g:=⟨no,b,txt no,false⟩) ⟨by dsimp only;omega,sy⟩ bU (by unfold PL at lS⊢;rw[List.map_append];exact lS) aJ;have cy:=aJ.KD bU (sy 4);have sA:=aJ.KD CR (jJ 4);refine qM rfl (An rfl (An rfl (Mb rfl rfl (N6 (args:=[.tmp 117]) o5 rfl rfl) (CK w9 b (txt no) false ng cy sA) ?_)));rintro _ w10 ⟨rfl,qh,nh,au⟩;refine qM rfl (KE rfl (py (KG Tryz.func90 rfl ?_)))
      have xi:∀i,¬MP.cp {P with A:=A2,V:=V2,D:={D' with reads:=IntKind.i64.wrap (D'.reads+1)},Fd:=Fd7,l:=l'++[⟨no,b,txt no,false⟩],mi:=z,wr:=wr'} i x:=fun i e2=>by
       match i,e2 with
       |0,e2=>exact jJ 0 e2
       |1,e2=>exact jJ 1 e2
       |2,e2=>exact jJ 2 e2
       |3,e2=>exact jJ 3 e2
       |4,e2=>exact jJ 4 e2
       | 5, ⟨q, hq, e2⟩ =>
         rcases List.mem_append.1 hq with e3|e3
         ·exact jJ 5 ⟨q,e3,e2⟩
         ·rw[List.mem_singleton.1 e3] at e2;exact ng e2
      exact⟨_,rfl,rfl,nh,_,gx.loc au (fun j e=>⟨.inr (by rw[show j=x from e];exact j5),by rw[show j=x from e];exact xi⟩),hI.zc1 h0 h1 CP nZ (by rw[hT];exact dC) (by rw[hT]) rfl rfl rfl,⟨rfl,rfl,rfl,rfl,rfl,rfl,rfl,rfl,rfl⟩,xi⟩
    | some t =>
      refine py (Kx rfl ?_);have lu:=cz.m.cells;dsimp only at lu;refine It (qN rfl (An rfl (qV (KZ rfl) (qV (KK TJ rfl) (qV (KJ U90 rfl rfl lu rfl) (An rfl (An rfl (KR rfl (z8S (k:=no) (K:=KI) U90 (Ol U3) rfl rfl rfl cz.m.mp) ?_))))))));rintro w9 ⟨lS,aJ⟩;dsimp only at lS;rw[P7 _ _ _ xj] at lS;have gx:=cz.ins (g:=⟨no,b,[],false⟩) ⟨by dsimp only;omega,fQ⟩ aW (by unfold PL at lS⊢;rw[List.map_append];exact lS) aJ;have cy:=aJ.KD aW (fQ 4);have sA:=aJ.KD na (eh 4);refine qM rfl (An rfl (An rfl (Mb rfl rfl (N6 (args:=[.tmp 117]) o5 rfl rfl) (CK w9 b [] false ng cy sA) ?_)));rintro _ w10 ⟨rfl,qh,nh,au⟩;refine qM rfl (KE rfl (py (KG Tryz.func90 rfl ?_)));have mK:=gx.zaB (g:=⟨no,b,[],false⟩) (List.mem_append_right _ (List.mem_singleton.2 rfl)) qh au;refine⟨_,rfl,rfl,nh,_,mK,hI.zc1 h0 h1 CP nZ (by rw[hT];exact dC) (by rw[hT]) (UX jr) rfl rfl,⟨rfl,rfl,rfl,rfl,rfl,rfl,rfl,rfl,rfl⟩,fun i e2=>?_⟩
      match i,e2 with
      |0,e2=>exact eh 0 e2
      |1,e2=>exact eh 1 e2
      |2,e2=>exact eh 2 e2
      |3,e2=>exact eh 3 e2
      |4,e2=>exact eh 4 e2
      | 5, ⟨q, hq, e2⟩ =>
        have e4:=UX (b:=b) (t0:=[]) (t:=(some t).getD []) (d0:=false) (d:=(some t).isSome ||false) jr;have Iu:q∈l'++[⟨no,b,(some t).getD [],(some t).isSome ||false⟩]:=by rw[←e4];exact hq
        rcases List.mem_append.1 Iu with e3|e3
        ·exact eh 5 ⟨q,e3,e2⟩
        ·rw[List.mem_singleton.1 e3] at e2;exact ng e2
   case mV=>
    cases g with
    | none =>
      refine Kx rfl (It ?_)
      exact(gt _ _ ⟨rfl,_,_,_,P.wr,bO,hI.z9v,pe,fun j e=> .inl e⟩).qb
    | some gk =>
      obtain⟨Iv,Iw⟩:=fP.gone gk rfl
      obtain⟨q,hq,CM⟩:∃q∈P.l,q.k=gk:=by
       obtain⟨q,a,b⟩:=List.mem_map.1 ((hI.keys gk).2 Iv);exact⟨q,a,b⟩
      subst CM;have eO:=bO.m.get hq;dsimp only at eO;have ae:=Ext.L4 w4;refine KS rfl (run_seq (KN (fun w'=>Ext w4 w') (by kernel_rfl) rfl (KH 0 rfl (KM rfl) ae (KH 1 rfl (KZ rfl) ae (KH 2 rfl (KK TJ rfl) ae (qT 3 rfl (fun _ h=>(by first|exact KJ U90 rfl rfl (h.KD jI) rfl|exact KJ U90 rfl rfl (h.KD jG) rfl)) ae ?_))))));refine KH 4 rfl (KK Xs rfl) ae (qT 5 rfl (fun _ h=>(by first|exact KJ U3 rfl rfl (h.KD jI) rfl|exact KJ U3 rfl rfl (h.KD jG) rfl)) ae ?_);refine qT 6 rfl (fun _ h=>ylk (k:=q.k) (K:=KI) U90 (Ol U3) z7k rfl rfl (bO.m.ext' h).mp.l) ae ?_;dsimp only;rw[eO];refine KH 7 rfl (ML rfl) ae (qE (Lc.qb (e:=[(0,_),(1,_),(2,_),(3,_),(8,_),(9,_),(10,_),(11,_)]) ?_));refine run_seq ?_;have dE:=Ext.L4 w4.drew;have xn:=ae.KD jI;have gp:=ae.KD jG;have bY:=bO.ext (ae.trans dE);refine L5 [6] (fun w'=>Ext w4.drew w') (by kernel_rfl) rfl (qL [1,2,3,6] 0 rfl (fun _ h=>KM rfl) dE (qL [2,3,6] 1 rfl (fun _ h=>KZ rfl) dE (qL [3,6] 2 rfl (fun _ h=>KK TJ rfl) dE (qL [6] 3 rfl (fun _ h=>(by first|exact KJ U90 rfl rfl (h.KD xn) rfl|exact KJ U90 rfl rfl (h.KD gp) rfl)) dE ?_))));refine qL [5,6] 4 rfl (fun _ h=>KK Xs rfl) dE (qL [6] 5 rfl (fun _ h=>(by first|exact KJ U3 rfl rfl (h.KD xn) rfl|exact KJ U3 rfl rfl (h.KD gp) rfl)) dE ?_);refine Lu [6] (by kernel_rfl) (by kernel_rfl) (qO 6 (z8h (i:=6) rfl rfl (zas (k:=q.k) (K:=KI) U90 (Ol U3) rfl rfl bY.m.mp rfl) ?_));rintro _ w6 ⟨tM,aS⟩;refine⟨trivial,?_⟩;dsimp only at tM;rw[z3u] at tM;have cz:=bY.del (Qc P.l q.k) tM aS;have CS:KP w4 q.b (ZG q.t q.d) 191:=bO.m.pg q hq;have xo:q.b≠P.pm:=fun e=>bO.m.Qu 5 4 (by decide) q.b ⟨q,hq,rfl⟩ e;have ri:=aS.KD ((ae.trans dE).KD CS) xo
      have fQ:∀i,¬MP.cp {P with A:=A2,V:=V2,h:=P.h,mi:=z,wr:=P.wr,l:=dropPg P.l q.k} i q.b:=fun i e=>by
       match i,e with
       |0,e=>exact bO.m.Qu 5 0 (by decide) q.b ⟨q,hq,rfl⟩ e
       |1,e=>exact bO.m.Qu 5 1 (by decide) q.b ⟨q,hq,rfl⟩ e
       |2,e=>exact bO.m.Qu 5 2 (by decide) q.b ⟨q,hq,rfl⟩ e
       |3,e=>exact bO.m.Qu 5 3 (by decide) q.b ⟨q,hq,rfl⟩ e
       |4,e=>exact xo e
       | 5, ⟨q2, gj, e⟩ =>
         have e2:q2=q:=Ny bO.m.pnd ((Qc P.l q.k).subset gj) hq e;have:=((Zh hI.nd q.k q2.k).1 (List.mem_map.2 ⟨q2,gj,rfl⟩)).2;exact this (by rw[e2])
      have ph:=hI.rng q hq;have CO:=hI.tx q hq;have vH:q.t.length=512:=by rw[CO];exact hI.len q.k ph.1 ph.2
      have na:=aS.KD ((ae.trans dE).KD pe) (eg 4);have lu:=cz.m.cells;have CT:=aS.KD ((ae.trans dE).KD jG) (xh 4);have z46:=(ae.trans dE).size;have z56:=aS.size;refine qE (qN rfl (An rfl (qV (KK Xs rfl) (qV (KJ U3 rfl rfl CT rfl) (An rfl (L2 [.tmp 80,.tmp 82,.tmp 83] z95 rfl (Z3 cz.m hI.z8P hI.down hI.due hI.B hI.N hK ph.1 ph.2 vH ri fQ) ?_))))));rintro _ w7 ⟨rfl,Fd7,wr7,fO,aA,xl⟩;have CQ:=cz.write fO aA xl (bO.fp q.b ⟨5,q,hq,rfl⟩);have sw:q.b≠x:=fun e=>dS 5 ⟨q,hq,e⟩
      have sx:=aA.KD na (fun e=>by
       rcases e with e|e| e
       ·exact sw e.symm
       ·exact dS 0 e
       ·exact dS 1 e)
      refine KE rfl (qM rfl (An rfl (qV (LQ rfl rfl) (py (Kx rfl (It ?_))))));exact(gt _ _ ⟨rfl,_,Fd7,_,wr7,CQ,hI.zbO hq,sx,fun j e=>(xl j e).imp id fun e=>⟨by omega,by omega⟩⟩).qb
end
section
variable {w w' w0:World}{P P0 P':MP}{S':Nat→Prop}{txt:Int→Bytes}{K:Nat}
theorem z3j {b x:Nat}{t:Bytes}{d:Bool}{x0:Value}(eX:b≠x)(hb:KP w b (ZG t d) 191)(hx:KP w x [x0] 9):Le Tryz.prog 91 [ptr b 0,ptr x 0] w fun v w2=>v= .tuple #[]∧KP w2 b (ZG t d) 191∧KP w2 x [S t] 9∧Kp (fun j=>j=x) w w2:=by
 replace hb:KP w b [S t,.bool d,I 0] 191:=hb
 refine KA (e:=[(0,_),(1,_)]) Tryz.func91 rfl Tryz.ntmps91 rfl rfl (KF rfl (An rfl (qV (KZ rfl) (qV (KK Qf rfl) (qV (KK XD rfl) (qV (KJ U9 rfl rfl hb rfl) (KR rfl (Mn WH rfl rfl rfl hx (by simp)) ?_)))))))
 rintro w1 ⟨ad,aN⟩
 refine py (LZ Tryz.func91 rfl ?_)
 exact⟨_,rfl,rfl,aN.KD hb eX,ad,aN⟩
theorem z0z {b x:Nat}{t s:Bytes}{d:Bool}(eX:b≠x)(hb:KP w b (ZG t d) 191)(hx:KP w x [S s] 9):Le Tryz.prog 92 [ptr b 0,ptr x 0] w fun v w2=>v= .tuple #[]∧KP w2 b (ZG s true) 191∧KP w2 x [S s] 9∧Kp (fun j=>j=b) w w2:=by
 replace hb:KP w b [S t,.bool d,I 0] 191:=hb
 refine KA (e:=[(0,_),(1,_)]) Tryz.func92 rfl Tryz.ntmps92 rfl rfl (KF rfl (An rfl (qV (KJ U9 rfl rfl hx rfl) (qV (Nc (parts:=[(0,.tmp 4),(1,.const (Value.bool true))]) (cs:=[_,_]) z1P rfl zbz rfl rfl) (qV (KZ rfl) (qV (KK Qf rfl) (KR rfl (Lo (news:=[S s,.bool true]) z1P rfl rfl rfl rfl hb (by simp)) ?_)))))))
 rintro w1 ⟨bT,aN⟩
 refine py (LZ Tryz.func92 rfl ?_)
 exact⟨_,rfl,rfl,bT,aN.KD hx (fun e=>eX e.symm),aN⟩
theorem z0M (hm:PN w P)(hI:Tx P txt K)(hK:K<1000000000000){no:Int}(h0:0≤no)(h1:no<(P.L.length:Int)):Le Tryz.prog 60 [ptr P.s 0,I no] w fun v w'=>v= .tuple #[S (txt no),I 0]∧∃P',Px w P w' P'∧Tx P' txt K∧P.Same P':=by
 refine KA (e:=[(0,_),(1,_)]) Tryz.func60 rfl Tryz.ntmps60 rfl rfl (qN rfl (KL rfl rfl (MN (cs:=[_]) WH rfl) ?_))
 rintro _ w1 ⟨x,rfl,hx,ad,hB⟩
 have dw:=hm.r ad
 have dS:∀i,¬P.cp i x:=hm.new (by omega)
 refine KE rfl (py (run_seq (qN rfl (An rfl (L2 [.tmp 7] zbj rfl (Uk dw.m hI.down) ?_)))))
 rintro _ w1 ⟨rfl,rfl⟩
 refine KE rfl (qM rfl (An rfl (qV (LQ rfl rfl) (py (Kx rfl (It (qN rfl (An rfl (An rfl (qV (Zw (first:=[]) (caps:=[.tmp 4]) rfl rfl) (L2 [.tmp 12,.tmp 13,.const (Value.bool false),.tmp 14] zaq rfl (Ub dw hI hK h0 h1 none (fun t e=>by cases e) (by omega) dS hB zdf (fun w1 b t d eX hb hx=>z3j eX hb hx)) ?_)))))))))))
 rintro _ w2 ⟨rfl,ak,P',et,cG,dB,xq⟩
 rw[Tw] at cG
 replace ak:KP w2 x [S (txt no)] 9:=ak
 refine KE rfl (qM rfl (qV (KJ U9 rfl rfl ak rfl) (An rfl (KR rfl (Mn WH rfl rfl rfl ak (by simp)) ?_))))
 rintro w3 ⟨ar,ax⟩
 replace ar:KP w3 x [S (txt no)] 9:=ar
 refine KE rfl (py (L8 Tryz.func60 (.cell1 U9 rfl rfl ((ar).cell _) (.tmp rfl .nil)) ?_))
 exact⟨_,rfl,rfl,P',et.loc ax (fun j e=>by rw[show j=x from e];exact⟨.inr (by omega),xq⟩),cG,dB⟩
theorem z2K (hm:PN w P)(hI:Tx P txt K)(hK:K<1000000000000){no:Int}(h0:0≤no)(h1:no<(P.L.length:Int))(t:Bytes)(ht:t.length=512):Le Tryz.prog 61 [ptr P.s 0,I no,S t] w fun v w'=>v=I 0∧∃P',Px w P w' P'∧Tx P' (Th txt no (some t)) (K+1)∧P.Same P':=by
 refine KA (e:=[(0,_),(1,_),(2,_)]) Tryz.func61 rfl Tryz.ntmps61 rfl rfl (qN rfl (KL rfl rfl (Mz rfl (cs:=[S t]) rfl) ?_))
 rintro _ w1 ⟨x,rfl,hx,ad,hB⟩
 have dw:=hm.r ad
 have dS:∀i,¬P.cp i x:=hm.new (by omega)
 refine KE rfl (py (run_seq (qN rfl (An rfl (L2 [.tmp 8] zbj rfl (Uk dw.m hI.down) ?_)))))
 rintro _ w1 ⟨rfl,rfl⟩
 refine KE rfl (qM rfl (An rfl (qV (LQ rfl rfl) ?_)))
 have hg:=Ext.L4 w1
 refine py (Kx rfl (It (run_seq (run_seq (KN (fun w'=>Ext w1 w') (by kernel_rfl) rfl (qT 0 rfl (fun _ h=>KJ U9 rfl rfl (h.KD hB) rfl) hg (KH 1 rfl (QE U9 rfl) hg (KH 2 rfl (KM rfl) hg (OJ 3 [.tmp 15] rfl YG rfl (VJ (dw.m.ext' hg) hI.N) ?_)))))))))
 rintro _ w2 ⟨rfl,rfl⟩
 refine⟨hg,?_⟩
 refine KH 4 rfl (LQ rfl rfl) hg (Pw (qE (Kx rfl (It (qN rfl (An rfl (An rfl (qV (Zw (first:=[]) (caps:=[.tmp 5]) rfl rfl) (L2 [.tmp 18,.tmp 19,.const (Value.bool true),.tmp 20] zaq rfl (Ub (dw.ext hg) hI hK h0 h1 (some t) (fun s e=>by cases e;exact ht) (by omega) dS (hg.KD hB) zdt (fun w1 b t2 d eX hb hx=>z0z eX hb hx)) ?_)))))))))
 rintro _ w2 ⟨rfl,ak,P',et,cG,dB,xq⟩
 refine KE rfl (py (KG Tryz.func61 rfl ?_))
 exact⟨_,rfl,rfl,P',et,cG,dB⟩
theorem z0v (hm:PN w P){a n:Nat}(hp:Pre P.L a)(du:1≤n)(nY:a+n≤P.L.length):Le Tryz.prog 45 [ptr P.s 0,I (n:Int)] w fun v w'=>v= .tuple #[.agg #[I (a:Int),I (n:Int)],I 0]∧Px w P w' {P with L:=MV P.L a n true}:=by
 refine KA (e:=[(0,_),(1,_)]) Tryz.func45 rfl Tryz.ntmps45 rfl rfl (qN rfl (KL rfl rfl (MN (cs:=[_,_]) NL rfl) ?_))
 rintro _ w1 ⟨x,rfl,hx,ad,hB⟩
 have dw:=hm.r ad
 have dS:∀i,¬P.cp i x:=hm.new (by omega)
 have kl:=dw.m.cells
 refine KE rfl (py (run_seq (qN rfl (An rfl (qV (LO RR rfl rfl) (py (Kx rfl (It (qN rfl (An rfl (qV (KZ rfl) (qV (KK z8c rfl) (qV (KJ X5 rfl rfl kl rfl) ?_)))))))))))))
 refine An rfl (L2 [.tmp 12,.tmp 13] zck rfl (YF dw.m.ext hp du nY) ?_)
 rintro _ w2 ⟨rfl,e8,am⟩
 have et:=dw.exM e8 am
 have ak:=am.KD hB (fun e=>dS 2 (.inr e))
 refine qV (Ll (v:= .agg #[I (a:Int),I (n:Int)]) rfl rfl) (qV (Ll (v:=I 0) rfl rfl) (KR rfl (Lo (news:=[I (a:Int),I (n:Int)]) NL rfl rfl rfl rfl ak (by simp)) ?_))
 rintro w3 ⟨ar,ax⟩
 replace ar:KP w3 x [I (a:Int),I (n:Int)] 97:=ar
 refine KE rfl (py (L8 Tryz.func45 (.cell U97 rfl NL rfl (KP.cells (n:=2) ar (news:=[_,_]) rfl) rfl (.tmp rfl .nil)) ?_))
 refine⟨_,rfl,rfl,et.loc ax (fun j e=>by
  rw[show j=x from e];refine⟨.inr (by omega),fun i e2=>?_⟩
  match i,e2 with
  |0,e2=>exact dS 0 e2
  |1,e2=>exact dS 1 e2
  |2,e2=>exact dS 2 e2
  |3,e2=>exact dS 3 e2
  |4,e2=>exact dS 4 e2
  |5,e2=>exact dS 5 e2)⟩
theorem Tx.Mi (h:Tx P txt K){L':List Bool}(hl:L'.length=P.L.length):Tx {P with L:=L'} txt K:=
 ⟨h.aok,h.asz,h.keys,h.nd,fun g hg=>by rw[hl];exact h.rng g hg,h.tx,h.cl,fun x h0 h1=>by rw[hl] at h1;exact h.out x h0 h1,fun x h0 h1=>by rw[hl] at h1;exact h.len x h0 h1,h.down,h.due,h.B.trans hl.symm,h.N,h.ca,h.cc,h.Nt⟩
theorem z2k {d m gi:Nat}{L:List Bool}{Fd:Nat→Prop}(hd:QC w d (Dev.fresh L.length 1) Fd)(he:Ta w m gi L)(yY:¬Fd m∧¬Fd gi)(n:Nat)(du:1≤n)(iX:n≤1000):Le Tryz.prog 23 [ptr d 0,I (n:Int),ptr m 0] w fun v w'=>∃P,v= .tuple #[ptr P.s 0,I 0]∧PN w' P∧Tx P (fun _=>zeros 512) 0∧P.m=m∧P.gi=gi∧P.L=L∧(∀b,P.fp b→Fd b∨b=m∨b=gi∨w.heap.size≤b)∧Ext w w':=by
 refine KA (e:=[(0,_),(1,_),(2,_)]) Tryz.func23 rfl Tryz.ntmps23 rfl rfl (qN rfl (KE rfl (KE rfl (py (run_seq (KB (qN rfl (An rfl (qV (LO U26 rfl rfl) (An rfl (An rfl (qV (LO X5 rfl rfl) (qV (Lk rfl rfl) ?_)))))))))))))
 refine KE rfl (py (Kx rfl (qN rfl (An rfl (qV (LW rfl rfl) (Lq (An rfl (An rfl (qV (LH rfl rfl) (Lq (qV (Lk rfl rfl) (KE rfl (py ?_)))))))))))))
 refine Kx rfl (It (KC (qN rfl (An rfl (L2 [.tmp 25] zci rfl (z4j n du (by omega) w) ?_)))))
 rintro _ w1 ⟨c,V,p,rfl,jV,ie,ad⟩
 refine An rfl (qV (Ll (v:=ptr c 0) rfl rfl) (qV (Ll (v:=I 0) rfl rfl) (KE rfl (KE rfl (py (Lc.qb (e:=[(0,_),(1,_),(2,_),(6,_),(7,_),(8,_),(9,_)]) ?_))))))
 refine run_seq (qN rfl (An rfl (qV (LQ rfl rfl) (py (Kx rfl (It (qN rfl (An rfl (An rfl (An rfl (KL rfl rfl (pmm) ?_)))))))))))
 rintro _ w2 ⟨pm,rfl,I7,af,cw⟩
 have lP:Nr KI w2 pm []:=Nr.new cw
 have lpm:=lP.lt
 refine An rfl (qV (Nc (parts:=[(0,.tmp 36)]) (cs:=[_,_,_,_,_,_,_]) W3 rfl zcG rfl rfl) (qV (Nc (parts:=[(0,.tmp 32),(1,.tmp 33),(2,.tmp 34),(3,.tmp 35),(4,.tmp 37)]) (cs:=[_,_,_,_,_,_,_,_,_,_,_,_]) zcI rfl zcf rfl rfl) (KL rfl rfl (Mz rfl (cs:=plC ⟨0,d,m,gi,c,pm,p,n,V,Dev.fresh L.length 1,ZY n,[],L,Fd,0,0,0⟩) rfl) ?_)))
 rintro _ w3 ⟨s,rfl,hs,ah,ar⟩
 refine KE rfl (KE rfl (py (KG Tryz.func23 rfl ?_)))
 have z1:=ad.size
 have z2:=af.size
 have dI:=af.trans ah
 have c6:=ad.trans dI
 have mh:=jV.ext dI
 have CU:∀{b:Nat},Nw c V p b→b<w1.heap.size:=jV.lt
 have CV:=hd.lt
 have ltm:=he.ltm
 have ltg:=he.ltg
 refine⟨_,rfl,⟨s,d,m,gi,c,pm,p,n,V,Dev.fresh L.length 1,ZY n,[],L,Fd,0,0,0⟩,rfl,⟨ar,hd.ext c6,he.ext c6,mh,lP.ext ah,(fun g hg=>by cases hg),List.nodup_nil,?_⟩,⟨z5Y du,iX,fun x=>?_,List.nodup_nil,(fun g hg=>by cases hg),(fun g hg=>by cases hg),(fun g hg=>by cases hg),fun x _ _ _=>rfl,fun x _ _=>by simp[zeros],rfl,rfl,rfl,rfl,Int.le_refl _,Nat.le_refl _,Nat.zero_le _⟩,rfl,rfl,rfl,fun b ⟨i,hb⟩=>?_,c6⟩
 ·intro i j ne b hb bM
  have cls:∀i,MP.cp ⟨s,d,m,gi,c,pm,p,n,V,Dev.fresh L.length 1,ZY n,[],L,Fd,0,0,0⟩ i b→(i=0∧b=s)∨(i=1∧Fd b∧b<w.heap.size)∨(i=2∧(b=m∨b=gi)∧b<w.heap.size)∨(i=3∧w.heap.size≤b∧b<w1.heap.size)∨(i=4∧b=pm):=fun i hb=>by
   match i,hb with
   |0,e=>exact .inl ⟨rfl,e⟩
   |1,e=>exact .inr (.inl ⟨rfl,e,CV b e⟩)
   |2,e=>exact .inr (.inr (.inl ⟨rfl,e,by have e':b=m∨b=gi:=e;omega⟩))
   |3,e=>exact .inr (.inr (.inr (.inl ⟨rfl,ie b e,CU e⟩)))
   |4,e=>exact .inr (.inr (.inr (.inr ⟨rfl,e⟩)))
   |5,⟨g,hg,e⟩=>cases hg
  have h1:=cls i hb;have h2:=cls j bM;rcases h1 with⟨e,h1⟩|⟨e,h1,tp⟩|⟨e,h1,tp⟩|⟨e,h1,tp⟩|⟨e,h1⟩<;>rcases h2 with⟨f,h2⟩|⟨f,h2,Fk⟩|⟨f,h2,Fk⟩|⟨f,h2,Fk⟩|⟨f,h2⟩<;>first|omega|skip
  ·rcases h2 with e| e
   ·exact yY.1 (e▸h1)
   ·exact yY.2 (e▸h1)
  ·rcases h1 with e| e
   ·exact yY.1 (e▸h2)
   ·exact yY.2 (e▸h2)
 ·constructor
  ·intro e;cases e
  ·intro e;rcases e with e|e<;>cases e
 ·match i,hb with
  |0,e=>exact .inr (.inr (.inr (by have:b=s:=e;omega)))
  |1,e=>exact .inl e
  |2,e=>rcases e with e|e;exact .inr (.inl e);exact .inr (.inr (.inl e))
  |3,e=>exact .inr (.inr (.inr (ie b e)))
  |4,e=>exact .inr (.inr (.inr (by have:b=pm:=e;omega)))
  |5,⟨g,hg,e⟩=>cases hg
end
section
variable {w w' w0:World}{P P0 P':MP}{S':Nat→Prop}{txt:Int→Bytes}{K:Nat}
end
def Sp (Q:MP)(txt:Int→Bytes)(K:Nat)(X:Nat→Prop)(w:World):Prop:=∃P,PN w P∧Tx P txt K∧Q.Same P∧∀b,P.fp b→¬X b
section
variable {w w' w0:World}{Q Q' P P':MP}{X Y S':Nat→Prop}{txt txt':Int→Bytes}{K K':Nat}
theorem Sp.step (h:Sp Q txt K X w)(hk:Kp S' w w')(hS:∀b,S' b→X b)(hY:∀b,Y b→X b∨w.heap.size≤b):Sp Q txt K Y w':=by
 obtain⟨P,hm,hI,hs,hf⟩:=h
 refine⟨P,hm.kp hk fun b hb e=>hf b hb (hS b e),hI,hs,fun b hb e=>?_⟩
 rcases hY b e with e| e
 ·exact hf b hb e
 ·have:=hm.lt hb;omega
theorem Sp.ext (h:Sp Q txt K X w)(hx:Ext w w')(hY:∀b,Y b→X b∨w.heap.size≤b):Sp Q txt K Y w':=h.step (S':=fun _=>False) hx (fun _ e=>e.elim) hY
theorem Sp.ext' (h:Sp Q txt K X w)(hx:Ext w w'):Sp Q txt K X w':=h.ext hx fun _ e=> .inl e
theorem Sp.own (h:Sp Q txt K X w)(hk:Kp S' w w')(hS:∀b,S' b→X b):Sp Q txt K X w':=h.step hk hS fun _ e=> .inl e
theorem Sp.of (hf:∀b,P.fp b→¬X b)(hX:∀b,X b→b<w.heap.size)(hr:Px w P w' P')(hI:Tx P' txt' K')(hs:Q'.Same P'):Sp Q' txt' K' X w'∧Kp (fun b=>¬X b) w w':=
 ⟨⟨P',hr.m,hI,hs,fun b hb e=>by
  rcases hr.fp b hb with h| h
  ·exact hf b h e
  ·have:=hX b e;omega⟩,hr.k.KT hf⟩
theorem Tx.more (h:Tx P txt K)(hK:K≤K'):Tx P txt K':=by
 obtain⟨a1,a2,a3,a4,a5,a6,a7,a8,a9,b1,b2,b3,b4,b5,b6,b7⟩:=h
 exact⟨a1,a2,a3,a4,a5,a6,a7,a8,a9,b1,b2,b3,b4,by omega,by omega,b7⟩
theorem Sp.more (h:Sp Q txt K X w)(hK:K≤K'):Sp Q txt K' X w:=by
 obtain⟨P,hm,hI,hs,hf⟩:=h
 exact⟨P,hm,hI.more hK,hs,hf⟩
theorem Sp.less (h:Sp Q txt K X w)(hY:∀b,Y b→X b):Sp Q txt K Y w:=by
 obtain⟨P,hm,hI,hs,hf⟩:=h
 exact⟨P,hm,hI,hs,fun b hb e=>hf b hb (hY b e)⟩
theorem Sp.size (h:Sp Q txt K X w):Le Tryz.prog 44 [ptr Q.s 0] w fun v w'=>v=I 512∧w'=w:=by
 obtain⟨P,hm,hI,hs,-⟩:=h
 rw[←hs.s]
 exact VJ hm hI.N
theorem Sp.dev (h:Sp Q txt K X w):Le Tryz.prog 109 [ptr Q.s 0] w fun v w'=>v=ptr Q.d 0∧w'=w:=by
 obtain⟨P,hm,hI,hs,-⟩:=h
 rw[←hs.s,←hs.d]
 exact z2L hm
theorem Sp.blocks (h:Sp Q txt K X w):Le Tryz.prog 110 [ptr Q.d 0] w fun v w'=>v=I (Q.L.length:Int)∧w'=w:=by
 obtain⟨P,hm,hI,hs,-⟩:=h
 have hb:=Ui hm.dev
 rw[hI.B] at hb
 rw[←hs.d,←hs.L]
 exact hb
theorem Sp.room (h:Sp Q txt K X w){a:Nat}(hp:Pre Q.L a)(ha:a<Q.L.length):Le Tryz.prog 18 [ptr Q.m 0] w fun v w'=>v=I ((Q.L.length-a:Nat):Int)∧Ext w w':=by
 obtain⟨P,hm,hI,hs,-⟩:=h
 rw[←hs.m]
 rw[←hs.L] at hp ha⊢
 exact z0U hm.ext hp ha
theorem Sp.VV (h:Sp Q txt K X w){x:Int}(h0:0≤x)(h1:x<(Q.L.length:Int)):(txt x).length=512:=by
 obtain⟨P,hm,hI,hs,-⟩:=h
 exact hI.len x h0 (by rw[hs.L];exact h1)
theorem Sp.n (h:Sp Q txt K X w):Q.L.length≤4096:=by
 obtain⟨P,hm,hI,hs,-⟩:=h
 rw[←hs.L]
 exact hm.ext.n
theorem Sp.read (h:Sp Q txt K X w)(hX:∀b,X b→b<w.heap.size)(hK:K<1000000000000){no:Int}(h0:0≤no)(h1:no<(Q.L.length:Int)):Le Tryz.prog 60 [ptr Q.s 0,I no] w fun v w'=>v= .tuple #[S (txt no),I 0]∧Sp Q txt K X w'∧Kp (fun b=>¬X b) w w':=by
 obtain⟨P,hm,hI,hs,hf⟩:=h
 rw[←hs.s]
 refine(z0M hm hI hK h0 (by rw[hs.L];exact h1)).mono fun v w' ⟨hv,P',hr,CW,ss⟩=>⟨hv,Sp.of hf hX hr CW (hs.trans ss)⟩
theorem Sp.write (h:Sp Q txt K X w)(hX:∀b,X b→b<w.heap.size)(hK:K<1000000000000){no:Int}(h0:0≤no)(h1:no<(Q.L.length:Int))(t:Bytes)(ht:t.length=512):Le Tryz.prog 61 [ptr Q.s 0,I no,S t] w fun v w'=>v=I 0∧Sp Q (Th txt no (some t)) (K+1) X w'∧Kp (fun b=>¬X b) w w':=by
 obtain⟨P,hm,hI,hs,hf⟩:=h
 rw[←hs.s]
 refine(z2K hm hI hK h0 (by rw[hs.L];exact h1) t ht).mono fun v w' ⟨hv,P',hr,CW,ss⟩=>⟨hv,Sp.of hf hX hr CW (hs.trans ss)⟩
def MP.Mi (Q:MP)(L:List Bool):MP:={Q with L:=L}
theorem MP.Same.Mi (h:Q.Same P)(L:List Bool):(Q.Mi L).Same {P with L:=L}:=⟨h.s,h.d,h.m,h.gi,h.c,h.pm,h.p,h.fr,rfl⟩
theorem Sp.take (h:Sp Q txt K X w)(hX:∀b,X b→b<w.heap.size){a n:Nat}(hp:Pre Q.L a)(du:1≤n)(nY:a+n≤Q.L.length):Le Tryz.prog 45 [ptr Q.s 0,I (n:Int)] w fun v w'=>v= .tuple #[.agg #[I (a:Int),I (n:Int)],I 0]∧Sp (Q.Mi (MV Q.L a n true)) txt K X w'∧Kp (fun b=>¬X b) w w':=by
 obtain⟨P,hm,hI,hs,hf⟩:=h
 rw[←hs.s]
 rw[←hs.L] at hp nY
 refine(z0v hm hp du nY).mono fun v w' ⟨hv,hr⟩=>⟨hv,?_⟩
 rw[←hs.L]
 exact Sp.of hf hX hr (hI.Mi (by rw[MJ nY])) (hs.Mi _)
end
end Go.Proofs.YtpldpcjdjcgicaaGreatDoor
namespace Go.Proofs.YtpldpcjdjcgicaaGreatDoor
open Go Go.Proofs Go.Shelf
set_option linter.all false
def YS:Go.Shelf.Ren:=⟨fun|105=>55|212=>85|99=>86|165=>87|166=>64|170=>88|169=>65|263=>119|264=>120|206=>121|240=>95|241=>122|276=>134|277=>156|n=>n,fun|9=>9|3=>3|4=>4|20=>20|0=>0|46=>152|109=>182|5=>5|72=>157|76=>160|51=>46|146=>226|53=>41|148=>228|70=>155|37=>151|75=>159|127=>196|164=>247|80=>162|n=>n,fun|n=>n⟩
theorem z8p:Go.Proofs.Lays.n105 Tryz.prog YS:={
 mixed:=by kernel_rfl
 f99:=Tryz.func86.trans (congrArg some (by kernel_rfl))
 f105:=Tryz.func55.trans (congrArg some (by kernel_rfl))
 f165:=Tryz.func87.trans (congrArg some (by kernel_rfl))
 f166:=Tryz.func64.trans (congrArg some (by kernel_rfl))
 f169:=Tryz.func65.trans (congrArg some (by kernel_rfl))
 f170:=Tryz.func88.trans (congrArg some (by kernel_rfl))
 f206:=Tryz.func121.trans (congrArg some (by kernel_rfl))
 f212:=Tryz.func85.trans (congrArg some (by kernel_rfl))
 f240:=Tryz.func95.trans (congrArg some (by kernel_rfl))
 f241:=Tryz.func122.trans (congrArg some (by kernel_rfl))
 f263:=Tryz.func119.trans (congrArg some (by kernel_rfl))
 f264:=Tryz.func120.trans (congrArg some (by kernel_rfl))
 f276:=Tryz.func134.trans (congrArg some (by kernel_rfl))
 f277:=Tryz.func156.trans (congrArg some (by kernel_rfl))
 t0:=Tryz.underlying0
 a0:=Tryz.isAgg0
 z0:=Tryz.sizeOf0
 v0:=Tryz.zeroValue0
 t3:=Tryz.underlying3
 a3:=Tryz.isAgg3
 z3:=Tryz.sizeOf3
 v3:=Tryz.zeroValue3
 t4:=Tryz.underlying4
 a4:=Tryz.isAgg4
 z4:=Tryz.sizeOf4
 v4:=Tryz.zeroValue4
 t5:=Tryz.underlying5
 a5:=Tryz.isAgg5
 z5:=Tryz.sizeOf5
 v5:=Tryz.zeroValue5
 t9:=Tryz.underlying9
 a9:=Tryz.isAgg9
 z9:=Tryz.sizeOf9
 v9:=Tryz.zeroValue9
 t20:=Tryz.underlying20
 a20:=Tryz.isAgg20
 z20:=Tryz.sizeOf20
 v20:=Tryz.zeroValue20
 t37:=Tryz.underlying151
 a37:=Tryz.isAgg151
 z37:=Tryz.sizeOf151
 v37:=Tryz.zeroValue151
 t46:=Tryz.underlying152
 a46:=Tryz.isAgg152
 z46:=Tryz.sizeOf152
 v46:=Tryz.zeroValue152
 t51:=Tryz.underlying46
 a51:=Tryz.isAgg46
 z51:=Tryz.sizeOf46
 v51:=Tryz.zeroValue46
 t53:=Tryz.underlying41
 a53:=Tryz.isAgg41
 z53:=Tryz.sizeOf41
 v53:=Tryz.zeroValue41
 t70:=Tryz.underlying155
 a70:=Tryz.isAgg155
 z70:=Tryz.sizeOf155
 v70:=Tryz.zeroValue155
 t72:=Tryz.underlying157
 a72:=Tryz.isAgg157
 z72:=Tryz.sizeOf157
 v72:=Tryz.zeroValue157
 t75:=Tryz.underlying159
 a75:=Tryz.isAgg159
 z75:=Tryz.sizeOf159
 v75:=Tryz.zeroValue159
 t76:=Tryz.underlying160
 a76:=Tryz.isAgg160
 z76:=Tryz.sizeOf160
 v76:=Tryz.zeroValue160
 t109:=Tryz.underlying182
 a109:=Tryz.isAgg182
 z109:=Tryz.sizeOf182
 v109:=Tryz.zeroValue182
 t127:=Tryz.underlying196
 a127:=Tryz.isAgg196
 z127:=Tryz.sizeOf196
 v127:=Tryz.zeroValue196
 t146:=Tryz.underlying226
 a146:=Tryz.isAgg226
 z146:=Tryz.sizeOf226
 v146:=Tryz.zeroValue226
 t148:=Tryz.underlying228
 a148:=Tryz.isAgg228
 z148:=Tryz.sizeOf228
 v148:=Tryz.zeroValue228
 t164:=Tryz.underlying247
 a164:=Tryz.isAgg247
 z164:=Tryz.sizeOf247
 v164:=Tryz.zeroValue247}
end Go.Proofs.YtpldpcjdjcgicaaGreatDoor
namespace Go.Proofs.YtpldpcjdjcgicaaGreatDoor
open Go Go.RowKit Go.Shelf
set_option linter.all false
set_option maxRecDepth 100000

/-! ### A builder of strings -/
theorem z8C:Builder.Extra Tryz.prog YS where
 sizeBuilder:=by kernel_rfl
 liesBuilder:=by kernel_rfl
 t5:=by kernel_rfl
 a5:=fun _=>by kernel_rfl
 z5:=fun _=>by kernel_rfl
 v5:=fun w=>TI.zero (w:=w) Sf
 infoByte:=by kernel_rfl
 cellsByte:=by kernel_rfl
 sizeByte:=by kernel_rfl
 neB5:=by decide
section
variable {w:World}
end
theorem z1r (l:Bytes):∀n,Lib.repeatL l n=(List.replicate n l).flatten
 |0=>rfl
 |n+1=>by rw[Lib.repeatL,z1r l n];rfl
theorem Tr (l:Bytes)(n:Nat)(hl:l.length≤100)(hn:n≤1000000)(w:World):Le Tryz.prog 55 [S l,I (n:Int)] w fun v w'=>v=S (List.replicate n l).flatten∧Ext w w':=by
 have h2:n*l.length≤1000000*100:=Nat.mul_le_mul hn hl
 have:=Any.strings_Repeat z8p z8C ⟨l.toArray⟩ n w (by omega) (by rw[NF,Nat.mul_comm];omega)
 refine Calls.mono this fun _ _ ⟨he,hw⟩=>⟨_,he,?_,Ext.z5f hw⟩
 show Value.string ⟨(Lib.repeatL l n).toArray⟩=_
 rw[z1r]
end Go.Proofs.YtpldpcjdjcgicaaGreatDoor
namespace Go.Proofs.YtpldpcjdjcgicaaGreatDoor
open Go Go.RowKit
set_option linter.all false
set_option maxRecDepth 100000
def PQ (w n:Nat):Bytes:=(List.range w).map fun k=>UInt8.ofNat (n / 2^(8*(w-1-k)))
theorem LB (w n:Nat):(PQ w n).length=w:=by simp[PQ]
theorem z4J (w n:Nat):PQ (w+1) n=UInt8.ofNat (n / 2^(8*w))::PQ w n:=by
 unfold PQ
 rw[List.range_succ_eq_map,List.map_cons,List.map_map]
 congr 1
 refine List.map_congr_left fun k hk=>?_
 show UInt8.ofNat (n / 2^(8*(w+1-1-(k+1))))=_
 rw[show w+1-1-(k+1)=w-1-k by omega]
theorem Tn:∀(w n:Nat),L0 (PQ w n)=bitsN (8*w) n
 |0,n=>rfl
 | w + 1, n => by
   rw[z4J,Oj,Tn w n,show 8*(w+1)=8+8*w by omega,MW]
   congr 1
   refine QU ?_;have:(UInt8.ofNat (n / 2^(8*w))).toNat=n / 2^(8*w)%256:=by simp
   rw[this];omega
theorem Xo {w n:Nat}(h:n<2^(8*w)):valB (L0 (PQ w n))=n:=by
 rw[Tn,Ly,Nat.mod_eq_of_lt h]
theorem z6D (s:Bytes):PQ s.length (valB (L0 s))=s:=by
 have h1:L0 (PQ s.length (valB (L0 s)))=L0 s:=by
  rw[Tn];have:=VN (L0 s);rw[bitsT_length] at this;exact this
 have inj : ∀ a b : Bytes, a.length = b.length → L0 a = L0 b → a = b := fun a => by
  induction a with
  | nil => intro b hb _; cases b with
    |nil=>rfl
    |cons=>cases hb
  | cons c a ih =>
    intro b hb he
    cases b with
    |nil=>cases hb
    | cons d b =>
      rw[Oj,Oj] at he;obtain⟨e1,e2⟩:=List.append_inj he (by rw[bitsN_length,bitsN_length]);rw[ih b (by simpa using hb) e2]
      congr 1
      have:=congrArg valB e1;rw[Ly,Ly] at this;have h3:=c.toNat_lt;have h4:=d.toNat_lt;exact UInt8.toNat_inj.1 (by omega)
 exact inj _ _ (LB _ _) h1
def Laid (txt:Int→Bytes)(a:Nat)(T:Bytes):Prop:=∀k,512*k<T.length→(txt ((a+k:Nat):Int)).take (T.length-512*k)=(T.drop (512*k)).take 512
section
variable {txt txt':Int→Bytes}{a n:Nat}{T:Bytes}
theorem Laid.piece (h:Laid txt a T){off n:Nat}(h1:off+n≤T.length)(h2:n≤512-off%512):((txt ((a+off / 512:Nat):Int)).drop (off%512)).take n=(T.drop off).take n:=by
 by_cases hn:n=0
 ·subst hn;simp
 have hk:=h (off / 512) (by omega)
 have e:=congrArg (fun l=>(l.drop (off%512)).take n) hk
 try dsimp only at e
 rw[List.drop_take,List.take_take,Nat.min_eq_left (by omega),List.drop_take,List.take_take,List.drop_drop,Nat.min_eq_left (by omega),show 512*(off / 512)+off%512=off by omega] at e
 exact e
theorem Laid.X9 (h:Laid txt a T)(e:∀k,512*k<T.length→txt' ((a+k:Nat):Int)=txt ((a+k:Nat):Int)):Laid txt' a T:=fun k hk=>by rw[e k hk];exact h k hk
theorem Laid.of (h:∀k,512*k<T.length→(txt ((a+k:Nat):Int)).length=512∧∃r,txt ((a+k:Nat):Int)=(T.drop (512*k)).take 512++r):Laid txt a T:=fun k hk=>by
 obtain⟨hl,r,e⟩:=h k hk
 have h1:((T.drop (512*k)).take 512).length=min 512 (T.length-512*k):=by simp
 rw[e,List.length_append,h1] at hl
 rw[e]
 by_cases hc:T.length-512*k≤512
 ·exact List.take_left' (by rw[h1];omega)
 ·have:r=[]:=List.eq_nil_of_length_eq_zero (by omega);rw[this,List.append_nil,List.take_of_length_le (by rw[h1];omega)]
end
def VcT (txt:Int→Bytes)(st width each:Nat)(xs:List Nat):Prop:=∀i x,xs[i]? =some x→((txt ((st+i / each:Nat):Int)).drop (i%each*width)).take width=PQ width x∧x<2^(8*width)
theorem W1 (a b c:Bytes){k n:Nat}(hn:k+n≤a.length):((a++b++c).drop k).take n=(a.drop k).take n:=by
 rw[List.append_assoc,List.drop_append_of_le_length (by omega),List.take_append_of_le_length (by rw[List.length_drop];omega)]
section
variable {txt txt':Int→Bytes}{st width each:Nat}{xs:List Nat}
theorem VcT.set (h:VcT txt st width each xs)(he:1≤each){i x:Nat}(hx:x<2^(8*width))(hi:i<xs.length){t:Bytes}(ht:txt ((st+i / each:Nat):Int)=t)(hl:i%each*width+width≤t.length):VcT (Th txt ((st+i / each:Nat):Int) (some (t.take (i%each*width)++PQ width x++t.drop (i%each*width+width)))) st width each (xs.set i x):=fun j y hy=>by
 by_cases hb:j / each=i / each
 ·rw[hb,MZ];show((t.take (i%each*width)++PQ width x++t.drop (i%each*width+width)).drop (j%each*width)).take width=_∧_;have aQ:(t.take (i%each*width)).length=i%each*width:=by rw[List.length_take];omega
  by_cases gH:j=i
  ·subst gH;rw[List.getElem?_set_self hi] at hy;cases hy;refine⟨?_,hx⟩;rw[List.append_assoc,List.drop_left' aQ,List.take_left' (LB _ _)]
  ·rw[List.getElem?_set_ne (fun e=>gH e.symm)] at hy;obtain⟨h1,h2⟩:=h j y hy;refine⟨?_,h2⟩;rw[hb,ht] at h1;rw[←h1];have nR:=Nat.div_add_mod i each;have jQ:=Nat.div_add_mod j each;rw[hb] at jQ;have bE:j%each≠i%each:=fun e=>gH (by omega);rcases Nat.lt_or_gt_of_ne bE with o4|Kd
   ·have hm:(j%each+1)*width≤i%each*width:=Nat.mul_le_mul_right _ (by omega);rw[Nat.add_mul,Nat.one_mul] at hm;rw[W1 _ _ _ (by omega),List.drop_take,List.take_take,Nat.min_eq_left (by omega)]
   ·have hm:(i%each+1)*width≤j%each*width:=Nat.mul_le_mul_right _ (by omega);rw[Nat.add_mul,Nat.one_mul] at hm;rw[List.drop_append,List.drop_of_length_le (by rw[List.length_append,aQ,LB];omega),List.nil_append,List.length_append,aQ,LB,List.drop_drop,show i%each*width+width+(j%each*width-(i%each*width+width))=j%each*width by omega]
 ·have gH:j≠i:=fun e=>hb (by rw[e]);rw[List.getElem?_set_ne (fun e=>gH e.symm)] at hy;rw[Mv _ _ (by omega)];exact h j y hy
theorem Vf {l z:Bytes}{w:Nat}(hl:l.length=w):∀(e k:Nat),k<e→(((List.replicate e l).flatten++z).drop (k*w)).take w=l
 |0,k,h=>by omega
 | e + 1, 0, h => by
   rw[Nat.zero_mul,List.drop_zero,List.replicate_succ,List.flatten_cons,List.append_assoc]
   exact List.take_left' hl
 | e + 1, k + 1, h => by
   rw[List.replicate_succ,List.flatten_cons,List.append_assoc,List.drop_append,List.drop_of_length_le (by rw[hl,Nat.add_mul];omega),List.nil_append,hl,Nat.add_mul,Nat.one_mul,Nat.add_sub_cancel];exact Vf hl e k (by omega)
theorem VcT.fill {n x:Nat}(hx:x<2^(8*width))(he:1≤each)(h:∀i,i<n→∃z,txt ((st+i / each:Nat):Int)=(List.replicate each (PQ width x)).flatten++z):VcT txt st width each (List.replicate n x):=fun i y hy=>by
 rw[List.getElem?_replicate] at hy
 split at hy
 ·rename_i hi
  cases hy;obtain⟨z,e⟩:=h i hi;rw[e];exact⟨Vf (LB _ _) each _ (Nat.mod_lt _ he),hx⟩
 ·cases hy
end
def UQ (n wd k:Nat):List Value:=(List.range wd).map fun i=>if i<k then Od (UInt8.ofNat (n / 2^(8*(wd-1-i)))) else .int .u8 0
@[simp] theorem beTo_length (n wd k:Nat):(UQ n wd k).length=wd:=by simp[UQ]
theorem Wp (n wd:Nat):UQ n wd 0=List.replicate wd (.int .u8 0):=by
 apply List.ext_getElem<;>simp[UQ]
theorem Zo (n wd:Nat):UQ n wd wd=(PQ wd n).map Od:=by
 simp only[UQ,PQ,List.map_map]
 apply List.map_congr_left
 intro i hi
 rw[if_pos (by simpa using hi)];rfl
theorem Zi (n wd k:Nat)(h:k<wd):(UQ n wd k).set (0+k*1) (.int .u8 ((n / 2^(8*(wd-1-k))%256:Nat):Int))=UQ n wd (k+1):=by
 apply List.ext_getElem
 ·simp
 ·intro j h1 h2;have hj:j<wd:=by simpa using h2
  simp only[UQ,List.getElem_set,List.getElem_map,List.getElem_range];by_cases BN:j=k
  ·subst BN;simp[Od]
  ·rw[if_neg (by omega)];by_cases aQ:j<k
   ·rw[if_pos aQ,if_pos (by omega)]
   ·rw[if_neg aQ,if_neg (by omega)]
theorem TT (n wd:Nat)(w:World)(hn:n<18446744073709551616)(nX:wd≤8):Le Tryz.prog 79 [KV n,I (wd:Int)] w fun v w'=>v=S (PQ wd n)∧Ext w w':=by
 have eJ:maxLen=9223372036854775807:=rfl
 refine KA (e:=[(0,_),(1,_)]) Tryz.func79 rfl Tryz.ntmps79 rfl rfl (qN rfl (KE rfl (qM rfl (An rfl (KL rfl rfl (pmk (c:=wd) (n:=wd) LU Sf rfl rfl rfl (by omega) (by omega) (by omega)) ?_)))))
 rintro _ w1 ⟨b1,rfl,⟨bT,ad,ai⟩,-⟩
 refine KE rfl (py (run_seq (qN rfl (An rfl (qV (LG LU rfl) (An rfl (py (KB ?_))))))))
 rw[←Wp n wd] at ai
 refine MQ (α:=Nat) (0) (fun k=>[(0,KV n),(1,I (wd:Int)),(5,.slice (some ⟨b1,0,none⟩) wd wd),(10,I (wd:Int)),(11,I (k:Int))]) (fun k w'=>k≤wd∧KP w' b1 (UQ n wd k) 5∧Ext w w') (fun k=>wd-k) ?hI ?hround
 case hI=>exact⟨by omega,ai,ad⟩
 case hround=>
  rintro k w2 ⟨hk,ak,af⟩ ih
  try dsimp only
  refine qN rfl (qV (LW rfl rfl) (py (run_seq (KQ rfl (fun aQ=>?_) (fun aQ=>?_)))))
  ·have CX:k<wd:=by omega
   refine It (run_seq (KB (qN rfl (An rfl (KE rfl (py (KF rfl (An rfl (An rfl (An rfl (An rfl (qV (M8 rfl rfl (by omega)) (An rfl ?_)))))))))))));refine qV (M8 rfl rfl (by omega)) (qV (SD rfl rfl (by omega)) ?_);rw[show(8:Int)*(((wd:Int)-1)-(k:Int))=((8*(wd-1-k):Nat):Int) from by omega];refine qV (Ps (8*(wd-1-k)) (2^(8*(wd-1-k))) rfl rfl (by simp only[IntKind.bits];omega) rfl) ?_;refine qV (z6r rfl M3 U5) (qV (Lt LU Sf rfl rfl (by omega)) (KR rfl (Mn Sf rfl rfl rfl ak (by simp;omega)) ?_));rintro w3 ⟨ar,ax⟩;rw[Zi n wd k CX] at ar;refine py (KC (KF rfl (Lz rfl rfl (An rfl (py ?_)))));exact(ih (k+1) w3 ⟨by omega,ar,af.Kz ax (fun i hi=>by rw[hi,bT];exact Nat.le_refl _)⟩ (by omega)).qb
  ·have:k=wd:=by omega
   subst this;rw[Zo] at ak;refine KO rfl (qN rfl (An rfl (qV (z2g (l:=PQ k n) LU U5 U9 rfl ak (by rw[List.drop_zero];exact List.take_of_length_le (by rw[List.length_map,LB];omega)) (by simp[PQ])) ?_)));refine KE rfl (py (KG Tryz.func79 rfl ?_));exact⟨_,rfl,rfl,af⟩
theorem Wu (s:Bytes)(hs:s.length≤8)(w:World):Le Tryz.prog 80 [S s] w fun v w'=>v=KV (valB (L0 s))∧Ext w w':=by
 refine KA (e:=[(0,_)]) Tryz.func80 rfl Tryz.ntmps80 rfl rfl (qN rfl (KE rfl (py (run_seq (qN rfl (An rfl (KL rfl rfl (z4H U9 LU U5 rfl) ?_)))))))
 rintro _ w1 ⟨b7,c7,rest,rfl,⟨kr,ad,ai⟩,Bj⟩
 refine qV (LG LU rfl) (An rfl (py (KB (MQ (α:=Nat) (0) (fun i=>[(2,KV (valB (L0 (s.take i)))),(6,.slice (some ⟨b7,0,none⟩) s.length c7),(7,I (s.length:Int)),(8,I (i:Int))]) (fun i w'=>w'=w1∧i≤s.length) (fun i=>s.length-i) ?hI ?hround))))
 case hI=>exact⟨rfl,Nat.zero_le _⟩
 case hround=>
  rintro i w2 ⟨rfl,hi⟩ ih
  try dsimp only
  refine qN rfl (qV (LW rfl rfl) (py (run_seq (KQ rfl (fun h0=>?_) (fun h0=>?_)))))
  ·obtain⟨c,hc⟩:∃c,s[i]? =some c:=⟨_,List.getElem?_eq_getElem (by omega)⟩;have fY:=c.toNat_lt;have ki:=Vr hc
   have aQ:valB (L0 (s.take i))<72057594037927936:=by
    have h1:=Mk (L0 (s.take i));rw[bitsT_length,List.length_take] at h1;have h2:2^(8*min i s.length)≤2^56:=Nat.pow_le_pow_right (by decide) (by omega);omega
   have bh:w2.cell? ⟨b7,0+i*1,none⟩=some (Od c):=by
    rw[ai.cell,Nat.zero_add,Nat.mul_one,List.getElem?_append_left (by rw[List.length_map];omega),List.getElem?_map,hc];rfl
   refine It (run_seq (KB (qN rfl (qV (Lt LU Sf rfl rfl (by omega)) (qV (Lb U5 rfl rfl bh) ?_)))))
   generalize valB (L0 (s.take i))=q at ki aQ
   refine KE rfl (py (KF rfl (An rfl (qV (Mq 8 256 rfl rfl (by decide) rfl) (An rfl (qV ((by first|exact z2t rfl U5 M3 (by decide)|exact Lw rfl U5 M3 (by omega))) ?_))))));refine qV (Vu rfl rfl (by omega) (by omega)) ?_
   have nC:(q*256%18446744073709551616 |||c.toNat)=valB (L0 (s.take (i+1))):=by
    rw[ki,Nat.mod_eq_of_lt (by omega),Nat.mul_comm q];exact(Nat.two_pow_add_eq_or_of_lt (i:=8) fY q).symm
   rw[nC];refine KE rfl (py (KC (KF rfl (Lz rfl rfl (An rfl (py ?_))))));exact(ih (i+1) _ ⟨rfl,by omega⟩ (by omega)).qb
  ·have cL:i=s.length:=by omega
   subst cL;rw[List.take_length];refine KO rfl (qN rfl (An rfl (KE rfl (py (KG Tryz.func80 rfl ?_)))));exact⟨_,rfl,rfl,ad⟩
def vcC (n width each st len s:Nat)(cl:Bool):List Value:=[I (n:Int),I (width:Int),I (each:Int),I (st:Int),I (len:Int),ptr s 0,.bool cl]
def RD (n each:Nat):Nat:=max 1 ((n+each-1) / each)
structure Tm (Q:MP)(txt:Int→Bytes)(vb width st:Nat)(xs:List Nat)(w:World):Prop where
 KD:KP w vb (vcC xs.length width (512 / width) st (RD xs.length (512 / width)) Q.s false) 137
 wd:width=1∨width=2∨width=4∨width=8
 t:VcT txt st width (512 / width) xs
 n:xs.length≤4194304
 fit:st+RD xs.length (512 / width)≤Q.L.length
theorem z0E {n each:Nat}(he:1≤each){i:Nat}(hi:i<n):i / each<RD n each:=by
 unfold RD
 have h1:i / each≤(n-1) / each:=Nat.div_le_div_right (by omega)
 have h2:(n+each-1) / each=(n-1) / each+1:=by
  rw[show n+each-1=(n-1)+each by omega,Nat.add_div_right _ (by omega)]
 omega
section
variable {w w':World}{Q Q':MP}{txt txt':Int→Bytes}{vb width st:Nat}{xs ys:List Nat}{S':Nat→Prop}
theorem Tm.e (h:Tm Q txt vb width st xs w):64≤512 / width∧512 / width≤512∧512 / width*width=512∧1≤width∧width≤8:=by
 rcases h.wd with e|e|e|e<;>subst e<;>decide
theorem Tm.kp (h:Tm Q txt vb width st xs w)(hk:Kp S' w w')(hn:¬S' vb):Tm Q txt vb width st xs w':=⟨hk.KD h.KD hn,h.wd,h.t,h.n,h.fit⟩
theorem Tm.ext (h:Tm Q txt vb width st xs w)(hx:Ext w w'):Tm Q txt vb width st xs w':=h.kp (S':=fun _=>False) hx id
theorem Tm.lt (h:Tm Q txt vb width st xs w):vb<w.heap.size:=h.KD.lt
theorem Tm.at_ (h:Tm Q txt vb width st xs w){i:Nat}(hi:i<xs.length):st+i / (512 / width)<Q.L.length∧i%(512 / width)*width+width≤512∧i / (512 / width)<RD xs.length (512 / width):=by
 obtain⟨h1,h2,h3,h4,h5⟩:=h.e
 have h6:=z0E (each:=512 / width) (by omega) hi
 have h7:=h.fit
 have h8:(i%(512 / width)+1)*width≤512 / width*width:=Nat.mul_le_mul_right _ (Nat.mod_lt _ (by omega))
 rw[Nat.add_mul,Nat.one_mul] at h8
 refine⟨by omega,by omega,h6⟩
theorem Tm.cells (h:Tm Q txt vb width st xs w):KP w vb [I (xs.length:Int),I (width:Int),I ((512 / width:Nat):Int),I (st:Int),I (RD xs.length (512 / width):Int),ptr Q.s 0,.bool false] 137:=h.KD
def VcW (Q:MP)(txt:Int→Bytes)(K:Nat)(X:Nat→Prop)(vb width st:Nat)(ys:List Nat)(w w':World):Prop:=
 ∃txt',Sp Q txt' K X w'∧Tm Q txt' vb width st ys w'∧(∀y:Int,y<(st:Int)∨(st:Int)+(RD ys.length (512 / width):Int)≤y→txt' y=txt y)∧Kp (fun b=>¬X b) w w'
end
end Go.Proofs.YtpldpcjdjcgicaaGreatDoor
namespace Go.Proofs.YtpldpcjdjcgicaaGreatDoor.Sums

def bit (c:Nat):Nat:=if c%2=1 then(c / 2)^^^2197175160 else c / 2
def z7O (c:Nat):Nat:=bit (bit (bit (bit (bit (bit (bit (bit c)))))))
def byte (c:Nat)(b:UInt8):Nat:=z7O (c^^^b.toNat)
def raw (c:Nat)(l:List UInt8):Nat:=l.foldl byte c
def neg (c:Nat):Nat:=4294967295^^^c
def on (c:Nat)(l:List UInt8):Nat:=neg (raw (neg c) l)
def crc (l:List UInt8):Nat:=on 0 l
def be4 (n:Nat):List UInt8:=[UInt8.ofNat (n / 16777216),UInt8.ofNat (n / 65536),UInt8.ofNat (n / 256),UInt8.ofNat n]
@[simp] theorem be4_length (n:Nat):(be4 n).length=4:=rfl
def head (k:UInt8)(p:List UInt8):List UInt8:=k::be4 p.length
def frame (k:UInt8)(p:List UInt8):List UInt8:=head k p++be4 (crc (head k p++p))++p

@[simp] theorem head_length (k:UInt8) (p:List UInt8):(head k p).length=5:=rfl
theorem z5B (c:Nat):(c / 2)^^^(2197175160&&&((4294967296-(c&&&1))%4294967296))=bit c:=by
 have h1:c&&&1=c%2:=Nat.and_two_pow_sub_one_eq_mod c 1
 rw[h1]
 unfold bit
 by_cases h:c%2=1
 ·rw[if_pos h,h]
  congr 1
 ·have h0:c%2=0:=by omega
  rw[if_neg h,h0];simp

theorem T8 {a b:Nat}(ha:a<4294967296)(hb:b<4294967296):a^^^b<4294967296:=Nat.xor_lt_two_pow (n:=32) ha hb
theorem Qj {c:Nat}(h:c<4294967296):bit c<4294967296:=by
 unfold bit
 split
 ·exact T8 (by omega) (by omega)
 ·omega
theorem z5t {c:Nat}(h:c<4294967296):z7O c<4294967296:=Qj (Qj (Qj (Qj (Qj (Qj (Qj (Qj h)))))))
theorem z1W {c:Nat}(h:c<4294967296)(b:UInt8):byte c b<4294967296:=z5t (T8 h (by have:=b.toNat_lt;omega))
theorem z3O:∀(l:List UInt8) {c:Nat},c<4294967296→raw c l<4294967296
 |[],_,h=>h
 |b::l,_,h=>z3O l (z1W h b)
theorem ZQ {c:Nat}(h:c<4294967296):neg c<4294967296:=T8 (by omega) h
theorem z7f {c:Nat}(l:List UInt8)(h:c<4294967296):on c l<4294967296:=ZQ (z3O l (ZQ h))
theorem z8m (l:List UInt8):crc l<4294967296:=z7f l (by omega)
theorem z0V (c:Nat)(a b:List UInt8):raw c (a++b)=raw (raw c a) b:=List.foldl_append ..
/-! ### The step is linear -/
/-! ### Linear maps, by their table -/
def iter (L:Nat→Nat):Nat→Nat→Nat
 |0,x=>x
 |n+1,x=>iter L n (L x)
/-! ### Frames -/
@[simp] theorem frame_length (k:UInt8) (p:List UInt8):(frame k p).length=9+p.length:=by simp[frame];omega
/-! ### A byte that is turned is told -/
theorem getD_take (s:List UInt8)(n i:Nat)(h:i<n):(s.take n).getD i 0=s.getD i 0:=by simp[List.getD,h]
def z4h (s:List UInt8)(i:Nat)(d:UInt8):List UInt8:=s.set i (s.getD i 0^^^d)
@[simp] theorem turned_length (s:List UInt8) (i:Nat) (d:UInt8):(z4h s i d).length=s.length:=by simp[z4h]

end Go.Proofs.YtpldpcjdjcgicaaGreatDoor.Sums
namespace Go.Proofs.YtpldpcjdjcgicaaGreatDoor
open Go Go.RowKit
set_option linter.unusedVariables false

abbrev U (n:Nat):Value:= .int .u32 (n:Int)

theorem z4Q (c:Nat)(b:UInt8)(p:Nat)(T:TypeId)(w:World)(hB:KP w p [U c] T)(hc:c<4294967296):
  Le Tryz.prog 111 [Od b,ptr p 0] w fun v w'=>v= .tuple #[]∧KP w' p [U (Sums.byte c b)] T∧Kp (fun k=>k=p) w w':=by
 have hb:=b.toNat_lt
 have hx:=Sums.T8 hc (show b.toNat<4294967296 by omega)
 refine KA (e:=[(0,_),(1,_)]) Tryz.func111 rfl Tryz.ntmps111 rfl rfl (qN rfl (qV (KJ Mg rfl rfl hB rfl) (An rfl (qV ((by first|exact z2t rfl U5 Mg (by decide)|exact z6U rfl U5 Mg (by omega))) ?_))))
 refine qV (z7i rfl rfl (by omega) (by omega)) (KR rfl (Mn KY rfl rfl rfl hB (by simp)) ?_)
 rintro w1 ⟨ai,aN⟩
 refine qM rfl (An rfl (py (KB (MQ (α:=Nat×Nat) ((0,c^^^b.toNat)) (fun x=>[(0,Od b),(1,ptr p 0),(7,I (x.1:Int))]) (fun x w'=>x.1≤8∧x.2<4294967296∧Sums.iter Sums.bit (8-x.1) x.2=Sums.byte c b∧KP w' p [U x.2] T∧Kp (fun k=>k=p) w w') (fun x=>8-x.1) ?hI ?hround))))
 case hI=>exact⟨by omega,hx,rfl,ai,aN⟩
 case hround=>
  rintro⟨k,d⟩ w2 ⟨bj,hd,hs,ak,am⟩ ih
  try dsimp only
  refine qN rfl (qV (LW rfl rfl) (py (run_seq (KQ rfl (fun aQ=>?_) (fun aQ=>?_)))))
  ·have jc:d&&&1<4294967296:=Nat.lt_of_le_of_lt Nat.and_le_right (by omega);have sB:(4294967296-(d&&&1))%4294967296<4294967296:=Nat.mod_lt _ (by omega);have ik:2197175160&&&((4294967296-(d&&&1))%4294967296)<4294967296:=Nat.lt_of_le_of_lt Nat.and_le_left (by omega);refine It (run_seq (KB (KF rfl (qV (KJ Mg rfl rfl ak rfl) (qV (Ps 1 2 rfl rfl (by decide) rfl) (qV (KJ Mg rfl rfl ak rfl) (qV (z7n rfl rfl (by omega) (by omega)) (qV (z9X rfl (by omega)) (qV (z7n rfl rfl (by omega) (by omega)) (qV (z7i rfl rfl (by omega) (by omega)) (KR rfl (Mn KY rfl rfl rfl ak (by simp)) ?_)))))))))));rintro w3 ⟨ar,ax⟩;refine py (KC (KF rfl (Lz rfl rfl (An rfl (py ?_)))));simp only[List.set_cons_zero] at ar;rw[Sums.z5B] at ar;refine(ih (k+1,Sums.bit d) w3 ⟨by dsimp only at*;omega,Sums.Qj hd,?_,ar,am.trans ax⟩ (by dsimp only at*;omega)).qb;have h8:8-k=(8-(k+1))+1:=by dsimp only at*;omega
   dsimp only at hs⊢;rw[h8] at hs;exact hs
  ·refine KO rfl (LZ Tryz.func111 rfl ?_);have hk:k=8:=by dsimp only at*;omega
   subst hk;refine⟨_,rfl,rfl,?_,am⟩;have:d=Sums.byte c b:=hs;rw[←this];exact ak

theorem z8j {l:List UInt8}{rest:List Value}{k:Nat}(h:k<l.length):(l.map Od++rest)[0+k*1]? =some (Od (l.getD k 0)):=by
 rw[Nat.zero_add,Nat.mul_one,List.getElem?_append_left (by simpa using h)]
 simp[h,List.getD]

theorem W9 (c:Nat)(l:List UInt8)(k:Nat)(h:k<l.length):Sums.raw c (l.take (k+1))=Sums.byte (Sums.raw c (l.take k)) (l.getD k 0):=by
 rw[List.take_succ_eq_append_getElem h,Sums.z0V]
 simp[Sums.raw,List.getD,h]

theorem z4t (c:Nat)(l:List UInt8)(w:World)(hc:c<4294967296)(hl:l.length≤9223372036854775807):
  Le Tryz.prog 78 [U c,S l] w fun v w'=>v=U (Sums.on c l)∧Ext w w':=by
 refine KA (e:=[(0,_),(1,_)]) Tryz.func78 rfl Tryz.ntmps78 rfl rfl (qN rfl (KL rfl rfl (Mz rfl rfl) ?_))
 rintro _ w1 ⟨b1,rfl,bT,ad,ai⟩
 refine KE rfl (qM rfl (qV (KJ Mg rfl rfl ai rfl) (qV (z7Q rfl (by omega)) (KR rfl (Mn KY rfl rfl rfl ai (by simp)) ?_))))
 rintro w2 ⟨ak,am⟩
 simp only[List.set_cons_zero] at ak
 have af:Ext w w2:=ad.Kz am (fun i hi=>by rw[hi,bT];exact Nat.le_refl _)
 refine qM rfl (qV (Zw (first:=[]) (caps:=[.tmp 2]) rfl rfl) (KE rfl (py (run_seq (qN rfl (An rfl (KL rfl rfl (z4H U9 LU U5 rfl) ?_)))))))
 rintro _ w3 ⟨b3,cap,rest,rfl,⟨eL,ah,ar⟩,jd⟩
 refine qV (LG LU rfl) (An rfl (py (KB ?_)))
 have bE:b3≠b1:=by have:=ak.lt;omega
 refine MQ (α:=Nat×Nat) ((0,Sums.neg c)) (fun x=>[(2,ptr b1 0),(5,.func (.func 111) #[] #[ptr b1 0]),(12,.slice (some ⟨b3,0,none⟩) l.length cap),(13,I (l.length:Int)),(14,I (x.1:Int))]) (fun x w'=>x.1≤l.length∧x.2<4294967296∧x.2=Sums.raw (Sums.neg c) (l.take x.1)∧KP w' b1 [U x.2] 46∧KP w' b3 (l.map Od++rest) 5∧Ext w w') (fun x=>l.length-x.1) ?hI ?hround
 case hI=>exact⟨by simp,Sums.ZQ hc,rfl,ah.KD ak,ar,af.trans ah⟩
 case hround=>
  rintro⟨k,d⟩ w4 ⟨hk,hd,hs,aI,aG,aB⟩ ih;dsimp only at hk hd hs aI
  try dsimp only
  refine qN rfl (qV (LW rfl rfl) (py (run_seq (KQ rfl (fun aQ=>?_) (fun aQ=>?_)))))
  ·have lM:k<l.length:=by omega
   refine It (run_seq (KB (qN rfl (qV (Lt LU Sf rfl rfl (by omega)) (qV (KJ U5 rfl rfl aG (z8j lM)) (KE rfl (py (KF rfl (An rfl (An rfl (Mb rfl rfl (N6 (args:=[.tmp 19]) z9G rfl rfl) (z4Q d (l.getD k 0) b1 _ w4 aI hd) ?_)))))))))));rintro _ w5 ⟨rfl,aW,aS⟩;refine py (KC (KF rfl (Lz rfl rfl (An rfl (py ((ih (k+1,Sums.byte d (l.getD k 0)) w5 ⟨lM,Sums.z1W hd _,?_,aW,aS.KD aG bE,aB.Kz aS (fun i hi=>by rw[hi,bT];exact Nat.le_refl _)⟩ (by dsimp only;omega)).qb))))));rw[W9 _ _ _ lM,←hs]
  ·refine KO rfl (qN rfl (qV (KJ Mg rfl rfl aI rfl) (qV (z7Q rfl (by omega)) (KE rfl (py (KG Tryz.func78 rfl (⟨_,rfl,?_,aB⟩)))))));have lK:k=l.length:=by omega
   subst lK;rw[List.take_length] at hs;show U (Sums.neg d)=_;rw[hs]
   rfl

theorem z1d (l:List UInt8)(w:World)(hl:l.length≤9223372036854775807):
  Le Tryz.prog 73 [S l] w fun v w'=>v=U (Sums.crc l)∧Ext w w':=by
 refine KA (e:=[(0,_)]) Tryz.func73 rfl Tryz.ntmps73 rfl rfl (qN rfl (KE rfl (qM rfl (An rfl (L2 [.const (Value.int .u32 0),.tmp 3] zbr rfl (z4t 0 l _ (by omega) hl) ?_)))))
 rintro _ w1 ⟨rfl,ad⟩
 refine KE rfl (py (KG Tryz.func73 rfl ?_))
 exact⟨_,rfl,rfl,ad⟩

set_option linter.all false
set_option maxRecDepth 100000
theorem VO (s:Bytes):Lib.strCells ⟨s.toArray⟩=s.map Od:=by simp[Lib.strCells,Od]
section
variable {P:Program}{e:Env}{d:Option Nat}{ty t tu tn el:TypeId}{pos:String}{aft:Array Edge}{g:Option (Nat×Bool)}{x y:Operand}{w w':World}{n k:Nat}{v:Value}{cs:List Value}{s:Bytes}{kn:IntKind}{za:Int}
theorem Zf (ht:P.underlying t=some (.slice el))(hu:P.underlying tu=some .string)(hs:TI P el (.int .u8 0) 1 1)(hv:Sl w v el 1 n cs)(hb:n+s.length≤140737488355328):
  ∃v' w',(Builtin.append_ #[t,tu] ty #[v,S s]).run P w= .ok v' w'∧Sl w' v' el 1 (n+s.length) (cs++s.map Od)∧Kp (fun k=>v.ownBlock=some k) w w'∧(∀g,v'.ownBlock=some g→v.ownBlock=some g∨w.heap.size≤g):=by
 have eJ:maxLen=9223372036854775807:=rfl
 obtain⟨i,hi,o3,ja,pC⟩:=hs
 have e1:=NF s
 have e2:=VO s
 rcases id hv.2 with⟨rfl,rfl⟩|⟨g,cap,cur,rfl,Ix,hg,iR,lT,fT,Fl⟩
 ·have hx:cs=[]:=List.eq_nil_of_length_eq_zero (by simpa using hv.1);subst hx;obtain⟨v',w',hr,ho,hg,-⟩:=Lib.run_append_own_string (P:=P) w w.heap.size t tu ty el i ht hu hi o3 ja pC (.slice none 0 0) 0 [] (World.ownsRow_nil w w.heap.size el 1) ⟨s.toArray⟩ (by rw[e1];omega) (by rw[e1];exact hb) (Nat.le_refl _);rw[e1,e2] at ho;refine⟨v',w',hr,⟨ho.1,?_⟩,Kp.Pm hg,fun g hg=> .inr (World.ownsRow.lt ho g hg).1⟩;rcases ho.2 with Iy|⟨g,cap2,cur2,jS,bM,et⟩
  ·exact .inl Iy
  ·exact .inr ⟨g,cap2,cur2,jS,Nat.zero_le _,et⟩
 ·by_cases gG:n+s.length≤cap
  ·by_cases hc:0<cap
   ·obtain⟨w',hr,ho,cA⟩:=Lib.run_append_fits_string (P:=P) w 0 t tu ty el i ht hu hi ja (some ⟨g,0,none⟩) n cap cs hv ⟨s.toArray⟩ hc (by rw[e1];exact gG);rw[e1,e2] at ho;rw[e1] at hr;exact⟨_,w',hr,ho,Kp.Pm cA,fun g' cA=> .inl (by simpa[Value.ownBlock] using cA)⟩
   ·obtain⟨v',w',hr,ho,cA,-⟩:=Lib.run_append_own_string (P:=P) w 0 t tu ty el i ht hu hi o3 ja pC (.slice (some ⟨g,0,none⟩) n cap) n cs hv ⟨s.toArray⟩ (by rw[e1];omega) (by rw[e1];exact hb) (Nat.zero_le _);have Iz:s=[]:=List.eq_nil_of_length_eq_zero (by omega);subst Iz;have et:=Lib.run_append_room_string (P:=P) w t tu ty el i ht hu hi ja g n cap cur hg ⟨[].toArray⟩ (by rw[e1];exact gG) (by rw[e1];simp only[Nat.mul_one] at fT;simp only[List.length_nil];omega);rw[et] at hr;cases hr;rw[e1,e2] at ho;exact⟨_,_,et,ho,Kp.Pm cA,fun g' cA=> .inl (by simpa[Value.ownBlock] using cA)⟩
  ·obtain⟨v',w',hr,ho,cA,-⟩:=Lib.run_append_own_string (P:=P) w 0 t tu ty el i ht hu hi o3 ja pC (.slice (some ⟨g,0,none⟩) n cap) n cs hv ⟨s.toArray⟩ (by rw[e1];omega) (by rw[e1];exact hb) (Nat.zero_le _);have et:=Lib.run_append_grow_string (P:=P) w t tu ty el i (.int .u8 0) ht hu hi o3 ⟨g,0,none⟩ n cap cs (by rw[ja];exact hv.1) (World.ownsRow.cells hv (g:=g) rfl) ⟨s.toArray⟩ (by rw[e1];omega) (by rw[e1];omega) (by rw[e1];exact growslice_fits (by omega) (by rw[pC];omega));rw[et] at hr;cases hr;rw[e1,e2] at ho;refine⟨_,_,et,by rw[←e1] at ho⊢;exact ho,Kp.Pm cA,fun g' cA=> .inr ?_⟩;simp[Value.ownBlock] at cA;omega
theorem zbY (ht:P.underlying t=some (.slice el))(hu:P.underlying tu=some .string)(hs:TI P el (.int .u8 0) 1 1)(hx:look e x=some v)(hy:look e y=some (S s))(hv:Sl w v el 1 n cs)(hb:n+s.length≤140737488355328):
  Yp P e ⟨d,.call ⟨.builtin .append,#[x,y],#[t,tu]⟩,ty,pos,aft,g⟩ w fun v' w'=>Sl w' v' el 1 (n+s.length) (cs++s.map Od)∧Kp (fun k=>v.ownBlock=some k) w w'∧(∀g,v'.ownBlock=some g→v.ownBlock=some g∨w.heap.size≤g):=by
 obtain⟨v',w',hr,mN⟩:=Zf (P:=P) (ty:=ty) ht hu hs hv hb
 refine⟨v',w',fun ρ hρ=>?_,mN⟩
 simp[execOp,resolve,invoke,builtin,hρ _ _ hx,hρ _ _ hy,hr]
theorem YA (k:Nat):Builtin.zeroCells (Value.int .u8 0).cells k=(Lib.strCells ⟨(zeros k).toArray⟩).toArray:=by
 rw[VO]
 apply Array.ext'
 rw[RN (.int .u8 0) k rfl]
 simp[zeros,Od]
theorem zaV [qq:O3 za k](ht:P.underlying t=some (.slice el))(hn:P.underlying tn=some (.int kn))(hu:P.underlying tu=some .string)(hs:TI P el (.int .u8 0) 1 1)(hx:look e x=some v)(hy:look e y=some (I za))(hv:Sl w v el 1 n cs)(hb:n+k≤140737488355328):
  Yp P e ⟨d,.call ⟨.builtin .append,#[x,y],#[t,tn]⟩,ty,pos,aft,g⟩ w fun v' w'=>Sl w' v' el 1 (n+k) (cs++(zeros k).map Od)∧Kp (fun k=>v.ownBlock=some k) w w'∧(∀g,v'.ownBlock=some g→v.ownBlock=some g∨w.heap.size≤g):=by
 obtain⟨rfl⟩:=qq
 have hl:(zeros k).length=k:=by simp[zeros]
 obtain⟨v',w',hr,h1,h2⟩:=Zf (P:=P) (ty:=ty) (s:=zeros k) ht hu hs hv (by rw[hl];exact hb)
 rw[hl] at h1
 have he:(Builtin.append_ #[t,tn] ty #[v,I (k:Int)]).run P w= .ok v' w':=by
  rw[←hr];obtain⟨i,hi,o3,ja,pC⟩:=hs;have hw:IntKind.i64.wrap (k:Int)=k:=by rw[IntKind.wrap_i64];omega
  have sB:¬((k:Int)<0):=by omega
  have Fn:¬(281474976710656<(k:Int)*(i.bytes:Int)):=by rw[pC];omega
  have hf:=fun w=>Lib.run_firstCells_string (P:=P) w i.size ⟨(zeros k).toArray⟩;have cn:(ByteArray.mk (zeros k).toArray).size=k:=by rw[NF,hl]
  rw[cn] at hf
  obtain⟨a,c,IA⟩:∃a c,v= .slice a n c:=by
   rcases hv.2 with⟨rfl,rfl⟩|⟨g,cap,cur,rfl,_⟩
   ·exact⟨_,_,rfl⟩
   ·exact⟨_,_,rfl⟩
  subst IA;have IB:k=0→(Lib.strCells ⟨(zeros k).toArray⟩).toArray=#[]:=fun e=>by subst e;rfl
  have IC:c≤maxLen∧n≤c:=by
   rcases hv.2 with⟨h,h'⟩|⟨g,cap,cur,h,_,_,h1,h2,_⟩
   ·cases h;exact⟨by simp[maxLen],by omega⟩
   ·cases h;exact⟨h2,h1⟩
  have cK:n+k≤c∨¬(281474976710656<Builtin.nextslicecap (n+k) c*i.bytes):=by
   by_cases hr:n+k≤c
   ·exact .inl hr
   ·have:=growslice_fits (need:=n+k) (old:=c) (bytes:=i.bytes) (by omega) (by rw[pC];omega);exact .inr (by omega)
  have CY:¬(9223372036854775807<((n:Int)+(k:Int))):=by omega
  by_cases hk:k=0
  ·subst hk;have e0:=IB rfl;have jh:n≤c:=IC.2;have mb:IntKind.i64.wrap 0=0:=by rw[IntKind.wrap_i64];omega
   have ie:=hf w;rw[ja,e0] at ie;simp[Builtin.append_,run_underlying ht,run_underlying hn,run_underlying hu,sizeOf,typeInfo,zeroValue,hi,o3,ja,asInt,asIntOf,mb,Builtin.lenOf,cn,jh,ie]
  ·have bK:=YA k;have qu:∀w,(Builtin.firstCells 1 k (.string ⟨(zeros k).toArray⟩)).run P w= .ok (Builtin.zeroCells (Value.int .u8 0).cells k) w:=fun w=>by rw[bK];have:=hf w;rw[ja] at this;exact this
   have fV:¬(k*i.size=0):=by rw[ja];omega
   by_cases hr:n+k≤c
   ·simp[Builtin.append_,run_underlying ht,run_underlying hn,run_underlying hu,sizeOf,typeInfo,zeroValue,hi,o3,ja,asInt,asIntOf,hw,sB,Fn,Builtin.lenOf,cn,hr,qu,hk]
   ·have CZ:=cK.resolve_left hr;simp[Builtin.append_,run_underlying ht,run_underlying hn,run_underlying hu,sizeOf,typeInfo,zeroValue,hi,o3,ja,asInt,asIntOf,hw,sB,Fn,Builtin.lenOf,cn,hr,qu,hk,CY,CZ]
 refine⟨v',w',fun ρ hρ=>?_,h1,h2⟩
 simp[execOp,resolve,invoke,builtin,hρ _ _ hx,hρ _ _ hy,he]
end
/-! ### Writers -/
def swC (s st len:Nat)(rest:Value)(at' n:Nat)(sum:Nat)(put:Value)(dn:Bool):List Value:=[ptr s 0,I (st:Int),I (len:Int),rest,I (at':Int),I (n:Int),U sum,put,.bool dn]
section
variable {w w':World}{Q:MP}{txt:Int→Bytes}{K:Nat}{X:Nat→Prop}
theorem XF (n:Nat)(hn:n≤2000000)(w:World):Le Tryz.prog 43 [I 512,I (n:Int)] w fun v w'=>v= .tuple #[I (((n+523) / 512:Nat):Int),I 0]∧w'=w:=by
 refine KA (e:=[(0,_),(1,_)]) Tryz.func43 rfl Tryz.ntmps43 rfl rfl (qN rfl (KE rfl (KE rfl (py (run_seq (qN rfl (An rfl (qV (LW rfl rfl) (Lq (An rfl (An rfl (qV (LH rfl rfl) (Lq ?_)))))))))))))
 refine qV (Lk rfl rfl) (An rfl (An rfl (qV (yre rfl rfl (by omega)) (qV (LQ rfl rfl) (Lq (qV (Lk rfl rfl) (An rfl (An rfl (qV (LW rfl rfl) (Lq (qV (Lk rfl rfl) (An rfl (An rfl ?_)))))))))))))
 refine An rfl (qV (SD rfl rfl (by omega)) (qV (M8 rfl rfl (by omega)) (qV (LH rfl rfl) (Lq (qV (Lk rfl rfl) (py (Lc.qb (e:=[(0,_),(1,_),(4,_),(5,_),(27,_)]) ?_)))))))
 refine Kx rfl (It (qN rfl (An rfl (Lz rfl rfl (An rfl (Lz rfl rfl (qV (M8 rfl rfl (by omega)) (An rfl (qV (Ra rfl rfl (by omega)) (KE rfl (KE rfl (py ?_))))))))))))
 rw[show((n:Int)+12+512-1) / 512=(((n+523) / 512:Nat):Int) by omega]
 refine KG Tryz.func43 rfl ?_
 exact⟨_,rfl,rfl,rfl⟩
theorem TP (h:Sp Q txt K X w){st len:Nat}(h1:1≤len)(h2:st+len≤Q.L.length):Le Tryz.prog 74 [.agg #[ptr Q.s 0,I (st:Int),I (len:Int)]] w fun v w'=>v=I 0∧Ext w w':=by
 have dR:=h.n
 refine KA (e:=[(0,_)]) Tryz.func74 rfl Tryz.ntmps74 rfl rfl (qN rfl (KL rfl rfl (Mz rfl (cs:=[ptr Q.s 0,I (st:Int),I (len:Int)]) rfl) ?_))
 rintro _ w1 ⟨b1,rfl,bT,ad,ai⟩
 have hP:=h.ext' ad
 have hg:=Ext.L4 w1
 have Fo:=(hP.ext' hg).dev
 have Fp:=(hP.ext' hg).blocks
 refine KE rfl (py (run_seq (KB (qN rfl (qV (KK PI rfl) (qV (KJ RR rfl rfl ai rfl) (qV (LO RR rfl rfl) (KE rfl (py (Kx rfl (run_seq (KN (fun w'=>Ext w1 w') (by kernel_rfl) rfl (KH 0 rfl (KK OQ rfl) hg ?_)))))))))))))
 refine KH 1 rfl (KK O0 rfl) hg (qT 2 rfl (fun _ h=>KJ U3 rfl rfl (h.KD ai) rfl) hg (KH 3 rfl (LW rfl rfl) hg (Pw (KH 4 rfl (KM rfl) hg (KH 5 rfl (KK OQ rfl) hg (KH 6 rfl (KK Pk rfl) hg (qT 7 rfl (fun _ h=>KJ U3 rfl rfl (h.KD ai) rfl) hg (KH 8 rfl (LW rfl rfl) hg (Pw (KH 9 rfl (Lk rfl rfl) hg (KH 10 rfl (KM rfl) hg (KH 11 rfl (KK OQ rfl) hg (KH 12 rfl (KK Pk rfl) hg ?_)))))))))))))
 refine qT 13 rfl (fun _ h=>KJ U3 rfl rfl (h.KD ai) rfl) hg (KH 14 rfl (KK PI rfl) hg (qT 15 rfl (fun _ h=>KJ RR rfl rfl (h.KD ai) rfl) hg (OJ 16 [.tmp 23] rfl z7z rfl (Fo) ?_)))
 rintro _ w2 ⟨rfl,rfl⟩
 refine⟨hg,?_⟩
 refine OJ 17 [.tmp 24] rfl z3T rfl (Fp) ?_
 rintro _ w2 ⟨rfl,rfl⟩
 refine⟨hg,?_⟩
 refine KH 18 rfl (OL rfl rfl) hg (Pw (KH 19 rfl (Lk rfl rfl) hg (KH 20 rfl (KM rfl) hg (KH 21 rfl (KK OQ rfl) hg (KH 22 rfl (KK O0 rfl) hg (qT 23 rfl (fun _ h=>KJ U3 rfl rfl (h.KD ai) rfl) hg (KH 24 rfl (KK PI rfl) hg (qT 25 rfl (fun _ h=>KJ RR rfl rfl (h.KD ai) rfl) hg (KH 28 rfl (KK OQ rfl) hg (KH 29 rfl (KK Pk rfl) hg (qT 30 rfl (fun _ h=>KJ U3 rfl rfl (h.KD ai) rfl) hg (OJ 26 [.tmp 33] rfl z7z rfl (Fo) ?_))))))))))))
 rintro _ w2 ⟨rfl,rfl⟩
 refine⟨hg,?_⟩
 refine OJ 27 [.tmp 34] rfl z3T rfl (Fp) ?_
 rintro _ w2 ⟨rfl,rfl⟩
 refine⟨hg,?_⟩
 refine KH 31 rfl (M8 rfl rfl (by omega)) hg (KH 32 rfl (LH rfl rfl) hg (Pw (KH 33 rfl (Lk rfl rfl) hg (KH 34 rfl (ML rfl) hg (qE (Lc.qb (e:=[(2,_),(7,_)]) ?_))))))
 refine Kx rfl (It (KC (qN rfl (KE rfl (py (KG Tryz.func74 rfl ?_))))))
 exact⟨_,rfl,rfl,ad.trans hg⟩
theorem VS (h:Sp Q txt K X w){st len:Nat}(h2:len≤100000):Le Tryz.prog 81 [.agg #[ptr Q.s 0,I (st:Int),I (len:Int)]] w fun v w'=>v=I ((len:Int)*512-12)∧Ext w w':=by
 refine KA (e:=[(0,_)]) Tryz.func81 rfl Tryz.ntmps81 rfl rfl (qN rfl (KL rfl rfl (Mz rfl (cs:=[ptr Q.s 0,I (st:Int),I (len:Int)]) rfl) ?_))
 rintro _ w1 ⟨b1,rfl,bT,ad,ai⟩
 have hP:=h.ext' ad
 have hg:=Ext.L4 w1
 have ID:=(hP.ext' hg).size
 refine KE rfl (py (run_seq (KN (fun w'=>Ext w1 w') (by kernel_rfl) rfl (KH 0 rfl (KK OQ rfl) hg (KH 1 rfl (KK O0 rfl) hg (qT 2 rfl (fun _ h=>KJ U3 rfl rfl (h.KD ai) rfl) hg (KH 3 rfl (KK PI rfl) hg (qT 4 rfl (fun _ h=>KJ RR rfl rfl (h.KD ai) rfl) hg (OJ 5 [.tmp 7] rfl YG rfl (ID) ?_)))))))))
 rintro _ w2 ⟨rfl,rfl⟩
 refine⟨hg,?_⟩
 refine KH 6 rfl (SD rfl rfl (by omega)) hg (KH 7 rfl (M8 rfl rfl (by omega)) hg (KH 8 rfl (ML rfl) hg (qE (KG Tryz.func81 rfl ?_))))
 exact⟨_,rfl,rfl,ad.trans hg⟩
theorem SR {wb s st len at' n sum:Nat}{rest put:Value}(hB:KP w wb (swC s st len rest at' n sum put false) 175):Le Tryz.prog 76 [ptr wb 0] w fun v w'=>v=I 0∧w'=w:=by
 replace hB:KP w wb [ptr s 0,I (st:Int),I (len:Int),rest,I (at':Int),I (n:Int),U sum,put,.bool false] 175:=hB
 refine KA (e:=[(0,_)]) Tryz.func76 rfl Tryz.ntmps76 rfl rfl (qN rfl (KE rfl (py (run_seq (KB (qN rfl (An rfl (qV (LO QP rfl rfl) (KE rfl (py (Kx rfl (qN rfl (An rfl ?_)))))))))))))
 refine qV (KZ rfl) (qV (KK SO rfl) (qV (KJ U4 rfl rfl hB rfl) (KE rfl (py (Kx rfl (It (KC (qN rfl (KE rfl (py (KG Tryz.func76 rfl ?_)))))))))))
 exact⟨_,rfl,rfl,rfl⟩
theorem Yu (h:Sp Q txt K X w){wb st len at' n sum:Nat}{rest put:Value}(h2:len≤100000)(hn:n≤100000000)(hB:KP w wb (swC Q.s st len rest at' n sum put false) 175):Le Tryz.prog 77 [ptr wb 0] w fun v w'=>v=I ((len:Int)*512-12-(n:Int))∧Ext w w':=by
 replace hB:KP w wb [ptr Q.s 0,I (st:Int),I (len:Int),rest,I (at':Int),I (n:Int),U sum,put,.bool false] 175:=hB
 have hg:=Ext.L4 w
 have IE:=VS (h.ext' hg) (st:=st) h2
 refine KA (e:=[(0,_)]) Tryz.func77 rfl Tryz.ntmps77 rfl rfl (qN rfl (KE rfl (py (run_seq (qN rfl (An rfl (qV (LO QP rfl rfl) (An rfl (An rfl (qV (KZ rfl) (qV (KK SO rfl) (qV (KJ U4 rfl rfl hB rfl) (qV (Lk rfl rfl) ?_)))))))))))))
 refine py (Kx rfl (It (run_seq (KN (fun w'=>Ext w w') (by kernel_rfl) rfl (KH 0 rfl (KM rfl) hg (KH 1 rfl (KZ rfl) hg (KH 2 rfl (KK Rf rfl) hg (qT 3 rfl (fun _ h=>La z4u rfl QW rfl (KP.cells (n:=3) (h.KD hB) (news:=[_,_,_]) rfl) rfl) hg (KH 5 rfl (KM rfl) hg (KH 6 rfl (KZ rfl) hg (KH 7 rfl (KK Ur rfl) hg (qT 8 rfl (fun _ h=>KJ U3 rfl rfl (h.KD hB) rfl) hg (OJ 4 [.tmp 14] rfl zaF rfl (IE) ?_)))))))))))))
 rintro _ w2 ⟨rfl,af⟩
 refine⟨(hg.trans af),?_⟩
 refine KH 9 rfl (M8 rfl rfl (by omega)) ((hg.trans af)) (KH 10 rfl (ML rfl) ((hg.trans af)) (qE (KG Tryz.func77 rfl ?_)))
 exact⟨_,rfl,rfl,hg.trans af⟩
end
def VB (bs bx bw:Nat):Value:= .func (.func 75) #[] #[ptr bs 0,ptr bx 0,ptr bw 0]
structure XR (s st len wb bs bx bw:Nat)(rest:Value)(at' n sum:Nat)(w:World):Prop where
 wr:KP w wb (swC s st len rest at' n sum (VB bs bx bw) false) 175
 sb:KP w bs [ptr s 0] 27
 xb:KP w bx [I (st:Int),I (len:Int)] 97
 pb:KP w bw [ptr wb 0] 118
 ne:bs≠wb∧bx≠wb∧bw≠wb
section
variable {w w':World}{Q:MP}{txt:Int→Bytes}{K:Nat}{X S':Nat→Prop}{s st len wb bs bx bw at' n sum:Nat}{rest:Value}
theorem XR.kp (h:XR s st len wb bs bx bw rest at' n sum w)(hk:Kp S' w w')(h1:¬S' wb)(h2:¬S' bs)(h3:¬S' bx)(h4:¬S' bw):XR s st len wb bs bx bw rest at' n sum w':=
 ⟨hk.KD h.wr h1,hk.KD h.sb h2,hk.KD h.xb h3,hk.KD h.pb h4,h.ne⟩
theorem XR.ext (h:XR s st len wb bs bx bw rest at' n sum w)(hx:Ext w w'):XR s st len wb bs bx bw rest at' n sum w':=h.kp (S':=fun _=>False) hx id id id id
theorem XR.re {rest2:Value}{at2 n2 sum2:Nat}(h:XR s st len wb bs bx bw rest at' n sum w)(hk:Kp (fun b=>b=wb) w w')(hB:KP w' wb (swC s st len rest2 at2 n2 sum2 (VB bs bx bw) false) 175):XR s st len wb bs bx bw rest2 at2 n2 sum2 w':=
 ⟨hB,hk.KD h.sb h.ne.1,hk.KD h.xb h.ne.2.1,hk.KD h.pb h.ne.2.2,h.ne⟩
theorem XR.cells (h:XR s st len wb bs bx bw rest at' n sum w):KP w wb [ptr s 0,I (st:Int),I (len:Int),rest,I (at':Int),I (n:Int),U sum,VB bs bx bw,.bool false] 175:=h.wr
theorem Tv (hP:Sp Q txt K X w)(hX:∀b,X b→b<w.heap.size)(hK:K<1000000000000)(h:XR Q.s st len wb bs bx bw rest at' n sum w)(aZ:X wb∧X bs∧X bx∧X bw)(yZ:st+at'<Q.L.length)(t:Bytes)(ht:t.length=512):
  Le Tryz.prog 75 [S t,ptr bs 0,ptr bx 0,ptr bw 0] w fun v w'=>v=I 0∧Sp Q (Th txt ((st+at':Nat):Int) (some t)) (K+1) X w'∧XR Q.s st len wb bs bx bw rest (at'+1) n sum w'∧Kp (fun b=>¬X b∨b=wb) w w':=by
 have dR:=hP.n
 have kl:=h.sb
 have fX:=h.xb
 have j9:=h.pb
 have hB:=h.cells
 have hg:=Ext.L4 w
 refine KA (e:=[(0,_),(1,_),(2,_),(3,_)]) Tryz.func75 rfl Tryz.ntmps75 rfl rfl (qN rfl (KE rfl (py (run_seq (KN (fun w'=>Kp (fun b=>¬X b) w w') (by kernel_rfl) rfl (qT 0 rfl (fun _ hS=>(by first|exact KJ RR rfl rfl (hS.KD kl (fun e=>e aZ.2.1)) rfl|exact KJ RR rfl rfl (hS.KD fX (fun e=>e aZ.2.2.1)) rfl|exact KJ RR rfl rfl (hS.KD j9 (fun e=>e aZ.2.2.2)) rfl|exact KJ RR rfl rfl (hS.KD hB (fun e=>e aZ.1)) rfl)) (hg.kp) ?_))))))
 refine KH 1 rfl (KK Pk rfl) (hg.kp) (qT 2 rfl (fun _ hS=>(by first|exact KJ U3 rfl rfl (hS.KD kl (fun e=>e aZ.2.1)) rfl|exact KJ U3 rfl rfl (hS.KD fX (fun e=>e aZ.2.2.1)) rfl|exact KJ U3 rfl rfl (hS.KD j9 (fun e=>e aZ.2.2.2)) rfl|exact KJ U3 rfl rfl (hS.KD hB (fun e=>e aZ.1)) rfl)) (hg.kp) ?_)
 refine qT 3 rfl (fun _ hS=>(by first|exact KJ QP rfl rfl (hS.KD kl (fun e=>e aZ.2.1)) rfl|exact KJ QP rfl rfl (hS.KD fX (fun e=>e aZ.2.2.1)) rfl|exact KJ QP rfl rfl (hS.KD j9 (fun e=>e aZ.2.2.2)) rfl|exact KJ QP rfl rfl (hS.KD hB (fun e=>e aZ.1)) rfl)) (hg.kp) ?_
 refine KH 4 rfl (KZ rfl) (hg.kp) (KH 5 rfl (KK Su rfl) (hg.kp) (qT 6 rfl (fun _ hS=>(by first|exact KJ U3 rfl rfl (hS.KD kl (fun e=>e aZ.2.1)) rfl|exact KJ U3 rfl rfl (hS.KD fX (fun e=>e aZ.2.2.1)) rfl|exact KJ U3 rfl rfl (hS.KD j9 (fun e=>e aZ.2.2.2)) rfl|exact KJ U3 rfl rfl (hS.KD hB (fun e=>e aZ.1)) rfl)) (hg.kp) ?_))
 refine KH 7 rfl (PW rfl rfl (by omega)) (hg.kp) (KH 8 rfl (KM rfl) (hg.kp) ?_)
 rw[show(st:Int)+(at':Int)=((st+at':Nat):Int) by omega]
 refine OJ 9 [.tmp 7,.tmp 14,.tmp 15] rfl z8O rfl ((hP.ext' hg).write (fun b hb=>by have:=hX b hb;have:=hg.size;omega) hK (no:=((st+at':Nat):Int)) (by omega) (by omega) t ht) ?_
 rintro _ w1 ⟨rfl,o2,aN⟩
 refine⟨hg.kp.trans aN,?_⟩
 have kZ:Kp (fun b=>¬X b) w w1:=hg.kp.trans aN
 have h1:=h.kp kZ (fun e=>e aZ.1) (fun e=>e aZ.2.1) (fun e=>e aZ.2.2.1) (fun e=>e aZ.2.2.2)
 have ai:=h1.cells
 have xt:=h1.pb
 have kj:∀b,X b→b<w1.heap.size:=fun b hb=>by have:=hX b hb;have:=kZ.size;omega
 refine KH 10 rfl (ML rfl) (hg.kp.trans aN) (qE (qN rfl (qV ((by first|exact KJ QP rfl rfl xt rfl|exact KJ QP rfl rfl ai rfl)) ?_)))
 refine qV (KZ rfl) (qV (KK Su rfl) (qV ((by first|exact KJ U3 rfl rfl xt rfl|exact KJ U3 rfl rfl ai rfl)) ?_))
 refine Lz rfl rfl (qV (KZ rfl) (qV (KK Su rfl) (KR rfl (Mn LC rfl rfl rfl ai (by simp)) ?_)))
 rintro w2 ⟨ak,am⟩
 have dx:KP w2 wb (swC Q.s st len rest (at'+1) n sum (VB bs bx bw) false) 175:=ak
 have h2:=h1.re am dx
 have pi:=h2.cells
 have sC:=h2.pb
 have aa:=Ext.L4 w2
 have ek:=o2.own am (fun b e=>by rw[e];exact aZ.1)
 refine py (run_seq (L5 [11] (fun w'=>Ext w2 w') (by kernel_rfl) rfl (qL [9,10,11] 0 rfl (fun _ h=>(by first|exact KJ QP rfl rfl (h.KD sC) rfl|exact KJ QP rfl rfl (h.KD pi) rfl)) aa ?_)))
 refine qL [2,3,4,5,6,7,8,9,10,11] 1 rfl (fun _ h=>(by first|exact KJ QP rfl rfl (h.KD sC) rfl|exact KJ QP rfl rfl (h.KD pi) rfl)) aa ?_
 refine qL [3,4,5,6,7,8,9,10,11] 2 rfl (fun _ h=>KZ rfl) aa (qL [4,5,6,7,8,9,10,11] 3 rfl (fun _ h=>KK SO rfl) aa (qL [5,6,7,8,9,10,11] 4 rfl (fun _ h=>(by first|exact KJ U4 rfl rfl (h.KD sC) rfl|exact KJ U4 rfl rfl (h.KD pi) rfl)) aa ?_))
 refine qL [6,7,8,9,10,11] 5 rfl (fun _ h=>KM rfl) aa (qL [7,8,9,10,11] 6 rfl (fun _ h=>KM rfl) aa (qL [8,9,10,11] 7 rfl (fun _ h=>LQ rfl rfl) aa (qL [9,10,11] 8 rfl (fun _ h=>Lk rfl rfl) aa (qL [10,11] 9 rfl (fun _ h=>KZ rfl) aa (qL [11] 10 rfl (fun _ h=>KK SO rfl) aa (Lu [11] (by kernel_rfl) (by kernel_rfl) ?_))))))
 have ar:=aa.KD pi
 refine qO 11 (Lm (i:=11) rfl rfl (Mn PS rfl rfl rfl ar (by simp)) ?_)
 rintro w3 ⟨fN,ax⟩
 refine⟨trivial,?_⟩
 refine qE (Lc.qb (e:=[(5,_),(6,_)]) ?_)
 refine qN rfl (An rfl (KE rfl (py (KG Tryz.func75 rfl ?_))))
 have h3:=(h2.ext aa).re ax (show KP w3 wb (swC Q.s st len rest (at'+1) n sum (VB bs bx bw) false) 175 from fN)
 exact⟨_,rfl,rfl,(ek.ext' aa).own ax (fun b e=>by rw[e];exact aZ.1),h3,((kZ.KT fun b e=> .inl e).trans (am.KT fun b e=> .inr e)).trans (aa.kp.trans (ax.KT fun b e=> .inr e))⟩
end
section
variable {P:Program}{e:Env}{d:Option Nat}{ty t t' el:TypeId}{pos:String}{aft:Array Edge}{g:Option (Nat×Bool)}{x:Operand}{w:World}{l:Bytes}{v:Value}
theorem z8s (hs:P.underlying t=some (.slice el))(he:P.underlying el=some (.int .u8))(hd:P.underlying t'=some .string)(hx:look e x=some v)(hr:Rd w v 1 l.length (l.map Od))(hl:0<l.length):
  Y P e ⟨d,.convert t t' x,ty,pos,aft,g⟩ (S l) w w:=fun ρ hρ=>by
 rcases hr.2 with⟨⟨ca,c⟩,hv,h0⟩|⟨b,off,cap,hv,hc⟩
 ·omega
 ·subst hv;have hr:=run_convert_bytes_back (P:=P) w t t' el ⟨b,off,none⟩ cap l hs he hd (fun j hj=>by rw[Mr];exact hc j _ (by simp[hj,Od]));simp[execOp,hρ _ _ hx,hr]
end
section
variable {w w':World}{Q:MP}{txt:Int→Bytes}{K:Nat}{X S':Nat→Prop}{s st len wb bs bx bw at' n sum:Nat}{rest:Value}
theorem XH (hP:Sp Q txt K X w){st len:Nat}(h1:1≤len)(h2:st+len≤Q.L.length):
  Le Tryz.prog 46 [ptr Q.s 0,.agg #[I (st:Int),I (len:Int)]] w fun v w'=>∃wb bs bx bw sum,v= .tuple #[ptr wb 0,I 0]∧sum<4294967296∧XR Q.s st len wb bs bx bw (.slice none 0 0) 0 0 sum w'∧(w.heap.size≤wb∧w.heap.size≤bs∧w.heap.size≤bx∧w.heap.size≤bw)∧Ext w w':=by
 have tf:Sums.crc []<4294967296:=Sums.z8m _
 obtain⟨c0,sD⟩:∃c0,Sums.crc []=c0:=⟨_,rfl⟩
 rw[sD] at tf
 refine KA (e:=[(0,_),(1,_)]) Tryz.func46 rfl Tryz.ntmps46 rfl rfl (qN rfl (KL rfl rfl (Mz rfl (cs:=[ptr Q.s 0]) rfl) ?_))
 rintro _ w1 ⟨bs,rfl,vp,ad,kl⟩
 refine KL rfl rfl (Mz rfl (cs:=[I (st:Int),I (len:Int)]) rfl) ?_
 rintro _ w2 ⟨bx,rfl,eX,af,fX⟩
 have sE:=af.KD kl
 have IF:=hP.ext' (ad.trans af)
 have ao:=Ext.L4 w2
 have bK:=ao.size
 refine KE rfl (KE rfl (py (run_seq (Lp (fun e' w'=>∃wb bw,e'=[(2,ptr bs 0),(3,ptr bx 0),(6,ptr bw 0)]∧KP w' wb [ptr Q.s 0,I (st:Int),I (len:Int),.slice none 0 0,I 0,I 0,U c0,.nilFunc,.bool false] 175∧KP w' bw [ptr wb 0] 118∧Ext w2 w'∧w2.heap.size≤wb∧w2.heap.size≤bw∧wb≠bw) ?cD (fun cD=>?cQ)))))
 case cD=>
  rintro e' w3 ⟨wb,bw,rfl,ar,kQ,ah,mH,D2,bE⟩;have lbs:=kl.lt;have lbx:=fX.lt;have dI:=af.size;have ff:=IF.ext' ah;refine run_seq (qN rfl (qV ((by first|exact KJ QP rfl rfl kQ rfl|exact KJ QP rfl rfl ar rfl)) ?_));refine qV (KZ rfl) (qV (KK Rf rfl) (qV ((by first|exact La z4u rfl QW rfl (KP.cells (n:=3) kQ (news:=[_,_,_]) rfl) rfl|exact La z4u rfl QW rfl (KP.cells (n:=3) ar (news:=[_,_,_]) rfl) rfl)) ?_));refine L2 [.tmp 17] zae rfl (TP ff h1 h2) ?_;rintro _ w4 ⟨rfl,aB⟩;have kP:=aB.KD kQ;have aI:=aB.KD ar;refine KE rfl (qM rfl (An rfl (qV (LQ rfl rfl) (py (Kx rfl (It (qN rfl (qV ((by first|exact KJ QP rfl rfl kP rfl|exact KJ QP rfl rfl aI rfl)) ?_))))))));refine qV (Zw (first:=[]) (caps:=[.tmp 2,.tmp 3,.tmp 6]) rfl rfl) (qV (KZ rfl) (qV (KK UC rfl) (KR rfl (Mn z8q rfl rfl rfl aI (by simp)) ?_)));rintro w5 ⟨aG,aj⟩;have yL:=aj.KD kP (fun e=>bE e.symm);refine qM rfl (qV (KJ QP rfl rfl yL rfl) (KE rfl (KE rfl (py (KG Tryz.func46 rfl ?_)))));have gV:Ext w2 w5:=(ah.trans aB).Kz aj (fun j e=>by omega);refine⟨_,rfl,wb,bs,bx,bw,c0,rfl,tf,⟨aG,gV.KD sE,gV.KD fX,yL,⟨by omega,by omega,fun e=>bE e.symm⟩⟩,⟨by omega,by omega,by omega,by omega⟩,(ad.trans af).trans gV⟩
 case cQ=>
 refine L5 [7] (fun w'=>Ext w2 w') (by kernel_rfl) rfl (qL [2,4,5,7] 0 rfl (fun _ h=>(by first|exact KJ RR rfl rfl (h.KD sE) rfl|exact KJ RR rfl rfl (h.KD fX) rfl)) ao ?_)
 refine qL [2,4,5,7] 1 rfl (fun _ hS=>(by first|exact La U97 rfl NL rfl (KP.cells (n:=2) (hS.KD sE) (news:=[_,_]) rfl) rfl|exact La U97 rfl NL rfl (KP.cells (n:=2) (hS.KD fX) (news:=[_,_]) rfl) rfl)) ao ?_
 refine qL [4,5,7] 2 rfl (fun _ h=>Nc (parts:=[(0,.tmp 8),(1,.tmp 9)]) (cs:=[_,_,_]) QW rfl z7N rfl rfl) ao (RK (i:=3) (j:=6) (by kernel_rfl) ?_ ?_)
 ·refine MU (i:=3) rfl rfl rfl (yc (args:=[.const (Value.string (⟨#[]⟩))]) zbb rfl) (z1d [] _ (by simp)) ?_;rintro _ w3 ⟨rfl,ah⟩;refine⟨ao.trans ah,?_⟩;rw[sD];have ao:=ao.trans ah
  try have aW:=ah.KD aW
  have bK:=Nat.le_trans bK ah.size;refine qL [5,7] 4 rfl (fun _ h=>Nc (parts:=[(0,.tmp 10),(4,.tmp 11)]) (cs:=[_,_,_,_,_,_,_,_,_]) z7K rfl z71 rfl rfl) ao (RK (i:=5) (j:=6) (by kernel_rfl) ?_ ?_)
  ·refine LM (i:=5) rfl rfl rfl (Mz rfl (cs:=[ptr Q.s 0,I (st:Int),I (len:Int),.slice none 0 0,I 0,I 0,U c0,.nilFunc,.bool false]) rfl) ?_;rintro _ w5 ⟨wb,rfl,mH,aR,aG⟩;refine⟨ao.trans aR,?_⟩;have ao:=ao.trans aR
   try have aW:=aR.KD aW
   have rC:w2.heap.size≤wb:=by omega
   have bK:=Nat.le_trans bK aR.size;refine Mp (i:=6) (by kernel_rfl) (LM (i:=6) rfl rfl rfl (MN (cs:=[_]) Wz rfl) ?_);rintro _ w6 ⟨bw,rfl,D2,aK,aW⟩;refine⟨ao.trans aK,?_⟩;have ao:=ao.trans aK
   try have aG:=aK.KD aG
   have xu:w2.heap.size≤bw:=by omega
   have bK:=Nat.le_trans bK aK.size;refine Lu [7] (by kernel_rfl) (by kernel_rfl) (qO 7 (Lm (i:=7) rfl rfl (Mn Wz rfl rfl rfl aW (by simp)) ?_));rintro w7 ⟨bG,aA⟩;refine⟨trivial,?_⟩;refine qE ?_;replace bG:KP w7 bw [ptr wb 0] 118:=bG
   have iL:wb≠bw:=by
    intro e;have h5:=aG;rw[e] at h5;obtain⟨fz,h5,-⟩:=h5;obtain⟨fz6,h6,-⟩:=aW;rw[h5] at h6;cases h6
   have jg:=aA.KD aG iL;exact(cD _ _ ⟨wb,bw,rfl,jg,bG,ao.Kz aA (fun j e=>by omega),rC,xu,iL⟩).qb
  ·refine LM (i:=6) rfl rfl rfl (MN (cs:=[_]) Wz rfl) ?_;rintro _ w6 ⟨bw,rfl,D2,aK,aW⟩;refine⟨ao.trans aK,?_⟩;have ao:=ao.trans aK
   try have aG:=aK.KD aG
   have xu:w2.heap.size≤bw:=by omega
   have bK:=Nat.le_trans bK aK.size;refine Mp (i:=5) (by kernel_rfl) (LM (i:=5) rfl rfl rfl (Mz rfl (cs:=[ptr Q.s 0,I (st:Int),I (len:Int),.slice none 0 0,I 0,I 0,U c0,.nilFunc,.bool false]) rfl) ?_);rintro _ w5 ⟨wb,rfl,mH,aR,aG⟩;refine⟨ao.trans aR,?_⟩;have ao:=ao.trans aR
   try have aW:=aR.KD aW
   have rC:w2.heap.size≤wb:=by omega
   have bK:=Nat.le_trans bK aR.size;refine Lu [7] (by kernel_rfl) (by kernel_rfl) (qO 7 (Lm (i:=7) rfl rfl (Mn Wz rfl rfl rfl aW (by simp)) ?_));rintro w7 ⟨bG,aA⟩;refine⟨trivial,?_⟩;refine qE ?_;replace bG:KP w7 bw [ptr wb 0] 118:=bG
   have iL:wb≠bw:=by
    intro e;have h5:=aG;rw[e] at h5;obtain⟨fz,h5,-⟩:=h5;obtain⟨fz6,h6,-⟩:=aW;rw[h5] at h6;cases h6
   have jg:=aA.KD aG iL;exact(cD _ _ ⟨wb,bw,rfl,jg,bG,ao.Kz aA (fun j e=>by omega),rC,xu,iL⟩).qb
 ·refine LM (i:=6) rfl rfl rfl (MN (cs:=[_]) Wz rfl) ?_;rintro _ w6 ⟨bw,rfl,D2,aK,aW⟩;refine⟨ao.trans aK,?_⟩;have ao:=ao.trans aK
  try have aG:=aK.KD aG
  have xu:w2.heap.size≤bw:=by omega
  have bK:=Nat.le_trans bK aK.size;refine Mp (i:=3) (by kernel_rfl) (MU (i:=3) rfl rfl rfl (yc (args:=[.const (Value.string (⟨#[]⟩))]) zbb rfl) (z1d [] _ (by simp)) ?_);rintro _ w3 ⟨rfl,ah⟩;refine⟨ao.trans ah,?_⟩;rw[sD];have ao:=ao.trans ah
  try have aW:=ah.KD aW
  have bK:=Nat.le_trans bK ah.size;refine qL [5,7] 4 rfl (fun _ h=>Nc (parts:=[(0,.tmp 10),(4,.tmp 11)]) (cs:=[_,_,_,_,_,_,_,_,_]) z7K rfl z71 rfl rfl) ao (Mp (i:=5) (by kernel_rfl) (LM (i:=5) rfl rfl rfl (Mz rfl (cs:=[ptr Q.s 0,I (st:Int),I (len:Int),.slice none 0 0,I 0,I 0,U c0,.nilFunc,.bool false]) rfl) ?_));rintro _ w5 ⟨wb,rfl,mH,aR,aG⟩;refine⟨ao.trans aR,?_⟩;have ao:=ao.trans aR
  try have aW:=aR.KD aW
  have rC:w2.heap.size≤wb:=by omega
  have bK:=Nat.le_trans bK aR.size;refine Lu [7] (by kernel_rfl) (by kernel_rfl) (qO 7 (Lm (i:=7) rfl rfl (Mn Wz rfl rfl rfl aW (by simp)) ?_));rintro w7 ⟨bG,aA⟩;refine⟨trivial,?_⟩;refine qE ?_;replace bG:KP w7 bw [ptr wb 0] 118:=bG
  have iL:wb≠bw:=by
   intro e;have h5:=aG;rw[e] at h5;obtain⟨fz,h5,-⟩:=h5;obtain⟨fz6,h6,-⟩:=aW;rw[h5] at h6;cases h6
  have jg:=aA.KD aG iL;exact(cD _ _ ⟨wb,bw,rfl,jg,bG,ao.Kz aA (fun j e=>by omega),rC,xu,iL⟩).qb
end
end Go.Proofs.YtpldpcjdjcgicaaGreatDoor
