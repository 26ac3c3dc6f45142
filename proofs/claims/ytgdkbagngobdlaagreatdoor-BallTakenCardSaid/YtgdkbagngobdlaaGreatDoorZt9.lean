/- Merged by program. -/
import Derived.Test.YtgdkbagngobdlaaGreatDoorZt8
import Derived.LaidLaws
import Derived.MakeChecks
import Derived.Handed
set_option linter.all false
set_option maxRecDepth 1000000
set_option maxHeartbeats 16000000
namespace Go.Proofs.YtgdkbagngobdlaaGreatDoor
open Go Go.RowKit Go.Proofs.Tryz
section
variable {G:Yi}{w w':World}{Q:Rn}{txt txt':Int->OG}{K k:Nat}{X O_:Nat->Prop}{rr a L:Nat}{s s':Si}{ys:List Nat}
theorem z63 {n m:Nat}{t:OG}:Ug n m (t.take (n*m))=Ug n m t:=by
 unfold Ug
 refine List.map_congr_left λv hv=>?_
 have hv:=List.mem_range.1 hv
 have h1:(v+1)*m<=n*m:=Nat.mul_le_mul_right _ hv
 rw[Nat.add_mul,Nat.one_mul] at h1
 rw[List.drop_take,List.take_take,Nat.min_eq_left (by omega)]
def X4 {n b:Nat}(h:n<=64*b)(hb:1<=b):Rl n 64<=b:=by
 unfold Rl
 have:(n+64-1) / 64<=b:=by omega
 omega
def ZE.state {vn vx vs an ax t':Nat}{d':Bool}(h:ZE Q txt k rr O_ a L s ys vn vx vs an ax w)(hk:Kp (λj=>j=rr) w w')(hB:OR w' rr (blC {s with t:=t',done:=d'} k vn vx vs) 100):ZE Q txt k rr O_ a L {s with t:=t',done:=d'} ys vn vx vs an ax w':=
 ⟨h.o,h.ne,hB,h.now.kp hk (λe=>h.ne.1 e.symm),h.next.kp hk (λe=>h.ne.2.1 e.symm),h.Qd.kp hk (λe=>h.ne.2.2.1 e.symm),h.yl,h.at_,h.L⟩
theorem z7k (h:Ru TL G Q txt K X rr O_ a L (s,ys) w)(hI:Zc G.g s)(hK:K<=800000000000)(tx:OG):Pm prog 21 [ptr rr 0,S tx] w λv w'=>v=I (if(z11 s G.g.length tx).isSome then 0 else 4)/\∃txt',Ru TL G Q txt' (K+Rl (G.g.length*mW s.p) 64+1) X rr O_ a L ((z11 s G.g.length tx).getD s,ys) w'/\(∀y:Int,y<(a:Int)\/(a:Int)+(L:Int)<=y->txt' y=txt y)/\Kp (λb=>¬X b\/O_ b) w w':=by
 have eT:=h.n
 have jI:=zaf hI.p4
 have lN:=z1l ⟨hI.p4,hI.p16⟩
 have GT:=hI.p16
 have s8:=hI.p4
 have dw:=hI.r2
 have dD:=hI.n
 have lG:=hI.sn
 have hN:2^s.p<=2^16:=Nat.pow_le_pow_right (by decide) GT
 have J6:G.g.length*2^s.p<=40*2^16:=Nat.mul_le_mul eT hN
 have N8:G.g.length*mW s.p<=40*8192:=Nat.mul_le_mul eT lN.2
 have eU:=X4 (n:=G.g.length*mW s.p) (b:=5120) (by omega) (by decide)
 have jX:=X4 (n:=s.Qd.length) (b:=1) (by omega) (by decide)
 have wJ:1<=Rl s.Qd.length 64:=Nat.le_max_left _ _
 have vS:Ru TL G Q txt (K+Rl (G.g.length*mW s.p) 64+1) X rr O_ a L (s,ys) w:=h.more (by omega) (by omega)
 obtain⟨vn,vx,vs,an,ax,V⟩:=h.bl
 have hB:OR w rr [I (s.t:Int),.bool s.done,ptr G.k 0,I (s.p:Int),I (s.rounds:Int),ptr vn 0,ptr vx 0,ptr vs 0,.bool false] 100:=V.run
 have jw:∀b,O_ b->¬¬(X b\/b=G.rb):=λb hb e=>e (.inl (h.xr b hb))
 have lD:=V.at_
 have Ax:=V.L
 have jK:=z11.eq_1 s G.g.length tx
 have hg:=Ext.OT w
 refine py (e:=[(0,_),(1,_)]) func21 O ntmps21 O O$ QB O$ PG O$ P4 zaW O (TZ h) ?_
 rintro _ w ⟨rfl,rfl⟩
 refine Qt O$ Qf O$ PW O$ Pf O$ Pu O$ OX YH O$ qV (OO U30 O O hB O)$ P4 zar O (Xh h.g) ?_
 rintro _ w ⟨rfl,rfl⟩
 refine Qw O$ P8 O$ Pu O$ OX WM O$ qV (OO U3 O O hB O)$ qV (ysl s.p (2^s.p) O O (by omega) O (by omega))$ PV O ?_
 generalize hC:G.g.length*2^s.p=C at J6 jK
 rw[show(5:Int)+((C:Nat):Int)=((5+C:Nat):Int) by omega]
 refine OU O$ It$ It ?_
 by_cases az:tx.length=5+C+8*G.g.length
 ·have kQ : (tx.take 4).length = 4 := by rw [List.length_take]; omega
  have fk:=λw1=>z2y (tx.take 4) (by omega) w1;have bU:=ziQ (k:=0) (show(tx.take 4).length<=4 by omega);rw[show Pv (P3 (tx.take 4))=nB (tx.take 4) from rfl] at fk;have eG:=(tx.getD 4 0).toNat_lt;refine R5 (λw'=>Ext w w') O$ OZ 0 O O (hg)$ OI 1 O (SV U9 O) hg$ OZ 2 O O (hg)$ OZ 3 O O (hg)$ OI 4 O (Wm O O (by omega)) hg$ OI 5 O (Ud O O (by omega)) hg$ OI 6 O (yne O O) hg$ Uc$ OZ 7 O O (hg)$ OZ 8 O O (hg)$ OI 9 O (YI U9 O O (by omega)) hg$ OZ 11 O O (hg)$ OI 12 O (Q4 O) hg ?_;refine OI 13 O (Pp z7S O) hg$ qT 14 O (λ_ h=>OO U3 O O (h.OC hB) O) hg$ OI 15 O ((PZ O U3 Rr (by omega))) hg$ SK 10 O zfx O (fk _) ?_;rintro _ w1 ⟨rfl,ad⟩;refine⟨hg.trans ad,?_⟩;have aG:=hg.trans ad
  generalize nB (tx.take 4)=N1 at fk bU jK
  by_cases c1:N1<=s.rounds
  ·refine OI 16 O (Xw O O) (hg.trans ad)$ Uc$ OI 17 O (Ub O O) (hg.trans ad)$ OZ 18 O O (hg.trans ad)$ OZ 19 O O (hg.trans ad)$ OI 20 O (z0n U9 O O (by omega)) (hg.trans ad) ?_
   generalize N9:(tx.getD 4 0).toNat=N3 at eG jK
   by_cases c2:N3<=1
   ·refine OI 21 O (Xw O O) (hg.trans ad)$ Uc$ OI 22 O (Ub O O) (hg.trans ad) ?_;have h1:=h.ext aG;have aj:=aG.OC hB;refine qE$ Pn.qb (e:=[(0,_),(1,_),(4,_),(7,_),(51,_)]) ?_;refine Tu O$ It$ Qm O$ qV (zbY (m:=5) (n:=5+C) U9 O O O (by omega)) ?_;rw[show 5+C-5=C by omega];obtain⟨seg,iH⟩:∃seg,(tx.drop 5).take C=seg:=⟨_,rfl⟩;have fG:seg.length=C:=by rw[<-iH,List.length_take,List.length_drop];omega
    rw[iH] at jK⊢;refine OM O O (z6G U9 Q5 U5 O) ?_;rintro _ w2 ⟨b8,c8,rest,rfl,⟨gV,ae,ce⟩,Jq⟩;have am:=ae.OC aj;refine Rv Q5 O$ OK O$ OD$ OH ?_;have h2:=h1.ext ae;have V2:=V.kp (S:=λ_=>False) (aG.trans ae) (λ_ _=>id);refine Rq (α:=Nat) (0) (λi=>[(0,ptr rr 0),(1,S tx),(7,I ((5+C:Nat):Int)),(55,.slice (some ⟨b8,0,none⟩) seg.length c8),(56,I (seg.length:Int)),(57,I (i:Int))]) (λi w'=>i<=seg.length/\(∀x∈seg.take i,x.toNat<=65-s.p)/\w'=w2) (λi=>seg.length-i) ?hI ?hround
    case hI=>exact⟨Nat.zero_le _,λx hx=>by simp at hx,rfl⟩
    case hround=>
     rintro i w4 ⟨hi,dV,rfl⟩ ih
     try dsimp only
     refine qN O$ Qq O$ OD$ It$ OQ O (λh0=>?_)$ λh0=>?_
     ·have bQ:i<seg.length:=by omega
      obtain⟨c,hc⟩:∃c,seg[i]? =some c:=⟨_,List.getElem?_eq_getElem bQ⟩;have cN:=c.toNat_lt;have lJ:=List.mem_of_getElem? hc;refine OE$ Qx$ qN O$ qV (PX Q5 VK O O (by omega))$ qV (Pr U5 O O (by rw[ce.cell,Nat.zero_add,Nat.mul_one,List.getElem?_append_left (by rw[List.length_map];exact bQ),List.getElem?_map,hc];rfl)) ?_;refine Qt O$ qV ((z2f O U5 U3 (by decide)))$ OK O$ Pu O$ OX WM O$ qV (OO U3 O O am O)$ Ro O ?_;by_cases c3:c.toNat<=65-s.p
      ·refine Qu O$ PF$ PW O$ OA$ OL O$ PV O$ OK O$ OD ((ih (i+1) _ ⟨by omega,λx hx=>?_,rfl⟩ (by omega)).qb);rw[List.take_add_one,hc] at hx;rcases List.mem_append.1 hx with e| e
       ·exact dV x e
       ·simp at e;rw[e];exact c3
      ·refine Qu O$ Rp$ OD$ OS O$ QB O$ OB func21 O ?_;rw[if_neg (λe=>c3 (e.2.2.2 c lJ))] at jK;rw[jK];exact⟨_,rfl,rfl,txt,(vS.ext aG).ext ae,λ_ _=>rfl,(aG.trans ae).kp⟩
     ·have bQ:i=seg.length:=by omega
      subst bQ;rw[List.take_length] at dV;rw[if_pos ⟨az,c1,c2,dV⟩] at jK;have s9:=zb8 (n:=G.g.length) (m:=mW s.p) (t:=seg) (by rw[fG,jI,hC]);have E7:Ug G.g.length (mW s.p*8) seg=Ug G.g.length (2^s.p) (tx.drop 5):=by rw[jI,<-iH,<-hC,z63]
      rw[E7] at s9;have aa:=Ext.OT w4;have BI:=h2.ext aa;have V2d:=V2.kp (S:=λ_=>False) aa (λ_ _=>id);have iK:=z0Z BI.g.sp BI.g.lt1 (by omega) V2d.now (.inl (BI.xr _ V2d.o.2.1)) (s:=seg) (by rw[Ry,dD,fG,<-hC,<-jI,Nat.mul_assoc]);rw[Ry,dD,s9,show 512 / 8=64 from rfl] at iK;rw[jK];show Pn _ _ _ _;obtain⟨rows,ij⟩:∃rows,Ug G.g.length (2^s.p) (tx.drop 5)=rows:=⟨_,rfl⟩;have fR:rows.length=G.g.length:=by rw[<-ij];exact zap
      rw[ij] at iK⊢;refine ON O$ It$ It$ R5 (λw'=>Kp (λb=>¬(X b\/b=G.rb)) w4 w') O$ OZ 0 O O (aa.kp)$ OI 1 O (Q4 O) (aa.kp)$ OI 2 O (Pp TU O) (aa.kp)$ qT 3 O (λ_ h=>OO U98 O O (h.OC am (jw _ V.o.1)) O) (aa.kp)$ OZ 4 O O (aa.kp)$ OZ 5 O O (aa.kp)$ OI 6 O (zbY (m:=5) (n:=5+C) U9 O O O (by omega)) (aa.kp) ?_;rw[show 5+C-5=C by omega,iH];refine SK 7 O zk8 O (iK) ?_;rintro _ w5 ⟨rfl,rD⟩;refine⟨aa.kp.trans rD.kpX,?_⟩;obtain⟨txt5,fO,AZ,qv,ak⟩:=id rD;have V5:=V2d.ziZ ak jw AZ (by rw[fR,dD]) (by rw[show 512 / 8=64 from rfl] at qv;exact qv);have zE:(UW (mW s.p) rows).length=G.g.length*mW s.p:=by rw[Ry,fR]
      rw[zE,show 512 / 8=64 from rfl] at qv;rw[dD] at lD Ax;have Ay:∀y:Int,y<(a:Int)\/(a:Int)+(L:Int)<=y->txt5 y=txt y:=λy hy=>qv y (by omega);have h5:Ru TL G Q txt5 (K+Rl (G.g.length*mW s.p) 64) X rr O_ a L ({s with sk:=rows},ys) w5:=BI.Zu (by omega) ak (λb e=> .inl e) fO Ay ⟨vn,vx,vs,an,ax,V5⟩;have cz:Kp (λb=>¬X b\/O_ b) w w5:=(((aG.trans ae).trans aa).kp.trans (ak.OV λb e=> .inl λe2=>e (.inl e2)));have aH:OR w5 rr [I (s.t:Int),.bool s.done,ptr G.k 0,I (s.p:Int),I (s.rounds:Int),ptr vn 0,ptr vx 0,ptr vs 0,.bool false] 100:=V5.run;have cS:=Ext.OT w5;have BJ:=h5.ext cS;have V5d:=V5.kp (S:=λ_=>False) cS (λ_ _=>id);have f9:=z0Z BJ.g.sp BJ.g.lt1 (by omega) V5d.Qd (.inl (BJ.xr _ V5d.o.2.2.2)) (s:=tx.drop (5+C)) (by rw[List.length_drop,az];show _=s.Qd.length*8;omega);rw[show({s with sk:=rows}:Si).Qd=s.Qd from rfl,lG,show 512 / 8=64 from rfl] at f9;have uP:Rl G.g.length 64=1:=by rw[lG] at jX wJ;omega
      rw[uP] at f9;obtain⟨us,J7⟩:∃us,RF 8 G.g.length (tx.drop (5+C))=us:=⟨_,rfl⟩;have mD:us.length=G.g.length:=by rw[<-J7];exact Qn _ _ _
      rw[J7] at f9⊢;refine OI 8 O (R7 O) (aa.kp.trans rD.kpX)$ qE$ Pf O$ Qf O$ PW O$ It$ It$ R5 (λw'=>Kp (λb=>¬(X b\/b=G.rb)) w5 w') O$ OZ 0 O O (cS.kp)$ OI 1 O (Q4 O) (cS.kp)$ OI 2 O (Pp Ve O) (cS.kp)$ qT 3 O (λ_ h=>OO U98 O O (h.OC aH (jw _ V.o.1)) O) (cS.kp)$ OZ 4 O O (cS.kp)$ OZ 5 O O (cS.kp) ?_;refine OI 6 O (Yv (m:=5+C) U9 O O (by omega)) (cS.kp)$ SK 7 O zk8 O (f9) ?_;rintro _ w6 ⟨rfl,iq⟩;refine⟨cS.kp.trans iq.kpX,?_⟩;obtain⟨txt6,j4,GU,s6,aP⟩:=id iq;have V6:=V5d.zeF aP jw GU (by show us.length=s.Qd.length;omega) s6;rw[mD,show 512 / 8=64 from rfl,uP] at s6
      have ox:∀y:Int,y<(a:Int)\/(a:Int)+(L:Int)<=y->txt6 y=txt5 y:=λy hy=>s6 y (by
       show y<((a+2*Rl (rows.length*mW s.p) 64:Nat):Int)\/((a+2*Rl (rows.length*mW s.p) 64:Nat):Int)+_<=y;rw[fR];rw[lG,uP] at Ax
       omega)
      have h6:Ru TL G Q txt6 (K+Rl (G.g.length*mW s.p) 64+1) X rr O_ a L ({s with sk:=rows,Qd:=us},ys) w6:=BJ.Zu (by omega) aP (λb e=> .inl e) j4 ox ⟨vn,vx,vs,an,ax,V6⟩;have aQ:OR w6 rr [I (s.t:Int),.bool s.done,ptr G.k 0,I (s.p:Int),I (s.rounds:Int),ptr vn 0,ptr vx 0,ptr vs 0,.bool false] 100:=V6.run;have bI:=Ext.OT w6;refine OI 8 O (R7 O) (cS.kp.trans iq.kpX)$ qE$ Pn.qb (e:=[(0,_),(1,_),(11,_)]) ?_;refine Pf O$ Qf O$ PW O$ It$ P7 [11] (λw'=>Ext w6 w') (by kernel_rfl) O$ PL 0 O O (bI)$ PL 1 O O (bI)$ PL 5 O O (bI)$ P9 2 O (YI (m:=4) U9 O O (by omega)) bI$ P9 6 O (z0n U9 O O (by omega)) bI ?_;rw[N9];refine P9 7 O (yeq O O) bI$ QY (i:=3) (by kernel_rfl)$ Rx (i:=3) O O O (yc zfx O) (fk _) ?_;rintro _ w7 ⟨rfl,bY⟩;refine⟨bI.trans bY,?_⟩;have mN:=bI.trans bY;rw[show decide ((N3:Int)=1)=decide (N3=1) from decide_eq_decide.2 (by omega)];refine P9 4 O (PJ O Rr U3 (by omega)) (bI.trans bY)$ P9 8 O (Sk (cs:=[_,_]) ze5 O zlc O O) (bI.trans bY)$ P9 9 O (Q4 O) (bI.trans bY)$ P9 10 O (Pp Sv O) (bI.trans bY)$ SM [11]$ qO 11$ PC (i:=11) O O (PO (news:=[I (N1:Int),.bool (decide (N3=1))]) ze5 O O O O (mN.OC aQ) (by simp)) ?_;rintro w8 ⟨ce,aR⟩;refine⟨trivial,?_⟩;have V8:=(V6.kp (S:=λ_=>False) mN (λ_ _=>id)).state (t':=N1) (d':=decide (N3=1)) aR ce;have h8:=(h6.ext mN).set aR (λb e=>e▸V.o.1) (s':=(({({s with sk:=rows,Qd:=us}:Si) with t:=N1,done:=decide (N3=1)}:Si),ys)) ⟨vn,vx,vs,an,ax,V8⟩;refine qE$ QB O$ OB func21 O ?_;exact⟨_,rfl,rfl,txt6,h8,λy hy=>by rw[ox y hy];exact Ay y hy,((cz.trans cS.kp).trans (aP.OV λb e=> .inl λe2=>e (.inl e2))).trans (mN.kp.trans (aR.OV λb e=> .inr (e▸V.o.1)))⟩
   ·refine OI 21 O (Xw O O) (hg.trans ad)$ TT$ OI 22 O (Ub O O) (hg.trans ad)$ qE$ Pn.qb (e:=[(0,_),(1,_),(4,_),(7,_),(51,_)]) ?_;refine OS O$ QB O$ OB func21 O ?_;rw[if_neg (λe=>c2 e.2.2.1)] at jK;rw[jK];exact⟨_,rfl,rfl,txt,vS.ext aG,λ_ _=>rfl,aG.kp⟩
  ·refine OI 16 O (Xw O O) (hg.trans ad)$ TT$ OI 17 O (Ub O O) (hg.trans ad)$ OZ 18 O O (hg.trans ad)$ qJ 19 O (hg.trans ad)$ qJ 20 O (hg.trans ad)$ qJ 21 O (hg.trans ad)$ OI 22 O (UJ O O) (hg.trans ad)$ qE$ Pn.qb (e:=[(0,_),(1,_),(4,_),(7,_),(51,_)]) ?_;refine OS O$ QB O$ OB func21 O ?_;rw[if_neg (λe=>c1 e.2.1)] at jK;rw[jK];exact⟨_,rfl,rfl,txt,vS.ext aG,λ_ _=>rfl,aG.kp⟩
 ·refine R5 (λw'=>Ext w w') O$ OZ 0 O O (hg)$ OI 1 O (SV U9 O) hg$ OZ 2 O O (hg)$ OZ 3 O O (hg)$ OI 4 O (Wm O O (by omega)) hg$ OI 5 O (Ud O O (by omega)) hg$ OI 6 O (yne O O) hg$ TT$ OZ 7 O O (hg)$ qJ 8 O (hg)$ qJ 9 O (hg)$ qJ 10 O (hg)$ qJ 11 O (hg) ?_;refine qJ 12 O (hg)$ qJ 13 O (hg)$ qJ 14 O (hg)$ qJ 15 O (hg)$ qJ 16 O (hg)$ OI 17 O (UJ O O) hg$ OZ 18 O O (hg)$ qJ 19 O (hg)$ qJ 20 O (hg)$ qJ 21 O (hg)$ OI 22 O (UJ O O) hg$ qE$ Pn.qb (e:=[(0,_),(1,_),(4,_),(7,_),(51,_)]) ?_;refine OS O$ QB O$ OB func21 O ?_;rw[if_neg (λe=>az e.1)] at jK;rw[jK];exact⟨_,rfl,rfl,txt,vS.ext hg,λ_ _=>rfl,hg.kp⟩
end
section
variable {G:Yi}{w w':World}{Q:Rn}{txt txt':Int->OG}{K k:Nat}{X O_:Nat->Prop}{rr a L:Nat}{s:Si}{ys:List Nat}
theorem z4n {m:Nat}:∀{sk:List OG} {v:Nat} {x:OG},v<sk.length->z0m m (UW m sk) v x=UW m (sk.set v x)
 |[],v,x,h=>by simp at h
 | y :: sk, 0, x, _ => by
   unfold z0m UW
   rw[Nat.zero_mul,List.take_zero,List.nil_append,Nat.zero_add,List.set_cons_zero,List.flatMap_cons,List.flatMap_cons,List.drop_left' (Qn _ _ _)]
 | y :: sk, v + 1, x, h => by
   have ih:=z4n (m:=m) (sk:=sk) (v:=v) (x:=x) (by simpa using h);unfold z0m UW at*;have e1:(v+1)*m=m+v*m:=by rw[Nat.add_mul,Nat.one_mul,Nat.add_comm]
   have hu:(RF 8 m y).length=m:=Qn _ _ _;rw[List.set_cons_succ,List.flatMap_cons,List.flatMap_cons,<-ih,e1,List.take_append,List.take_of_length_le (by rw[hu];omega),hu,Nat.add_sub_cancel_left,Nat.add_assoc,List.drop_append,List.drop_of_length_le (by rw[hu];omega),List.nil_append,hu,Nat.add_sub_cancel_left];simp only[List.append_assoc]
def R1 (n p seed v:Nat):List OG:=(List.range n).map λu=>if u<v then addN p (List.replicate (2^p) 0) (WE seed u) else List.replicate (2^p) 0
theorem RP (n p seed v:Nat):(R1 n p seed v).length=n:=by simp[R1]
def z4J {n p seed v:Nat}(hv:v<n):(R1 n p seed v).set v (addN p (List.replicate (2^p) 0) (WE seed v))=R1 n p seed (v+1):=by
 refine List.ext_getElem? λj=>?_
 by_cases hj:j<n
 ·have e:∀v,(R1 n p seed v)[j]? =some (if j<v then addN p (List.replicate (2^p) 0) (WE seed j) else List.replicate (2^p) 0):=λv=>by
   unfold R1;rw[List.getElem?_map,List.getElem?_range hj];rfl
  by_cases c:v=j
  ·subst c;rw[List.getElem?_set_self (by rw[RP];exact hj),e,if_pos (by omega)]
  ·rw[List.getElem?_set_ne c,e,e];by_cases d:j<v
   ·rw[if_pos d,if_pos (by omega)]
   ·rw[if_neg d,if_neg (by omega)]
 ·rw[List.getElem?_eq_none (by rw[List.length_set,RP];omega),List.getElem?_eq_none (by rw[RP];omega)]
theorem z4B (n p seed:Nat):R1 n p seed 0=List.replicate n (List.replicate (2^p) 0):=by
 unfold R1
 rw[List.map_congr_left (g:=λ_=>List.replicate (2^p) (0:UInt8)) λu _=>if_neg (Nat.not_lt_zero _),List.map_const',List.length_range]
theorem z7s (n p seed:Nat):R1 n p seed n=(List.range n).map λv=>addN p (List.replicate (2^p) 0) (WE seed v):=
 List.map_congr_left λu hu=>if_pos (List.mem_range.1 hu)
theorem z5h (h:Ru TL G Q txt K X rr O_ a L (s,ys) w)(hp:4<=s.p/\s.p<=16){seed:Nat}(jv:seed<18446744073709551616)(hK:K<=800000000000)(hs:s.sk=R1 G.g.length s.p seed 0):Pm prog 41 [ptr rr 0,u64v seed] w λv w'=>v=I 0/\∃txt',Ru TL G Q txt' (K+mW s.p*G.g.length) X rr O_ a L ({s with sk:=R1 G.g.length s.p seed G.g.length},ys) w'/\(∀y:Int,y<(a:Int)\/(a:Int)+(L:Int)<=y->txt' y=txt y)/\Kp (λb=>¬X b) w w':=by
 have eT:=h.n
 have lN:=z1l hp
 obtain⟨vn,vx,vs,hB⟩:=h.cells
 obtain⟨z,hz⟩:∃z:OG,List.replicate (2^s.p) 0=z:=⟨_,rfl⟩
 have J8:U6 s.p z:=by rw[<-hz];exact U6.none
 have Az:=λw=>z9V s.p hp w
 rw[hz] at Az
 have Na:∀v,v<G.g.length->(R1 G.g.length s.p seed v).set v (addN s.p z (WE seed v))=R1 G.g.length s.p seed (v+1):=λv hv=>by rw[<-hz];exact z4J hv
 refine py (e:=[(0,_),(1,_)]) func41 O ntmps41 O O$ qN O$ Qt O$ Pu O$ OX WM O$ qV (OO U3 O O hB O)$ P4 zkC O (Az _) ?_
 rintro _ w1 ⟨rfl,ad⟩
 have h1:=h.ext ad
 have aj:=ad.OC hB
 refine OK O$ RA O$ PU O$ PG O$ Pu O$ OX YH O$ qV (OO U30 O O aj O)$ P4 zar O (Xh h1.g) ?_
 rintro _ w1 ⟨rfl,rfl⟩
 refine OK O$ OD$ OH$ Rq (α:=Nat) (0) (λv=>[(0,ptr rr 0),(1,u64v seed),(5,S z),(6,I 0),(21,I (G.g.length:Int)),(22,I (v:Int))]) (λv w'=>v<=G.g.length/\(∃txt',Ru TL G Q txt' (K+mW s.p*v) X rr O_ a L ({s with sk:=R1 G.g.length s.p seed v},ys) w'/\∀y:Int,y<(a:Int)\/(a:Int)+(L:Int)<=y->txt' y=txt y)/\Kp (λb=>¬X b) w w') (λv=>G.g.length-v) ?hI ?hround
 case hI=>exact⟨Nat.zero_le _,⟨txt,by rw[<-hs];exact h1,λ_ _=>rfl⟩,ad.kp⟩
 case hround=>
  rintro v w4 ⟨hv,⟨txt4,h4,oZ⟩,ao⟩ ih
  try dsimp only
  refine qN O$ Qq O$ OD$ It$ OQ O (λh0=>?_)$ λh0=>?_
  ·have eg:v<G.g.length:=by omega
   have dv:mW s.p*v<=8192*40:=Nat.mul_le_mul lN.2 (by omega);refine OE$ Qx$ Pf O$ Qt O$ OU O$ PG O$ Ri O$ OD$ OS O$ OL O$ P8 O$ OK O$ qV ((PZ O U3 Rr (by omega)))$ P4 zlz O (zca seed v jv (by omega) _) ?_;rintro _ w4 ⟨rfl,rfl⟩;have J9:=λw=>za3 J8 hp (zcD seed v) w;have GV:=J8.add hp (WE seed v);have GW:=Na v eg
   generalize WE seed v=hh at J9 GV GW
   refine P4 zkH O (J9 _) ?_;rintro _ w5 ⟨rfl,aT⟩
   generalize addN s.p z hh=x at GV GW
   have h5:=h4.ext aT;obtain⟨un,ux,us,an,ax,V⟩:=h5.bl;have aH:OR w5 rr [I (s.t:Int),.bool s.done,ptr G.k 0,I (s.p:Int),I (s.rounds:Int),ptr un 0,ptr ux 0,ptr us 0,.bool false] 100:=V.run;have jw:∀b,O_ b->¬¬(X b\/b=G.rb):=λb hb e=>e (.inl (h5.xr b hb));have oS:(UW (mW s.p) (R1 G.g.length s.p seed v)).length=G.g.length*mW s.p:=by rw[Ry,RP]
   have pW:v*mW s.p+mW s.p<=(UW (mW s.p) (R1 G.g.length s.p seed v)).length:=by
    rw[oS];have:=Nat.mul_le_mul_right (mW s.p) (show v+1<=G.g.length from eg);rw[Nat.add_mul,Nat.one_mul] at this;exact this
   have Ja:=z2N (cs:=[I (s.t:Int),.bool s.done,ptr G.k 0,I (s.rounds:Int),ptr un 0,ptr ux 0,ptr us 0,.bool false]) h5.g.sp h5.g.lt1 (by omega) hp aH (.inl (h5.xr _ V.o.1)) V.now (.inl (h5.xr _ V.o.2.1)) GV.1 pW;rw[z4n (by rw[RP];exact eg),GW] at Ja;refine OK O$ RA O$ RT O$ Qt O$ Ri O$ OD$ OS O$ OL O$ P8 O$ Pu O$ OX TU O$ qV (OO U98 O O aH O)$ P8 O$ P4 zil O (Ja) ?_;rintro _ w6 ⟨rfl,iq⟩;obtain⟨txt6,j4,GU,s6,aP⟩:=iq;have V6:=V.ziZ aP jw GU (by show(R1 _ _ _ _).length=(R1 _ _ _ _).length;rw[RP,RP]) s6;have lD:=V.at_;have Ax:=V.L;dsimp only at lD Ax;rw[RP] at lD Ax;rw[Ry,RP,show 512 / 8=64 from rfl] at s6;have ox:∀y:Int,y<(a:Int)\/(a:Int)+(L:Int)<=y->txt6 y=txt4 y:=λy hy=>s6 y (by omega)
   have h6:Ru TL G Q txt6 (K+mW s.p*(v+1)) X rr O_ a L ({s with sk:=R1 G.g.length s.p seed (v+1)},ys) w6:=by
    rw[Nat.mul_add,Nat.mul_one,<-Nat.add_assoc];exact h5.Zu (by omega) aP (λb e=> .inl e) j4 ox ⟨un,ux,us,an,ax,V6⟩
   refine OU O$ OA$ OL O$ PV O$ OK O$ OD ?_;exact(ih (v+1) _ ⟨by omega,⟨txt6,h6,λy hy=>by rw[ox y hy];exact oZ y hy⟩,(ao.trans aT.kp).trans (aP.OV λb e e2=>e (.inl e2))⟩ (by omega)).qb
  ·have eg:v=G.g.length:=by omega
   subst eg;refine ON O$ Pf O$ OU O$ OB func41 O ?_;exact⟨_,rfl,rfl,txt4,h4,oZ,ao⟩
end
section
variable {G:Yi}{w w':World}{Q:Rn}{txt txt':Int->OG}{K k:Nat}{X O_:Nat->Prop}{rr a L:Nat}{s:Si}{ys:List Nat}
theorem z7j {p:Nat}(hp:4<=p):RF 8 (mW p) (List.replicate (2^p) 0)=List.replicate (mW p) 0:=by
 have jI:=zaf hp
 refine List.ext_getElem? λj=>?_
 by_cases hj:j<mW p
 ·rw[z2q hj,List.getElem?_replicate,if_pos hj,List.drop_replicate,List.take_replicate,Nat.min_eq_left (by omega)];have:=Xj (w:=8) (n:=0) (by decide);rw[show Th 8 0=List.replicate 8 0 by decide] at this;rw[this]
 ·rw[List.getElem?_eq_none (by rw[Qn];omega),List.getElem?_eq_none (by rw[List.length_replicate];omega)]
theorem z5y {p:Nat}(hp:4<=p):∀n,UW (mW p) (List.replicate n (List.replicate (2^p) 0))=List.replicate (n*mW p) 0
 |0=>by simp[UW]
 | n + 1 => by
   have ih:=z5y hp n;unfold UW at*;rw[List.replicate_succ,List.flatMap_cons,ih,z7j hp,List.replicate_append_replicate,Nat.add_mul,Nat.one_mul,Nat.add_comm]
def z1t {be bs n:Nat}(hP:Sp Q txt K X w)(hX:∀b,X b->b<w.heap.size)(hK:K<=800000000000)(dR:Pre Q.L a)(hn:n<=4194304)(cd:a+Rl n 64<=Q.L.length)(er:OR w be [I 0] 36)(iS:OR w bs [ptr Q.s 0] 29)(Nb:X be):Pm prog 38 ([I (n:Int)]++[ptr be 0,ptr bs 0]) w λv w'=>∃vb txt' w1,v=ptr vb 0/\w.heap.size<=vb/\Sp (Q.Qj (Qh Q.L a (Rl n 64) true)) txt' (K+Rl n 64) (λb=>X b\/b=vb) w1/\Tz (Q.Qj (Qh Q.L a (Rl n 64) true)) txt' vb 8 a (List.replicate n 0) w1/\(∀y:Int,y<(a:Int)\/(a:Int)+(Rl n 64:Int)<=y->txt' y=txt y)/\Kp (λb=>¬X b) w w1/\Kp (λb=>b=be) w1 w'/\OR w' be [I 0] 36:=by
 have Az:=z9S hP hX hK dR n 8 hn (by omega) (by rw[show 512 / 8=64 from rfl];exact cd)
 rw[show 512 / 8=64 from rfl] at Az
 refine py (e:=[(0,_),(1,_),(2,_)]) func38 O ntmps38 O O$ QB O$ It$ qN O$ qV ((OO U36 O O er O))$ Qf O$ PW O$ qN O$ qV ((OO XF O O iS O))$ OK O$ P4 zkl O (Az) ?_
 rintro _ w1 ⟨vb,txt1,rfl,dl,j3,eU,nJ,aL⟩
 have GX:=aL.OC er (λe=>e Nb)
 refine OK O$ RA O$ RT O$ Qt O$ OW O (QQ z29 O O O GX (by simp)) ?_
 rintro w2 ⟨GY,aq⟩
 refine qM O$ OK O$ OU O$ OB func38 O ?_
 exact⟨_,rfl,vb,txt1,w1,rfl,dl,j3,eU,nJ,aL,aq,GY⟩
def blL (n p:Nat):Nat:=2*Rl (n*mW p) 64+Rl n 64
def WW (h:S3 G Q txt K X w)(hK:K<=600000000000)(eT:G.g.length<=40)(dR:Pre Q.L a)(Nc:G.st+G.len<=a){p rounds seed:Nat}(hp:4<=p/\p<=16)(hr:1<=rounds/\rounds<=1000)(jv:seed<18446744073709551616)(cd:a+blL G.g.length p<=Q.L.length):Pm prog 8 [ptr Q.s 0,ptr G.k 0,I (p:Int),I (rounds:Int),u64v seed] w λv w'=>∃(rr:Nat) (O_:Nat->Prop) (txt':Int->OG) (ys:List Nat),v= .tuple #[ptr rr 0,I 0]/\(∀b,O_ b->w.heap.size<=b)/\Ru TL G (Q.Qj (Qh Q.L a (blL G.g.length p) true)) txt' (K+blL G.g.length p+mW p*G.g.length) (λb=>X b\/O_ b) rr O_ a (blL G.g.length p) (Si.new G.g p rounds seed,ys) w'/\(∀y:Int,y<(a:Int)\/(a:Int)+(blL G.g.length p:Int)<=y->txt' y=txt y)/\Kp (λb=>¬X b) w w':=by
 have jI:=zaf hp.1
 have lN:=z1l hp
 have hN:2^p<=2^16:=Nat.pow_le_pow_right (by decide) hp.2
 have J6:G.g.length*2^p<=40*2^16:=Nat.mul_le_mul eT hN
 have N8:G.g.length*mW p<=40*8192:=Nat.mul_le_mul eT lN.2
 have eU:=X4 (n:=G.g.length*mW p) (b:=5120) (by omega) (by decide)
 have jX:=X4 (n:=G.g.length) (b:=1) (by omega) (by decide)
 have Nd:G.g.length*2^p=G.g.length*mW p*8:=by rw[<-jI,Nat.mul_assoc]
 have Jb:blL G.g.length p=2*Rl (G.g.length*mW p) 64+Rl G.g.length 64:=rfl
 obtain⟨l,hl⟩:∃l,Rl (G.g.length*mW p) 64=l:=⟨_,rfl⟩
 obtain⟨ls,eI⟩:∃ls,Rl G.g.length 64=ls:=⟨_,rfl⟩
 have qD:=h.lt
 have se:=h.xk
 refine py (e:=[(0,_),(1,_),(2,_),(3,_),(4,_)]) func8 O ntmps8 O O$ qN O$ OM O O (Rm O (cs:=[ptr Q.s 0]) O) ?_
 rintro _ w1 ⟨bs,rfl,tO,ad,js⟩
 refine PU O$ Qx$ qN O$ qV (OO XF O O js O)$ qV (Qi XF O O)$ P8 O$ qV (Qi U30 O O)$ PK O$ OU O$ OJ O$ Pf O$ Qq O$ PF$ P8 O ?_
 refine Qu O$ PF$ PK O$ P8 O$ Qq O$ PF$ PK O$ P8 O$ Qu O$ PF$ PK O$ OU O$ Pn.qb (e:=[(1,_),(2,_),(3,_),(4,_),(5,_),(10,_),(11,_),(23,_)]) ?_
 refine Tu O$ OA$ Qm O$ OK O$ qV (Sk (cs:=[_,_,_,_,_,_,_,_,_]) zhH O zgH O O)$ OM O O (Rm O (cs:=[I 0,.bool false,ptr G.k 0,I (p:Int),I (rounds:Int),.pointer none,.pointer none,.pointer none,.bool false]) O) ?_
 rintro _ w2 ⟨rr,rfl,mH,ae,AA⟩
 refine Qw O$ OM O O (RN (cs:=[_]) z29 O) ?_
 rintro _ w3 ⟨be,rfl,vP,ai,AB⟩
 refine OW O (QQ z29 O O O AB (by simp)) ?_
 rintro w4 ⟨uQ,ao⟩
 replace uQ:OR w4 be [I 0] 36:=uQ
 have z1:=ad.size
 have z2:=ae.size
 have z3:=ai.size
 have z4:=ao.size
 have q1:=js.lt
 have q2:=AA.lt
 have q3:=AB.lt
 have bF:Ext w w4:=((ad.trans ae).trans ai).An ao λj e=>by omega
 have eP:=ao.OC (ai.OC (ae.OC js)) (by omega)
 have qB:=ao.OC (ai.OC AA) (by omega)
 obtain⟨X0,uJ⟩:∃X0:Nat->Prop,(λj=>X j\/j=rr\/j=be\/j=bs)=X0:=⟨_,rfl⟩
 have eB:∀j,X j->X0 j:=λj hj=>by rw[<-uJ];exact .inl hj
 have aU:X0 rr/\X0 be/\X0 bs:=by rw[<-uJ];exact⟨.inr (.inl O),.inr (.inr (.inl O)),.inr (.inr (.inr O))⟩
 have h4:S3 G Q txt K X0 w4:=h.grow bF (λj hj=>by rw[<-uJ] at hj;exact hj.imp id λe=>by omega) eB
 have mw:∀j,w.heap.size<=j->j≠G.k/\j≠G.x/\j≠2/\j≠3:=λj hj=>by
  have b1:=qD _ se.1;have b2:=qD _ se.2.1;have b3:=qD _ se.2.2.1;have b4:=qD _ se.2.2.2;exact⟨by omega,by omega,by omega,by omega⟩
 refine qM O$ qV (ymf (first:=[]) (caps:=[.tmp 13,.tmp 5]) O O)$ Qt O$ P4 zar O (Xh h4) ?_
 rintro _ w4 ⟨rfl,rfl⟩
 refine OK O$ qV (ysl p (2^p) O O (by omega) O (by omega)) ?_
 rw[Nd]
 refine qV (VI O O (by omega)) ?_
 rw[show((G.g.length*mW p*8:Nat):Int) / 8=((G.g.length*mW p:Nat):Int) by omega]
 have AC:=z1t h4.sp h4.lt1 (by omega) dR (n:=G.g.length*mW p) (by omega) (by rw[hl];omega) uQ eP (.inl aU.2.1)
 rw[hl] at AC
 refine Qw O$ P8 O$ P8 O$ OK O$ Qz O O (RY zfO O O) (AC) ?_
 rintro _ w5 ⟨v1,txt1,w5',rfl,Nf,fO,Aw,nJ,ak,qF,kI⟩
 obtain⟨Q1,xd⟩:∃Q1,Q.Qj (Qh Q.L a l true)=Q1:=⟨_,rfl⟩
 rw[xd] at fO Aw
 have oy:Q1.s=Q.s:=by rw[<-xd];rfl
 have uR:Q1.L=Qh Q.L a l true:=by rw[<-xd];rfl
 have fX:a+l<=Q.L.length:=by omega
 have oz:Q1.L.length=Q.L.length:=by rw[uR];exact PY fX
 have lI:Pre Q1.L (a+l):=by rw[uR];exact Wr dR fX
 have zz5:=ak.size
 have zz5':=qF.size
 have lv1:=Aw.lt
 have GZ:∀j,X0 j->(X0 j\/j=v1):=λj hj=> .inl hj
 have EO:S3 G Q1 txt1 (K+l) (λb=>X0 b\/b=v1) w5':=h4.zdM ak (λb e=>e) GZ (λj hj=>hj.imp id λe=>by omega) (fO.less λb e=>by rcases e with(e|e)|e;exact .inl (.inl e);exact .inr e;exact .inl (.inr e)) oy oz (by omega) (λy h1 h2=>nJ y (.inl (by omega)))
 have h5:=EO.own qF (λj e=>by rw[e];obtain⟨m1,m2,m3,m4⟩:=mw be (by omega);exact⟨.inl aU.2.1,m1,m2,m3,m4⟩)
 have H0:=Aw.kp qF (λe=>by omega)
 have uS:Kp (λb=>¬(X0 b\/b=G.rb)\/b=be) w4 w5:=(ak.OV λb e=> .inl e).trans (qF.OV λb e=> .inr e)
 have jr:=uS.OC eP (λe=>e.elim (λe=>e (.inl aU.2.2)) (by omega))
 have H1:=uS.OC qB (λe=>e.elim (λe=>e (.inl aU.1)) (by omega))
 have AD:=z1t (n:=G.g.length*mW p) (bs:=bs) h5.sp h5.lt1 (by omega) lI (by omega) (by rw[hl,oz];omega) kI (by rw[oy];exact jr) (.inl (.inl aU.2.1))
 rw[hl] at AD
 refine P8 O$ Qz O O (RY zfO O O) (AD) ?_
 rintro _ w6 ⟨v2,txt2,w6',rfl,Ng,j4,H2,pX,aP,qG,H3⟩
 obtain⟨Q2,xi⟩:∃Q2,Q1.Qj (Qh Q1.L (a+l) l true)=Q2:=⟨_,rfl⟩
 rw[xi] at j4 H2
 have kK:Q2.s=Q.s:=by rw[<-xi];exact oy
 have uT:Q2.L=Qh Q1.L (a+l) l true:=by rw[<-xi];rfl
 have oD:a+l+l<=Q1.L.length:=by omega
 have kL:Q2.L.length=Q.L.length:=by rw[uT,PY oD];exact oz
 have AE:Pre Q2.L (a+l+l):=by rw[uT];exact Wr lI oD
 have zz6:=aP.size
 have zz6':=qG.size
 have lv2:=H2.lt
 have Nh:S3 G Q2 txt2 (K+l+l) (λb=>(X0 b\/b=v1)\/b=v2) w6':=h5.zdM aP (λb e=>e) (λj hj=> .inl hj) (λj hj=>hj.imp id λe=>by omega) (j4.less λb e=>by rcases e with(e|e)|e;exact .inl (.inl e);exact .inr e;exact .inl (.inr e)) (by rw[kK,oy]) (by rw[kL,oz]) (by omega) (λy h1 h2=>pX y (.inl (by omega)))
 have h6:=Nh.own qG (λj e=>by rw[e];obtain⟨m1,m2,m3,m4⟩:=mw be (by omega);exact⟨.inl (.inl aU.2.1),m1,m2,m3,m4⟩)
 have H4:=H2.kp qG (λe=>by omega)
 have qH:Kp (λb=>¬((X0 b\/b=v1)\/b=G.rb)\/b=be) w5 w6:=(aP.OV λb e=> .inl e).trans (qG.OV λb e=> .inr e)
 have jq:=qH.OC jr (λe=>e.elim (λe=>e (.inl (.inl aU.2.2))) (by omega))
 have H5:=qH.OC H1 (λe=>e.elim (λe=>e (.inl (.inl aU.1))) (by omega))
 have H6:Tz Q2 txt2 v1 8 a (List.replicate (G.g.length*mW p) 0) w6:=((H0.kp qH (λe=>e.elim (λe=>e (.inl (.inr O))) (by omega))).TH (λy e1 e2=>by
  rw[List.length_replicate,show 512 / 8=64 from rfl,hl] at e2
  exact pX y (.inl (by omega)))).q (by rw[kK,oy]) (by rw[kL,oz])
 refine P8 O$ P4 zar O (Xh h6) ?_
 rintro _ w6 ⟨rfl,rfl⟩
 have AF:=z1t (n:=G.g.length) (bs:=bs) h6.sp h6.lt1 (by omega) AE (by omega) (by rw[eI,kL];omega) H3 (by rw[kK];exact jq) (.inl (.inl (.inl aU.2.1)))
 rw[eI] at AF
 refine Qz O O (RY zfO O O) (AF) ?_
 rintro _ w7 ⟨v3,txt3,w7',rfl,Ni,rW,H7,qu,aC,eN,H8⟩
 obtain⟨Q3,qy⟩:∃Q3,Q2.Qj (Qh Q2.L (a+l+l) ls true)=Q3:=⟨_,rfl⟩
 rw[qy] at rW H7
 have uU:Q3.s=Q.s:=by rw[<-qy];exact kK
 have nw:a+l+l+ls<=Q2.L.length:=by omega
 have AG:Q3.L=Qh Q2.L (a+l+l) ls true:=by rw[<-qy];rfl
 have uV:Q3.L.length=Q.L.length:=by rw[AG,PY nw];exact kL
 have AH:a+(2*l+ls)<=Q.L.length:=by omega
 have H9:Q3=Q.Qj (Qh Q.L a (2*l+ls) true):=by
  have e:Q3.L=Qh Q.L a (2*l+ls) true:=by
   rw[AG,uT,uR];refine List.ext_getElem? λi=>?_;have g1:(Qh Q.L a l true).length=Q.L.length:=PY fX;have g2:(Qh (Qh Q.L a l true) (a+l) l true).length=Q.L.length:=by rw[PY (by rw[g1];omega),g1]
   rw[Re (by rw[g2];omega),Re (by rw[g1];omega),Re fX,Re AH];by_cases c1:a+l+l<=i/\i<a+l+l+ls
   ·rw[if_pos c1,if_pos (by omega)]
   ·rw[if_neg c1];by_cases c2:a+l<=i/\i<a+l+l
    ·rw[if_pos c2,if_pos (by omega)]
    ·rw[if_neg c2];by_cases c3:a<=i/\i<a+l
     ·rw[if_pos c3,if_pos (by omega)]
     ·rw[if_neg c3,if_neg (by omega)]
  rw[<-e,<-qy,<-xi,<-xd];rfl
 have zz7:=aC.size
 have zz7':=eN.size
 have lv3:=H7.lt
 have Es:S3 G Q3 txt3 (K+l+l+ls) (λb=>((X0 b\/b=v1)\/b=v2)\/b=v3) w7':=h6.zdM aC (λb e=>e) (λj hj=> .inl hj) (λj hj=>hj.imp id λe=>by omega) (rW.less λb e=>by rcases e with(e|e)|e;exact .inl (.inl e);exact .inr e;exact .inl (.inr e)) (by rw[uU,kK]) (by rw[uV,kL]) (by omega) (λy h1 h2=>qu y (.inl (by omega)))
 have h7:=Es.own eN (λj e=>by rw[e];obtain⟨m1,m2,m3,m4⟩:=mw be (by omega);exact⟨.inl (.inl (.inl aU.2.1)),m1,m2,m3,m4⟩)
 have Ha:=H7.kp eN (λe=>by omega)
 have eJ:Kp (λb=>¬(((X0 b\/b=v1)\/b=v2)\/b=G.rb)\/b=be) w6 w7:=(aC.OV λb e=> .inl e).trans (eN.OV λb e=> .inr e)
 have uW:=eJ.OC H5 (λe=>e.elim (λe=>e (.inl (.inl (.inl aU.1)))) (by omega))
 have Hb:Tz Q3 txt3 v1 8 a (List.replicate (G.g.length*mW p) 0) w7:=((H6.kp eJ (λe=>e.elim (λe=>e (.inl (.inl (.inr O)))) (by omega))).TH (λy e1 e2=>by
  rw[List.length_replicate,show 512 / 8=64 from rfl,hl] at e2
  exact qu y (.inl (by omega)))).q (by rw[uU,kK]) (by rw[uV,kL])
 have Hc:Tz Q3 txt3 v2 8 (a+l) (List.replicate (G.g.length*mW p) 0) w7:=((H4.kp eJ (λe=>e.elim (λe=>e (.inl (.inr O))) (by omega))).TH (λy e1 e2=>by
  rw[List.length_replicate,show 512 / 8=64 from rfl,hl] at e2
  exact qu y (.inl (by omega)))).q (by rw[uU,kK]) (by rw[uV,kL])
 replace uW:OR w7 rr [I 0,.bool false,ptr G.k 0,I (p:Int),I (rounds:Int),.pointer none,.pointer none,.pointer none,.bool false] 100:=uW
 refine Pu O$ OX TU O$ OW O (QQ YS O O O uW (by simp)) ?_
 rintro w8 ⟨uL,aR⟩
 refine Pu O$ OX Xq O$ OW O (QQ YS O O O uL (by simp)) ?_
 rintro w9 ⟨Hd,aM⟩
 refine Pu O$ OX Ve O$ OW O (QQ YS O O O Hd (by simp)) ?_
 rintro w10 ⟨oA,ar⟩
 replace oA:OR w10 rr [I 0,.bool false,ptr G.k 0,I (p:Int),I (rounds:Int),ptr v1 0,ptr v2 0,ptr v3 0,.bool false] 100:=oA
 have gL:Kp (λj=>j=rr) w7 w10:=(aR.trans aM).trans ar
 have zz10:=gL.size
 have sg:=gL.OC H8 (by omega)
 obtain⟨O_,hO⟩:∃O_:Nat->Prop,(λb=>b=rr\/b=v1\/b=v2\/b=v3)=O_:=⟨_,rfl⟩
 have He:O_ rr/\O_ v1/\O_ v2/\O_ v3:=by rw[<-hO];exact⟨.inl O,.inr (.inl O),.inr (.inr (.inl O)),.inr (.inr (.inr O))⟩
 have uX:∀b,O_ b->w.heap.size<=b/\b≠be:=λb hb=>by rw[<-hO] at hb;omega
 obtain⟨Xb,iZ⟩:∃Xb:Nat->Prop,(λb=>((X0 b\/b=v1)\/b=v2)\/b=v3)=Xb:=⟨_,rfl⟩
 rw[iZ] at h7
 have AI:∀b,X b->Xb b:=λb hb=>by rw[<-iZ];exact .inl (.inl (.inl (eB b hb)))
 have AJ:Xb be:=by rw[<-iZ];exact .inl (.inl (.inl aU.2.1))
 have uY:∀b,O_ b->Xb b:=λb hb=>by
  rw[<-hO] at hb;rw[<-iZ];rcases hb with e|e|e| e
  ·exact .inl (.inl (.inl (e▸aU.1)))
  ·exact .inl (.inl (.inr e))
  ·exact .inl (.inr e)
  ·exact .inr e
 have Nj:UW (mW p) (R1 G.g.length p seed 0)=List.replicate (G.g.length*mW p) 0:=by rw[z4B,z5y hp.1]
 have qI:=RP G.g.length p seed 0
 have V10:ZE Q3 txt3 G.k rr O_ a (2*l+ls) ⟨p,rounds,0,false,R1 G.g.length p seed 0,List.replicate G.g.length 0⟩ (List.replicate (G.g.length*mW p) 0) v1 v2 v3 a (a+l) w10:=by
  refine⟨He,⟨by omega,by omega,by omega,by omega,by omega,by omega⟩,oA,?_,Hc.kp gL (λe=>by omega),?_,?_,?_,?_⟩
  ·show Tz Q3 txt3 v1 8 a (UW (mW p) (R1 G.g.length p seed 0)) w10;rw[Nj];exact Hb.kp gL (λe=>by omega)
  ·show Tz Q3 txt3 v3 8 (a+2*Rl ((R1 G.g.length p seed 0).length*mW p) 64) (List.replicate G.g.length 0) w10;rw[qI,hl,show a+2*l=a+l+l by omega];exact Ha.kp gL (λe=>by omega)
  ·show(List.replicate (G.g.length*mW p) 0).length=(R1 G.g.length p seed 0).length*mW p;rw[qI,List.length_replicate]
  ·show(a=a/\a+l=a+Rl ((R1 G.g.length p seed 0).length*mW p) 64)\/_;rw[qI,hl];exact .inl ⟨rfl,rfl⟩
  ·show 2*l+ls=2*Rl ((R1 G.g.length p seed 0).length*mW p) 64+Rl (List.replicate G.g.length 0).length 64;rw[qI,hl,List.length_replicate,eI]
 obtain⟨m1,m2,m3,m4⟩:=mw rr (by omega)
 have fd:Ru TL G Q3 txt3 (K+l+l+ls) Xb rr O_ a (2*l+ls) (⟨p,rounds,0,false,R1 G.g.length p seed 0,List.replicate G.g.length 0⟩,List.replicate (G.g.length*mW p) 0) w10:=
  ⟨h7.own gL (λj e=>by rw[e];exact⟨uY _ He.1,m1,m2,m3,m4⟩),⟨v1,v2,v3,a,a+l,V10⟩,uY,He.1,λb hb=>mw b (uX b hb).1,Nc,eT⟩
 refine OD$ Pn.qb (e:=[(4,_),(10,_),(11,_),(12,_),(13,_)]) ?_
 refine It$ qN O$ qV (OO U36 O O sg O)$ Ri O$ OD$ OS O$ OL O$ P8 O$ P4 zlb O (z5h fd hp jv (by omega) O) ?_
 rintro _ w11 ⟨rfl,txt11,lM,Hf,bu⟩
 have AK:=bu.OC sg (λe=>e AJ)
 refine OW O (QQ z29 O O O AK (by simp)) ?_
 rintro w12 ⟨oB,bh⟩
 replace oB:OR w12 be [I 0] 36:=oB
 refine OD$ It$ qN O$ qV (OO U36 O O oB O)$ Qf O$ PW O$ Pf O$ PU O$ OB func8 O ?_
 have xD:=lM.own bh (λj e=>by
  rw[e];obtain⟨m1,m2,m3,m4⟩:=mw be (by omega)
  exact⟨AJ,m1,m2,m3,m4,λe2=>(uX be e2).2 O⟩)
 have u9:=xD.less (X:=λb=>X b\/O_ b) (λb e=>e.elim (AI b) (uY b)) ⟨.inl se.1,.inl se.2.1,.inl se.2.2.1,.inl se.2.2.2⟩ (λb e=> .inr e)
 have cA:Si.new G.g p rounds seed=⟨p,rounds,0,false,R1 G.g.length p seed G.g.length,List.replicate G.g.length 0⟩:=by rw[z7s];rfl
 have ka:Kp (λb=>¬X b) w w5:=bF.kp.An uS λb e=>e.elim (λe=> .inr λe2=>e (.inl (eB b e2))) (λe=> .inl (by omega))
 have kb:Kp (λb=>¬X b) w w6:=ka.An qH λb e=>e.elim (λe=> .inr λe2=>e (.inl (.inl (eB b e2)))) (λe=> .inl (by omega))
 have kc:Kp (λb=>¬X b) w w7:=kb.An eJ λb e=>e.elim (λe=> .inr λe2=>e (.inl (.inl (.inl (eB b e2))))) (λe=> .inl (by omega))
 have kd:Kp (λb=>¬X b) w w10:=kc.An gL λb e=> .inl (by omega)
 have ke:Kp (λb=>¬X b) w w12:=(kd.trans (bu.OV λb e e2=>e (AI b e2))).An bh λb e=> .inl (by omega)
 refine⟨_,rfl,rr,O_,txt11,List.replicate (G.g.length*mW p) 0,rfl,λb hb=>(uX b hb).1,?_,λy hy=>?_,ke⟩
 ·rw[Jb,hl,eI,cA,<-H9,show K+(2*l+ls)=K+l+l+ls by omega];exact u9
 ·rw[Jb,hl,eI] at hy;rw[Hf y (by omega),qu y (by omega),pX y (by omega),nJ y (by omega)]
end
structure z1P {σ:Type}(R:RuK σ)(J:σ->Prop)(w0:World)(g:List (List Nat))(G3:Yi)(X3:Nat->Prop)(r2:Nat)(s2:σ)(B:Nat)(w:World):Prop where
 ex:∃G2 Q2 txt2 K2 X2 O2 a2 L2,UP R J w0 g G2 Q2 txt2 K2 X2 r2 O2 a2 L2 s2 w/\K2<=B/\(∀j,j<w.heap.size->X3 j\/X2 j)/\((∀b,O2 b->X3 b)/\X3 G2.k/\X3 G2.x)/\(X2 G3.k/\X2 G3.x)/\(∀b,O2 b->b≠G3.k/\b≠G3.x)
section
variable {σ:Type}{R:RuK σ}{J:σ->Prop}{w0 w w3 w4 w5:World}{g:List (List Nat)}{G G1 G2 G3:Yi}{Q Q1 Q2 Q3 Q':Rn}{txt txt1 txt2 txt3 txt':Int->OG}{K K1 K2 K3 K':Nat}{X X1 X2 X3 Y O1 O2:Nat->Prop}{r1 a1 r2 a2 a L L1 L2 B:Nat}{s s0 s1 s2:σ}
theorem z8d (h3:S3 G3 Q3 txt3 K3 X3 w3)(hz:w.heap.size<=w3.heap.size)(hX3:∀j,j<w.heap.size->X3 j)(hk3:w.heap.size<=G3.k/\w.heap.size<=G3.x)(h1:Ru R G1 Q1 txt1 K1 (λj=>X1 j\/(w.heap.size<=j/\j<w3.heap.size)) r1 O1 a1 L1 s1 w3)(hr:∀b,O1 b->b<w.heap.size)(hk:Kp (λb=>¬(X1 b\/(w.heap.size<=b/\b<w3.heap.size))\/O1 b) w3 w4):S3 G3 Q3 txt3 K3 (λj=>X3 j\/(w3.heap.size<=j/\j<w4.heap.size)) w4/\Kp (λb=>b<w.heap.size) w3 w4:=by
 have hx:=h1.g.xk
 have hS:∀j,j<w3.heap.size/\(¬(X1 j\/(w.heap.size<=j/\j<w3.heap.size))\/O1 j)->j<w.heap.size/\j≠2/\j≠3:=λj e=>by
  rcases e with⟨hj,e|e⟩
  ·refine⟨?_,λh=>e (h▸hx.2.2.1),λh=>e (h▸hx.2.2.2)⟩;rcases Nat.lt_or_ge j w.heap.size with h| h
   ·exact h
   ·exact absurd (.inr ⟨h,hj⟩) e
  ·have h4:=h1.ne j e;exact⟨hr j e,h4.2.2.1,h4.2.2.2⟩
 have hk':Kp (λj=>j<w3.heap.size/\(¬(X1 j\/(w.heap.size<=j/\j<w3.heap.size))\/O1 j)) w3 w4:=hk.mono λj h1 h2=>⟨h1,h2⟩
 refine⟨h3.step hk' (λj e=>?_) (λj e=>e) (λj e=> .inl e),hk'.OV λj e=>(hS j e).1⟩
 obtain⟨h1,h2,h3⟩:=hS j e
 exact⟨hX3 j h1,by omega,by omega,h2,h3⟩
theorem RuP.close (h:RuP R J w0 g r1 r2 s1 s2 w)(hx0:Ext w0 w)(hx:Ext w w3)(h3:S3 G3 Q3 txt3 K3 X3 w3)(hX3:∀j,j<w.heap.size->X3 j)(hk3:w.heap.size<=G3.k/\w.heap.size<=G3.x):∃G Q txt K X O1 a1 L1,Ru R G Q txt K X r1 O1 a1 L1 s1 w3/\2<=a1/\a1+L1<=Q.L.length/\(∀i,a1<=i->i<a1+L1->Q.L[i]? =some true)/\∀(w4:World) (txt':Int->OG),S3 G (Q.Qj (Qh Q.L a1 L1 false)) txt' K X w4->(∀y:Int,y<(a1:Int)\/(a1:Int)+(L1:Int)<=y->txt' y=txt y)->Kp (λb=>¬X b\/O1 b) w3 w4->
  Ext w0 w4/\∃X3',S3 G3 Q3 txt3 K3 X3' w4/\(∀j,X3 j->X3' j)/\Kp (λb=>b<w.heap.size) w3 w4/\z1P R J w0 g G3 X3' r2 s2 (ruB R s1 s2) w4:=by
 have hz:=hx.size
 have hlt3:=h3.lt
 have hxk3:=h3.xk
 have l3:=hlt3 _ hxk3.1
 have l4:=hlt3 _ hxk3.2.1
 cases h with
 | same G Q txt K X O1 a1 L1 O2 a2 L2 h1 h2 ha hn hK =>
   obtain⟨p1,p3,p4,-,-⟩:=h1.m.lts;obtain⟨q1,q3,q4,-,-⟩:=h2.m.lts;have h1':=h1.ext hx;have h2':=h2.ext hx;have hm:=h1'.m;have hfit:=h1.fit;refine⟨G,Q,txt,K,_,O1,a1,L1,hm,h1.a2,hfit,h1.own,λw4 txt' hG hy hk=>?_⟩;obtain⟨t1,t2⟩:=z8d h3 hz hX3 hk3 hm p1 hk;refine⟨h1'.new hk (hx0.trans hx),_,t1,λj e=> .inl e,t2,⟨G,_,txt',K,_,O2,a2,L2,h2'.other hG (λj e=>e) hk (λb e1 e2=>hn b e2 e1) O (PY hfit) (λy e1 e2=>hy y (by omega)) (λi e1 e2=>by show(Qh Q.L a1 L1 false)[i]? =some true;rw[Re hfit,if_neg (by omega)];exact h2.own i e1 e2),hK,λj hj=>?_,⟨λb hb=> .inl (hX3 _ (q1 b hb)),.inl (hX3 _ q3),.inl (hX3 _ q4)⟩,⟨.inr ⟨hk3.1,l3⟩,.inr ⟨hk3.2,l4⟩⟩,λb hb=>by have:=q1 b hb;omega⟩⟩;by_cases e1:j<w.heap.size
   ·exact .inl (.inl (hX3 j e1))
   ·by_cases e2:j<w3.heap.size
    ·exact .inr (.inr ⟨by omega,e2⟩)
    ·exact .inl (.inr ⟨by omega,hj⟩)
 | own G1 Q1 txt1 K1 X1 O1 a1 L1 G2 Q2 txt2 K2 X2 O2 a2 L2 h1 h2 hA hK1 hK2 =>
   obtain⟨p1,p3,p4,-,-⟩:=h1.m.lts;obtain⟨q1,q3,q4,-,-⟩:=h2.m.lts;have h1':=h1.ext hx;have h2':=h2.ext hx;have hm:=h1'.m
   have hA':RuA w3 G1 (λj=>X1 j\/(w.heap.size<=j/\j<w3.heap.size)) O1 G2 (λj=>X2 j\/(w.heap.size<=j/\j<w3.heap.size)) O2:=⟨λj hj=>by
    by_cases e1:j<w.heap.size
    ·exact(hA.cov j e1).imp .inl .inl
    ·exact .inr (.inr ⟨by omega,hj⟩),⟨λb hb=> .inl (hA.x1.1 b hb),.inl hA.x1.2.1,.inl hA.x1.2.2⟩,⟨λb hb=> .inl (hA.x2.1 b hb),.inl hA.x2.2.1,.inl hA.x2.2.2⟩,hA.n,hA.n1,hA.n2⟩
   refine⟨G1,Q1,txt1,K1,_,O1,a1,L1,hm,h1.a2,h1.fit,h1.own,λw4 txt' hG hy hk=>?_⟩;obtain⟨t1,t2⟩:=z8d h3 hz hX3 hk3 hm p1 hk;obtain⟨Y,hr2,-,hY⟩:=z3l hm h2' hA' hk;refine⟨h1'.new hk (hx0.trans hx),_,t1,λj e=> .inl e,t2,⟨G2,Q2,txt2,K2,Y,O2,a2,L2,hr2,hK2,λj hj=>?_,⟨λb hb=> .inl (hX3 _ (q1 b hb)),.inl (hX3 _ q3),.inl (hX3 _ q4)⟩,⟨hY _ (.inr ⟨hk3.1,l3⟩),hY _ (.inr ⟨hk3.2,l4⟩)⟩,λb hb=>by have:=q1 b hb;omega⟩⟩;by_cases e1:j<w.heap.size
   ·exact .inl (.inl (hX3 j e1))
   ·by_cases e2:j<w3.heap.size
    ·exact .inr (hY _ (.inr ⟨by omega,e2⟩))
    ·exact .inl (.inr ⟨by omega,hj⟩)
theorem z1P.pair (hS:z1P R J w0 g G3 X3 r2 s2 B w4)(h3:S3 G3 Q3 txt3 K3 X3 w4)(hgg:G3.g=g)(hk:Kp (λb=>¬X3 b) w4 w5)(hr:∀b,O1 b->w4.heap.size<=b)(htop:∀b,b<w0.heap.size->X3 b)(hz0:w0.heap.size<=w4.heap.size)(h1:Ru R G3 Q' txt' K' (λb=>X3 b\/O1 b) r1 O1 a L s0 w5)(ha2:2<=a)(hfit:a+L<=Q'.L.length)(hown:∀i,a<=i->i<a+L->Q'.L[i]? =some true)(hx:Ext w0 w5):
  ∀(w6:World) (txt6:Int->OG) (K6:Nat) (s:σ),Ru R G3 Q' txt6 K6 (λb=>X3 b\/O1 b) r1 O1 a L s w6->Kp (λb=>¬(X3 b\/O1 b)\/O1 b) w5 w6->J s->K6<=ruB R s s2->B<=ruB R s s2->RuP R J w0 g r1 r2 s s2 w6/\Ext w0 w6:=by
 intro w6 txt6 K6 s h6 hk6 hJ hK6 hB
 obtain⟨G2,Q2,txt2,K2,X2,O2,a2,L2,h2,hK2,hcov,hx3,hx2,hne⟩:=hS.ex
 obtain⟨q1,q3,q4,-,-⟩:=h2.m.lts
 have hz:=hk.size
 have hxk:=h3.xk
 obtain⟨l1,-⟩:=h1.lts
 have hnn:=h1.ne
 have hlt3:=h3.lt
 have g1:=hlt3 _ hxk.1
 have g2:=hlt3 _ hxk.2.1
 have h2':=h2.step (Y:=λj=>X2 j\/(w4.heap.size<=j/\j<w5.heap.size)) hk (λj hj e=>⟨(hcov j hj).resolve_left e,λh=>e (h▸hx3.2.1),λh=>e (h▸hx3.2.2),λh=>e (h▸hxk.2.2.1),λh=>e (h▸hxk.2.2.2),λh=>e (hx3.1 _ h)⟩) (λj e=> .inl e) (λj e=>e)
 have hA:RuA w5 G3 (λb=>X3 b\/O1 b) O1 G2 (λj=>X2 j\/(w4.heap.size<=j/\j<w5.heap.size)) O2:=⟨λj hj=>by
  by_cases e1:j<w4.heap.size
  ·exact(hcov j e1).imp .inl .inl
  ·exact .inr (.inr ⟨by omega,hj⟩),⟨λb hb=> .inl (hx3.1 b hb),.inl hx3.2.1,.inl hx3.2.2⟩,⟨λb hb=> .inr ⟨hr b hb,l1 b hb⟩,.inl hx2.1,.inl hx2.2⟩,λb e1 e2=>by have:=hr b e1;have:=q1 b e2;omega,λb e1=>by have:=hr b e1;omega,hne⟩
 obtain⟨Y,h2'',hA',-⟩:=z3l h1 h2' hA hk6
 have h1':UP R J w0 g G3 Q' txt6 K6 (λb=>X3 b\/O1 b) r1 O1 a L s w6:=⟨h6,hJ,hgg,λb hb=> .inl (htop b hb),λb hb=>by have:=hr b hb;omega,ha2,hfit,hown⟩
 refine⟨.own G3 Q' txt6 K6 _ O1 a L G2 Q2 txt2 K2 Y O2 a2 L2 h1' h2'' hA' hK6 (by omega),hx.An hk6 λb e=>?_⟩
 rcases Nat.lt_or_ge b w0.heap.size with h| h
 ·rcases e with e| e
  ·exact absurd (.inl (htop b h)) e
  ·have:=hr b e;omega
 ·exact h
end
def zgP {p:Nat}(h:p<=7):mW p<=16:=by
 have h2:2^p<=2^7:=Nat.pow_le_pow_right (by decide) h
 unfold mW
 omega
def zeI {n p:Nat}(hn:n<=40)(h:p<=7):Rl (n*mW p) 64<=10/\Rl n 64<=1/\blL n p<=21/\mW p*n<=640:=by
 have h1:=zgP h
 have h2:n*mW p<=40*16:=Nat.mul_le_mul hn h1
 have h3:=X4 (n:=n*mW p) (b:=10) (by omega) (by decide)
 have h4:=X4 (n:=n) (b:=1) (by omega) (by decide)
 refine⟨h3,h4,by unfold blL;omega,by rw[Nat.mul_comm];exact h2⟩
structure BtJ (g:List (List Nat))(p:Nat)(s:Si):Prop where
 j:BlJ g s
 pe:s.p=p
 r:s.rounds=50
 p7:p<=7
theorem BtJ.step {g:List (List Nat)}{p:Nat}{s:Si}(h:BtJ g p s)(hg:Se g)(hd:s.done=false):BtJ g p (s.step g):=⟨h.j.step hg hd,h.pe,h.r,h.p7⟩
theorem BtJ.t {g:List (List Nat)}{p:Nat}{s:Si}(h:BtJ g p s):s.t<=50:=by have h1:=h.j.le;have h2:=h.r;omega
def BtJ.lt {g:List (List Nat)}{p:Nat}{s:Si}(h:BtJ g p s)(hd:s.done=false):s.t<50:=by have h1:=h.j.lt hd;have h2:=h.r;omega
theorem zd3 {s:Si}{v:Nat}(hd:s.done=true)(hv:v<s.Qd.length):z4k s (v:Int)= .tuple #[u64v (s.Qd.getD v 0),I 0]:=by
 unfold z4k
 rw[if_neg (by rw[hd];decide),if_neg (by omega),show((v:Int)).toNat=v by omega]
section
variable {w0 w w' w3:World}{g:List (List Nat)}{p r1 r2:Nat}{s1 s2:Si}
abbrev BpP (w0:World)(g:List (List Nat))(p r1 r2:Nat)(s1 s2:Si)(w:World):Prop:=RuP BlK (BtJ g p) w0 g r1 r2 s1 s2 w
def RuP.zbB (h:BpP w0 g p r1 r2 s1 s2 w):BtJ g p s1/\g.length<=40:=by
 obtain⟨G,Q,txt,K,X,O1,a1,L1,h1,-,-⟩:=h.op1
 have hg:=h1.gg
 have hn:=h1.m.n
 rw[hg] at hn
 exact⟨h1.j,hn⟩
def z0d (h:BpP w0 g p r1 r2 s1 s2 w)(hx:Ext w0 w)(hok:Se g)(hd:s1.done=false)(hb:s2.t<=200):Pm prog 10 [ptr r1 0] w λv w'=>v= .tuple #[.bool (s1.step g).done,I 0]/\BpP w0 g p r1 r2 (s1.step g) s2 w'/\Ext w0 w':=by
 obtain⟨hI,hn⟩:=h.zbB
 have ht:=hI.t
 have hp:=hI.pe
 have hp7:=hI.p7
 have hm:=zgP (p:=s1.p) (by omega)
 obtain⟨G,Q,txt,K,X,O1,a1,L1,h1,hK,hP⟩:=h.op1
 have hgg:=h1.gg
 subst hgg
 change K<=3000+2000*(s1.t+s2.t) at hK
 obtain⟨ys,h1t⟩:=h1.m.told
 refine(VW h1t hI.j.i (by omega) (by omega) hd).mono ?_
 rintro v w' ⟨rfl,txt',h',hy,hk⟩
 exact⟨rfl,hP w' txt' _ _ ⟨h'.untold,hI.step hok hd,rfl,h1.top,h1.lo,h1.a2,h1.fit,h1.own⟩ hy hk (Nat.le_succ _) (by show K+40*(mW s1.p+1)<=3000+2000*(s1.t+1+s2.t);omega),h1.new hk hx⟩
def z0S (h:BpP w0 g p r1 r2 s1 s2 w)(hx:Ext w0 w)(hd:s1.done=true){u:Nat}(hu:u<g.length):Pm prog 15 [ptr r1 0,I (u:Int)] w λv w'=>v= .tuple #[u64v (s1.Qd.getD u 0),I 0]/\BpP w0 g p r1 r2 s1 s2 w'/\Ext w0 w':=by
 obtain⟨hI,hn⟩:=h.zbB
 obtain⟨G,Q,txt,K,X,O1,a1,L1,h1,hK,hP⟩:=h.op1
 have hgg:=h1.gg
 subst hgg
 obtain⟨ys,h1t⟩:=h1.m.told
 have hv:=z2A h1t (u:Int)
 rw[zd3 hd (by rw[hI.j.i.sn];exact hu)] at hv
 refine hv.mono ?_
 rintro v w' ⟨rfl,h',hk⟩
 have hk':Kp (λb=>¬X b\/O1 b) w w':=hk.OV λb e=> .inl λe2=>e (.inl e2)
 exact⟨rfl,hP w' txt K _ ⟨h'.untold,h1.j,rfl,h1.top,h1.lo,h1.a2,h1.fit,h1.own⟩ (λ_ _=>rfl) hk' (Nat.le_refl _) hK,h1.new hk' hx⟩
def z4y (h:BpP w0 g p r1 r2 s1 s2 w)(hx:Ext w0 w):Pm prog 20 [ptr r1 0] w λv w'=>v= .tuple #[S (blT s1),I 0]/\BpP w0 g p r1 r2 s1 s2 w'/\Ext w0 w':=by
 obtain⟨hI,hn⟩:=h.zbB
 obtain⟨G,Q,txt,K,X,O1,a1,L1,h1,hK,hP⟩:=h.op1
 have hgg:=h1.gg
 subst hgg
 obtain⟨ys,h1t⟩:=h1.m.told
 refine(z7b h1t hI.j.i).mono ?_
 rintro v w' ⟨rfl,h',hk⟩
 have hk':Kp (λb=>¬X b\/O1 b) w w':=hk.OV λb e=> .inl λe2=>e (.inl e2)
 exact⟨rfl,hP w' txt K _ ⟨h'.untold,h1.j,rfl,h1.top,h1.lo,h1.a2,h1.fit,h1.own⟩ (λ_ _=>rfl) hk' (Nat.le_refl _) hK,h1.new hk' hx⟩
def Z8 (h:BpP w0 g p r1 r2 s1 s2 w):Pm prog 22 [ptr r1 0] w λv w'=>v=I (s1.t:Int)/\w'=w:=by
 obtain⟨G,Q,txt,K,X,O1,a1,L1,h1,hK,hP⟩:=h.op1
 obtain⟨ys,h1t⟩:=h1.m.told
 exact z00 h1t
def z3N {G3:Yi}{Q3:Rn}{txt3:Int->OG}{K3:Nat}{X3:Nat->Prop}(h:BpP w0 g p r1 r2 s1 s2 w)(hx0:Ext w0 w)(hx:Ext w w3)(h3:S3 G3 Q3 txt3 K3 X3 w3)(hX3:∀j,j<w.heap.size->X3 j)(hk3:w.heap.size<=G3.k/\w.heap.size<=G3.x):Pm prog 16 [ptr r1 0] w3 λv w4=>v=I 0/\Ext w0 w4/\∃X3',S3 G3 Q3 txt3 K3 X3' w4/\(∀j,X3 j->X3' j)/\Kp (λb=>b<w.heap.size) w3 w4/\z1P BlK (BtJ g p) w0 g G3 X3' r2 s2 (3000+2000*(s1.t+s2.t)) w4:=by
 obtain⟨G,Q,txt,K,X,O1,a1,L1,hm,ha2,hfit,hown,hP⟩:=h.close hx0 hx h3 hX3 hk3
 obtain⟨ys,hmt⟩:=hm.told
 refine(z4f hmt ha2 hfit hown).mono ?_
 rintro v w4 ⟨rfl,txt',hg,-,hy,hk⟩
 exact⟨rfl,hP w4 txt' hg hy hk⟩
def z69 {G3:Yi}{Q3 Q':Rn}{txt3 txt':Int->OG}{K3 K' B a L:Nat}{X3 O1:Nat->Prop}{w4 w5:World}{s s0:Si}{ys:List Nat}(hS:z1P BlK (BtJ g p) w0 g G3 X3 r2 s2 B w4)(h3:S3 G3 Q3 txt3 K3 X3 w4)(hgg:G3.g=g)(hk:Kp (λb=>¬X3 b) w4 w5)(hr:∀b,O1 b->w4.heap.size<=b)(htop:∀b,b<w0.heap.size->X3 b)(hz0:w0.heap.size<=w4.heap.size)(h1:Ru TL G3 Q' txt' K' (λb=>X3 b\/O1 b) r1 O1 a L (s0,ys) w5)(ha2:2<=a)(hfit:a+L<=Q'.L.length)(hown:∀i,a<=i->i<a+L->Q'.L[i]? =some true)(hx:Ext w0 w5)(hK':K'<=2000)(hJ:BtJ g p s)(hJ0:Zc g s0)(hp0:s0.p=p)(hr0:s0.rounds=50)(hB:B<=3000+2000*(s.t+s2.t)):
  Pm prog 21 [ptr r1 0,S (blT s)] w5 λv w6=>v=I 0/\BpP w0 g p r1 r2 s s2 w6/\Ext w0 w6:=by
 have hn:=h1.n
 rw[hgg] at hn
 have hp:=hJ.pe
 have hp7:=hJ.p7
 have hrr:=hJ.r
 have ht:=hJ.t
 obtain⟨b1,b2,b3,b4⟩:=zeI (n:=g.length) (p:=s0.p) hn (by omega)
 have hl:=zc1 (s0:=s0) hJ.j.i (by omega) (by omega) (by omega)
 have hlo:=z7k h1 (by rw[hgg];exact hJ0) (by omega) (blT s)
 rw[hgg,hl] at hlo
 refine hlo.mono ?_
 rintro v w6 ⟨rfl,txt6,h6,hy6,hk6⟩
 exact⟨rfl,hS.pair h3 hgg hk hr htop hz0 ⟨h1.g,⟨_,h1.m⟩,h1.xr,h1.ro,h1.ne,h1.VF,h1.n⟩ ha2 hfit hown hx w6 txt6 _ s h6.untold hk6 hJ (by show K'+Rl (g.length*mW s0.p) 64+1<=3000+2000*(s.t+s2.t);omega) hB⟩
end
abbrev g3:List (List Nat):=[[1],[2],[]]
def z8D:Se g3:=⟨λl hl=>by
 simp only[List.mem_cons,List.not_mem_nil,or_false] at hl
 rcases hl with rfl|rfl|rfl<;>exact⟨by decide,by decide⟩,by decide,by decide⟩
def Yh (i:Nat):Si:=match i with
 |0=>Si.new g3 4 10 0
 |i+1=>(Yh i).step g3
def zgI:(Yh 0).done=false:=by decide+kernel
theorem zfG:(Yh 1).done=false:=by decide+kernel
theorem zgD:(Yh 2).done=false:=by decide+kernel
theorem zj1:(Yh 3).done=true:=by decide+kernel
def zfl:BlJ g3 (Yh 0):=BlJ.new g3 (by decide) (by decide)
def zeK:BlJ g3 (Yh 1):=zfl.step z8D zgI
def zel:BlJ g3 (Yh 2):=zeK.step z8D zfG
theorem zcF:BlJ g3 (Yh 3):=zel.step z8D zgD
theorem zkv:(Yh 3).t=3:=rfl
def zkM:(((Yh 3).sk.getD 0 []).getD 0 0).toNat≠0/\(((Yh 3).sk.getD 0 []).getD 6 0).toNat≠0/\(((Yh 3).sk.getD 0 []).getD 14 0).toNat≠0/\((Yh 3).sk.getD 0 []).length=16:=by decide+kernel
theorem zkF:(Yh 3).Qd.getD 2 0=0:=by decide+kernel
def z4v {w:World}(hG:OR w 2 (Sy .gamma) 317)(hU:OR w 3 (Sy .unary) 317):Pm prog 19 [] w λv w'=>v= .bool true/\Ext w w':=by
 refine py (e:=[]) func19 O ntmps19 O O$ qN O$ Qw O$ OM O O (Wj (cs:=[_]) (zs:=[Value.int .u32 0]) Ps OP O (by kernel_rfl) O O O (by decide)) ?_
 rintro _ w1 ⟨b1,rfl,⟨bU,ad,aj⟩,jJ⟩
 refine OM O O (Wj (cs:=[_]) (zs:=[Value.int .u32 0]) Ps OP O (by kernel_rfl) O O O (by decide)) ?_
 rintro _ w2 ⟨b2,rfl,⟨cn,ae,am⟩,cH⟩
 refine OM O O (Wj (cs:=[_,_,_]) (zs:=[Value.slice none 0 0,Value.slice none 0 0,Value.slice none 0 0]) WR SO O (by kernel_rfl) O O O (by decide)) ?_
 rintro _ w4 ⟨b4,rfl,⟨fC,aD,aK⟩,dO⟩
 have lu:GrM w4 (.slice (some ⟨b4,0,none⟩) 3 3) g3:=by
  refine⟨⟨_,dO.rd,λi l hl=>?_⟩⟩
  match i,hl with
  | 0, hl =>
    cases hl
    exact⟨_,_,rfl,Nat.le_refl _,(jJ.rd.ext ae).ext aD⟩
  | 1, hl =>
    cases hl
    exact⟨_,_,rfl,Nat.le_refl _,cH.rd.ext aD⟩
  | 2, hl =>
    cases hl
    exact⟨none,0,rfl,Nat.le_refl _,⟨rfl,.inl ⟨(none,0),rfl,rfl⟩⟩⟩
  |i+3,hl=>cases hl
 have bF:=(ad.trans ae).trans aD
 have z4:=bF.size
 refine P4 cf7 O (z8I (g:=g3) z8D (by decide) (by decide) lu (bF.OC hG) (bF.OC hU) 2 0 (by decide) (by decide)) ?_
 rintro _ w5 ⟨W,XX,rfl,hW,aT,eB⟩
 have bL:=bF.trans aT
 have z5:=bL.size
 refine OK O$ RA O$ OM O O (RN (cs:=[_,_,_,_,_]) z0p O) ?_
 rintro _ w6 ⟨b6,rfl,jQ,aI,aQ⟩
 have z6:=aI.size
 refine OW O (PO (news:=W.v) z0p O O O O aQ (by simp)) ?_
 rintro w7 ⟨bP,aC⟩
 have g8:OR w7 b6 [ptr W.d 0,ptr W.Q.s 0,ptr W.G.k 0,ptr W.T.k 0,I ((200-W.a:Nat):Int)] 32:=bP
 have l7:=bP.lt
 have z7:=aC.size
 have i8:=hW.hg.lt
 have iU:=hW.hg.xk
 have i1:=i8 _ iU.1
 have i2:=i8 _ iU.2.1
 have i3:=i8 _ iU.2.2.1
 have i4:=i8 _ iU.2.2.2
 obtain⟨X,hX⟩:∃X:Nat->Prop,(λb=>(XX b/\b≠W.G.rb)\/b=b6)=X:=⟨_,rfl⟩
 have mN:S3 W.G W.Q W.txt W.K X w7:=by
  rw[<-hX];exact(hW.hg.grow aI (Y:=λb=>(XX b/\b≠W.G.rb)\/b=b6) (λj e=>e.imp id λe=>by have:=aQ.lt;omega) (λj e=> .inl e)).own aC λj e=>by subst e;exact⟨.inr O,by omega,by omega,by omega,by omega⟩
 have sh:∀b,b<w.heap.size->X b:=λb hb=>by rw[<-hX];exact .inl ⟨(eB b (by omega)).1,(eB b (by omega)).2.1⟩
 have ah:=hW.gg
 have dI:W.G.g.length=3:=by rw[ah];rfl
 have ha:=hW.a
 have hL:=hW.L
 have Nk:=hW.K
 have Nl:=hW.gs
 have vp:=hW.ts
 have fD:blL W.G.g.length 4=3:=by rw[dI];decide
 refine Qw O$ OX z3s O$ qV (OO XF O O g8 O)$ OX z3K O$ qV (OO U30 O O g8 O)$ P4 cf8 O (WW mN (by omega) (by omega) hW.pre (by omega) (p:=4) (rounds:=10) (seed:=0) (by decide) (by decide) (by decide) (by omega)) ?_
 rintro _ w8 ⟨rr,O_,txt8,ys8,rfl,hO,h8,A9,aR⟩
 have tM:mW 4=2:=by decide
 rw[ah] at h8
 have ge:Ext w w7:=(bL.trans aI).An aC λb e=>by omega
 have oq:Ext w w8:=ge.An aR λb e=>by
  rcases Nat.lt_or_ge b w.heap.size with h| h
  ·exact absurd (sh b h) e
  ·exact h
 obtain⟨Y,hY⟩:∃Y:Nat->Prop,(λb=>X b\/O_ b)=Y:=⟨_,rfl⟩
 rw[hY] at h8
 have ww:=ge.size
 have Jc:∀b,b<w.heap.size->Y b/\¬O_ b:=λb hb=>⟨by rw[<-hY];exact .inl (sh b hb),λe=>by have:=hO b e;omega⟩
 have eW:∀{w1 w2:World},Ext w w1->Kp (λb=>¬Y b\/O_ b) w1 w2->Ext w w2:=λhx hk=>hx.An hk λb e=>by
  rcases Nat.lt_or_ge b w.heap.size with h| h
  ·exact e.elim (λe=>absurd (Jc b h).1 e) (λe=>absurd e (Jc b h).2)
  ·exact h
 have dB:∀{w1 w2:World},Ext w w1->Kp (λb=>¬(Y b\/b=W.G.rb)) w1 w2->Ext w w2:=λhx hk=>eW hx (hk.OV λb e=> .inl λe2=>e (.inl e2))
 change Ru TL W.G _ _ _ Y rr O_ W.a _ (Yh 0,ys8) w8 at h8
 have Hg:blL g3.length 4=3:=by decide
 have Hh:g3.length=3:=rfl
 obtain⟨K8,Ou,h8⟩:∃K8,K8<=1000/\Ru TL W.G (W.Q.Qj (Qh W.Q.L W.a (blL g3.length 4) true)) txt8 K8 Y rr O_ W.a (blL g3.length 4) (Yh 0,ys8) w8:=⟨W.K+blL g3.length 4+mW 4*g3.length,by rw[Hg,tM,Hh];omega,h8⟩
 have s1:=VW h8 (by rw[ah];exact zfl.i) (by decide) (by omega) zgI
 rw[ah,show mW (Yh 0).p=2 from tM] at s1
 rw[show(Yh 0).step g3=Yh 1 from rfl,zfG] at s1
 refine OK O$ RA O$ PU O$ PG O$ qV ((Sb O)) ?_
 rw[show(!true)=false from rfl]
 refine P8 O$ Qf O$ PK O$ OD$ Pn.qb (e:=[(0,_),(3,_),(35,_)]) ?_
 refine Tu O$ Pf O$ P4 zbi O (s1) ?_
 rintro _ w9 ⟨rfl,txt9,h9,-,aM⟩
 have fg:=eW oq aM
 have s2:=VW h9 (by rw[ah];exact zeK.i) (by decide) (by omega) zfG
 rw[ah,show mW (Yh 1).p=2 from tM] at s2
 rw[show(Yh 1).step g3=Yh 2 from rfl,zgD] at s2
 refine OK O$ RA O$ RT O$ Qt O$ P4 zbi O (s2) ?_
 rintro _ w10 ⟨rfl,txt10,fd,-,ar⟩
 have bG:=eW fg ar
 have s3:=VW fd (by rw[ah];exact zel.i) (by decide) (by omega) zgD
 rw[ah,show mW (Yh 2).p=2 from tM] at s3
 rw[show(Yh 2).step g3=Yh 3 from rfl,zj1] at s3
 refine OK O$ RA O$ RT O$ Qt O$ P4 zbi O (s3) ?_
 rintro _ w11 ⟨rfl,txt11,lM,-,bu⟩
 have aS:=eW bG bu
 have uZ:=z7g lM (by rw[ah];exact zcF.i) 0
 have e1:z9t (Yh 3) 0= .tuple #[S ((Yh 3).sk.getD 0 []),I 0]:=by
  unfold z9t;rw[if_neg (by rw[zcF.i.n];decide)];rfl
 rw[e1] at uZ
 obtain⟨r0,r6,r14,rl⟩:=zkM
 generalize (Yh 3).sk.getD 0 []=z at uZ r0 r6 r14 rl
 refine OK O$ RA O$ RT O$ Qt O$ P4 zkO O (uZ) ?_
 rintro _ w12 ⟨rfl,xD,bh⟩
 have aF:=dB aS bh
 have qa:=z2A xD 2
 have e2:z4k (Yh 3) 2= .tuple #[u64v 0,I 0]:=by
  unfold z4k;rw[if_neg (by rw[zj1];decide),if_neg (by rw[zcF.i.sn];decide),show(2:Int).toNat=2 from rfl,zkF]
 rw[e2] at qa
 refine OK O$ RA O$ PU O$ Pn.qb (e:=[(0,_),(3,_),(5,_),(7,_),(9,_),(10,_),(11,_),(12,_)]) ?_
 refine Pf O$ P4 zfI O (qa) ?_
 rintro _ w13 ⟨rfl,u9,cY⟩
 have aO:=dB aF cY
 have AL:=z00 u9
 rw[zkv] at AL
 refine OK O$ RA O$ RT O$ Qt O$ qV ((Sb O))$ P8 O$ qV ((Sb O))$ QJ O$ P8 O$ QJ O$ P8 O$ Ri O$ QJ O$ P8 O ?_
 refine Ri O$ QJ O$ P8 O$ Ri O$ QJ O$ P8 O$ Ri O$ QJ O$ P8 O$ qV (SV U9 O)$ Ri O$ Rp$ QJ O$ P8 O ?_
 refine qV (z0n U9 O O (by omega))$ Qu O$ Rp$ QJ O$ P8 O$ qV (z0n U9 O O (by omega))$ Qu O$ Rp$ QJ O$ P8 O$ qV (z0n U9 O O (by omega))$ Qu O$ Rp$ QJ O ?_
 refine P8 O$ P4 zgs O (AL) ?_
 rintro _ w13 ⟨rfl,rfl⟩
 refine Ri O$ QJ O$ OU O$ Pn.qb (e:=[(0,_)]) ?_
 refine OB func19 O ?_
 exact⟨_,rfl,rfl,aO⟩
abbrev pl:Nat:=2147483648
structure zfK (g:List (List Nat)):Prop where
 sym:∀u v,u∈P5 g v->v∈P5 g u
 irr:∀v,v∉P5 g v
/-! ### Cores -/
def insL (x:Nat):List Nat->List Nat
 |[]=>[x]
 |y::l=>if x<y then x::y::l else if x=y then y::l else y::insL x l
theorem z0W {x z:Nat}:∀{l:List Nat},z∈insL x l↔z=x\/z∈l
 |[]=>by simp[insL]
 | y :: l => by
   have ih:=z0W (x:=x) (z:=z) (l:=l);unfold insL;by_cases h1:x<y
   ·rw[if_pos h1];simp
   ·rw[if_neg h1];by_cases h2:x=y
    ·rw[if_pos h2];subst h2;simp
    ·rw[if_neg h2];simp only[List.mem_cons,ih];constructor
     ·rintro(e|e|e)
      ·exact .inr (.inl e)
      ·exact .inl e
      ·exact .inr (.inr e)
     ·rintro(e|e|e)
      ·exact .inr (.inl e)
      ·exact .inl e
      ·exact .inr (.inr e)
def z2V {x:Nat}:∀{l:List Nat},List.Pairwise (·<·) l->List.Pairwise (·<·) (insL x l)
 |[],_=>by simp[insL]
 | y :: l, h => by
   obtain⟨h1,h2⟩:=List.pairwise_cons.1 h;unfold insL;by_cases e1:x<y
   ·rw[if_pos e1];refine List.pairwise_cons.2 ⟨λz hz=>?_,h⟩;rcases List.mem_cons.1 hz with e| e
    ·omega
    ·have:=h1 z e;omega
   ·rw[if_neg e1];by_cases e2:x=y
    ·rw[if_pos e2];exact h
    ·rw[if_neg e2];refine List.pairwise_cons.2 ⟨λz hz=>?_,z2V h2⟩;rcases z0W.1 hz with e| e
     ·omega
     ·exact h1 z e
def z2S {v:Nat}:∀{l:List Nat} {i:Nat},i<=l.length->(∀(j y:Nat),j<i->l[j]? =some y->y<v)->(∀y:Nat,l[i]? =some y->v<=y)->insL v l=if l[i]? =some v then l else l.take i++v::l.drop i
 | [], i, hi, _, _ => by
   have:i=0:=by simpa using hi
   subst this
   rfl
 | x :: l, 0, _, _, h2 => by
   have hx:=h2 x O;unfold insL;by_cases e:v<x
   ·rw[if_pos e,if_neg (by simp;omega)]
    rfl
   ·have:v=x:=by omega
    subst this;rw[if_neg e,if_pos O]
    exact(if_pos O).symm
 | x :: l, i + 1, hi, h1, h2 => by
   have hx:=h1 0 x (by omega) O;have ih:=z2S (v:=v) (l:=l) (i:=i) (by simpa using hi) (λj y hj hy=>h1 (j+1) y (by omega) (by simpa using hy)) (λy hy=>h2 y (by simpa using hy));unfold insL;rw[if_neg (by omega),if_neg (by omega),ih];have e:(x::l)[i+1]? =l[i]? :=by simp
   rw[e];split
   ·rfl
   ·rfl
def z3B (g:List (List Nat))(e:Nat×Nat):List (List Nat):=g.set e.1 (insL e.2 (P5 g e.1))
def z1a (n:Nat)(es:List (Nat×Nat)):List (List Nat):=es.foldl z3B (List.replicate n [])
theorem Zf {g:List (List Nat)}{u v:Nat}{l:List Nat}(hu:u<g.length):P5 (g.set u l) v=if u=v then l else P5 g v:=by
 unfold P5
 by_cases e:u=v
 ·subst e;rw[List.getElem?_set_self hu,if_pos O];rfl
 ·rw[List.getElem?_set_ne e,if_neg e]
structure ZD (n:Nat)(es:List (Nat×Nat))(g:List (List Nat)):Prop where
 len:g.length=n
 mem:∀v u,u∈P5 g v↔(v,u)∈es
 ZN:∀v,List.Pairwise (·<·) (P5 g v)
def ZD.new {n:Nat}:ZD n [] (List.replicate n []):=by
 have e:∀v,P5 (List.replicate n []) v=[]:=λv=>by
  unfold P5;rw[List.getElem?_replicate];split<;>rfl
 exact⟨by simp,λv u=>by rw[e];simp,λv=>by rw[e];exact List.Pairwise.nil⟩
theorem ZD.step {n:Nat}{es:List (Nat×Nat)}{g:List (List Nat)}(h:ZD n es g){e:Nat×Nat}(he:e.1<n):ZD n (es++[e]) (z3B g e):=by
 have hl:=h.len
 unfold z3B
 refine⟨by rw[List.length_set];exact hl,λv u=>?_,λv=>?_⟩
 ·rw[Zf (by omega),List.mem_append,List.mem_singleton];by_cases e2:e.1=v
  ·rw[if_pos e2,z0W,h.mem,e2];constructor
   ·rintro(e3|e3)
    ·right;subst e3;subst e2;rfl
    ·exact .inl e3
   ·rintro(e3|e3)
    ·exact .inr e3
    ·left;rw[<-e3]
  ·rw[if_neg e2,h.mem];constructor
   ·exact .inl
   ·rintro(e3|e3)
    ·exact e3
    ·exact absurd (by rw[<-e3]) e2
 ·rw[Zf (by omega)];split
  ·exact z2V (h.ZN _)
  ·exact h.ZN v
def zg7 {n:Nat}{es:List (Nat×Nat)}(h:∀e∈es,e.1<n):ZD n es (z1a n es):=by
 have key:∀(l p:List (Nat×Nat)) (g:List (List Nat)),ZD n p g->(∀e∈l,e.1<n)->ZD n (p++l) (l.foldl z3B g):=λl=>by
  induction l with
  |nil=>exact λp g hg _=>by rw[List.append_nil];exact hg
  | cons e l ih =>
    intro p g hg hl;rw[List.foldl_cons];have:=ih (p++[e]) _ (hg.step (hl e List.mem_cons_self)) (λx hx=>hl x (List.mem_cons_of_mem _ hx))
    rwa [List.append_assoc] at this
 exact key es [] _ ZD.new h
def ZD.gr {n:Nat}{es:List (Nat×Nat)}{g:List (List Nat)}(h:ZD n es g)(hn:n<=60)(he:∀e∈es,e.2<n):Se g:=by
 have hmem:∀l∈g,∃v,P5 g v=l:=λl hl=>by
  obtain⟨v,hv,e⟩:=List.getElem_of_mem hl;exact⟨v,by unfold P5;rw[List.getElem?_eq_getElem hv,e];rfl⟩
 have hlt:∀l∈g,∀y∈l,y<g.length:=λl hl y hy=>by
  obtain⟨v,rfl⟩:=hmem l hl;rw[h.len];exact he _ ((h.mem v y).1 hy)
 refine⟨λl hl=>⟨?_,λy hy=>?_⟩,hlt,by rw[h.len];exact hn⟩
 ·obtain⟨v,rfl⟩:=hmem l hl;exact h.ZN v
 ·have:=hlt l hl y hy;rw[h.len] at this;omega
def ZD.sym {n:Nat}{es:List (Nat×Nat)}{g:List (List Nat)}(h:ZD n es g)(h1:∀a b,(a,b)∈es->(b,a)∈es)(h2:∀a,(a,a)∉es):zfK g:=
 ⟨λu v hu=>(h.mem u v).2 (h1 v u ((h.mem v u).1 hu)),λv hv=>h2 v ((h.mem v v).1 hv)⟩
def z4c (g:List (List Nat)):List (Nat×Nat):=(List.range g.length).flatMap λu=>(P5 g u).flatMap λx=>if x=u then [] else [(x,u),(u,x)]
theorem YY {g:List (List Nat)}(hg:Se g)(a b:Nat):(a,b)∈z4c g↔a≠b/\(b∈P5 g a\/a∈P5 g b):=by
 have hl:∀{u x:Nat},x∈P5 g u->u<g.length:=fun {u x} hx=>by
  rcases Nat.lt_or_ge u g.length with e| e
  ·exact e
  ·unfold P5 at hx;rw[List.getElem?_eq_none e] at hx;cases hx
 unfold z4c
 simp only[List.mem_flatMap,List.mem_range]
 constructor
 ·rintro⟨u,hu,x,hx,h⟩;split at h
  ·cases h
  ·rename_i hxu
   simp only[List.mem_cons,List.not_mem_nil,or_false,Prod.mk.injEq] at h;rcases h with⟨rfl,rfl⟩|⟨rfl,rfl⟩
   ·exact⟨hxu,.inr hx⟩
   ·exact⟨λe=>hxu e.symm,.inl hx⟩
 ·rintro⟨hab,h|h⟩
  ·exact⟨a,hl h,b,h,by rw[if_neg (λe=>hab e.symm)];simp⟩
  ·exact⟨b,hl h,a,h,by rw[if_neg hab];simp⟩
def zcM (g:List (List Nat)):List (List Nat):=z1a g.length (z4c g)
def zdl {g:List (List Nat)}(hg:Se g):Se (zcM g)/\zfK (zcM g)/\(zcM g).length=g.length:=by
 have hb:∀e∈z4c g,e.1<g.length/\e.2<g.length:=λe he=>by
  obtain⟨a,b⟩:=e;obtain⟨-,h|h⟩:=(YY hg a b).1 he
  ·refine⟨?_,SY hg a b h⟩;rcases Nat.lt_or_ge a g.length with e| e
   ·exact e
   ·unfold P5 at h;rw[List.getElem?_eq_none e] at h;cases h
  ·refine⟨SY hg b a h,?_⟩;rcases Nat.lt_or_ge b g.length with e| e
   ·exact e
   ·unfold P5 at h;rw[List.getElem?_eq_none e] at h;cases h
 have hI:=zg7 (n:=g.length) (es:=z4c g) (λe he=>(hb e he).1)
 exact⟨hI.gr hg.n (λe he=>(hb e he).2),hI.sym (λa b h=>by
  rw[YY hg] at h⊢
  exact⟨λe=>h.1 e.symm,h.2.symm⟩) (λa h=>((YY hg a a).1 h).1 O),hI.len⟩
def zcU {w:World}{s:List Nat}{v:Nat}(Nm:s.length<=1000000){a:Option Addr}{c:Nat}(iz:s.length<=c)(hr:Rd w (.slice a s.length c) 1 s.length (s.map Pq)):Pm prog 95 [.slice a s.length c,Pq v] w λr w'=>∃a' c',r= .slice a' (insL v s).length c'/\(insL v s).length<=c'/\Rd w' (.slice a' (insL v s).length c') 1 (insL v s).length ((insL v s).map Pq)/\(∀b,(Value.slice a' (insL v s).length c').ownBlock=some b->(Value.slice a s.length c).ownBlock=some b\/w.heap.size<=b)/\Ext w w':=by
 have eu:maxLen=9223372036854775807:=rfl
 have aW:∀{k y:Nat},s[k]? =some y->∃lb lo,a=some ⟨lb,lo,none⟩/\w.cell? ⟨lb,lo+k*1,none⟩=some (Pq y):=fun {k y} hy=>by
  have ku:k<s.length:=by
   rcases Nat.lt_or_ge k s.length with h| h
   ·exact h
   ·rw[List.getElem?_eq_none h] at hy;cases hy
  rcases hr.2 with⟨⟨ca,cc⟩,gd,rM⟩|⟨lb,lo,cap,gd,cN⟩
  ·omega
  cases gd;exact⟨lb,lo,rfl,cN (k*1) _ (by rw[Nat.mul_one,List.getElem?_map,hy];rfl)⟩
 refine py (e:=[(0,_),(1,_)]) func95 O ntmps95 O O$ qN O$ Qw O$ OU O$ Qx$ RX (λe' w'=>∃k:Nat,e'=[(0,.slice a s.length c),(1,Pq v),(5,I (k:Int))]/\k<=s.length/\(∀j y,j<k->s[j]? =some y->y<v)/\(∀y,s[k]? =some y->v<=y)/\w'=w) ?jB$ λjB=>?uB
 case jB =>
  rintro e' w3 ⟨k,rfl,hk,i7,iQ,rfl⟩;have ZQ:=z2S hk i7 iQ;refine It$ It$ PI (λe' w'=>∃q,e'=[(0,.slice a s.length c),(1,Pq v),(5,I (k:Int)),(31,.bool q)]/\(q=true↔s[k]? =some v)/\w'=w3) ?ep$ λep=>?iT
  case ep =>
   rintro e' w4 ⟨q,rfl,oY,rfl⟩;refine Qe O (λqx=>?_)$ λqx=>?_
   ·rw[if_pos (oY.1 qx)] at ZQ;rw[ZQ];refine Pf O$ OU O$ OB func95 O ?_;exact⟨_,rfl,a,c,rfl,iz,hr,λb hb=> .inl hb,Ext.refl _⟩
   ·rw [if_neg (λe => by rw [oY.2 e] at qx; cases qx)] at ZQ; have ah := Ext.OT w4; have aY := ah.size
    have lE:((s.take k++[v])++s.drop k).length=s.length+1:=by
     rw[List.length_append,List.length_append,List.length_take,List.length_drop,List.length_singleton];omega
    have di:∀(l:List Nat),∀c∈l.map Pq,c.oneCell'=true:=λl c hc=>by obtain⟨z,-,rfl⟩:=List.mem_map.1 hc;rfl
    have jO:(s.take k).length=k:=by rw[List.length_take];omega
    have vB:(s.drop k).length=s.length-k:=List.length_drop ..;refine OE$ It$ R5 (λw'=>Ext w4 w') O$ OZ 1 O O (ah)$ OZ 2 O O (ah)$ OZ 5 O O (ah)$ OZ 8 O O (ah)$ OZ 9 O O (ah)$ OI 3 O (zaN Ps OP O O (by omega)) ah$ OI 10 O (XR Ps OP O O hk iz) ah$ ziY (i:=0) (j:=6) (by kernel_rfl) ?_ ?_
    ·refine RZ (i:=0) O O O (Wj (cs:=[]) (zs:=[]) Ps OP O (by kernel_rfl) O O O (by decide)) ?_;rintro v6 w6 ⟨b6,rfl,⟨jQ,aI,aQ⟩,ez⟩;refine⟨ah.trans aI,?_⟩;have A7:w4.heap.size<=b6:=by omega
     have lb6:=aQ.lt;have ah:=ah.trans aI
     try have bX:=bX.ext aI
     have aY:=Nat.le_trans aY aI.size;refine ziY (i:=4) (j:=6) (by kernel_rfl) ?_ ?_
     ·refine RZ (i:=4) O O O (pap Ps OP O (by decide) O O ez ((Ts (i:=k) hr hk).ext ah) (λc hc=>di s c (List.mem_of_mem_take hc)) (by omega) (by omega)) ?_;rintro v10 w10 ⟨bz,ar,bc,-⟩;refine⟨ah.An ar (λj e=>by have e:b6=j:=QU e;omega),?_⟩;have ah:=ah.An ar (λj e=>by have e:b6=j:=QU e;omega)
      try have bX:=bX.kp ar (λj hj e=>by have e:b6=j:=QU e;have hj:b16=j:=QU hj;omega)
      have bc:∀j,v10.ownBlock=some j->w4.heap.size<=j:=λj hj=>by rcases bc j hj with e|e;(have e:b6=j:=QU e;omega);omega
      have aY:=Nat.le_trans aY ar.size;have o9:=λ(j:Nat) (hj:v10.ownBlock=some j)=>bz.lt hj;refine qO 6$ RZ (i:=6) O O O (Wj (cs:=[_]) (zs:=[Value.int .u32 0]) Ps OP O (by kernel_rfl) O O O (by decide)) ?_;rintro v16 w16 ⟨b16,rfl,⟨oa,aX,eS⟩,bX⟩;refine⟨ah.trans aX,?_⟩;have oc:w4.heap.size<=b16:=by omega
      have ah:=ah.trans aX
      try have ez:=ez.ext aX
      try have bz:=bz.ext aX
      have lb16:=eS.lt;have aY:=Nat.le_trans aY aX.size;refine qO 7$ RZ (i:=7) O O O (pap Ps OP O (by decide) O O bz bX.rd (λc hc=>di [v] c hc) (by omega) (by omega)) ?_;rintro v17 w17 ⟨eh,ci,bK,-⟩;refine⟨ah.An ci (λj e=>bc j e),?_⟩;have ah:=ah.An ci (λj e=>bc j e);have bK:∀j,v17.ownBlock=some j->w4.heap.size<=j:=λj hj=>by rcases bK j hj with e|e;exact bc j e;omega
      have aY:=Nat.le_trans aY ci.size;refine qO 11$ RZ (i:=11) O O O (pap Ps OP O (by decide) O O eh ((Sx (i:=k) hr hk iz).ext ah) (λc hc=>di s c (List.mem_of_mem_drop hc)) (by omega) (by omega)) ?_;rintro v21 w21 ⟨bS,dM,cM,-⟩;refine⟨ah.An dM (λj e=>bK j e),?_⟩;have ah:=ah.An dM (λj e=>bK j e);have cM:∀j,v21.ownBlock=some j->w4.heap.size<=j:=λj hj=>by rcases cM j hj with e|e;exact bK j e;omega
      refine OI 12 O (R7 O) ah$ qE ?_;rw[show 0+k+1+(s.length-k)=(insL v s).length by rw[ZQ,List.length_append,List.length_cons,jO,vB];omega,show([]++List.take k (s.map Pq)++[Pq v]++List.drop k (s.map Pq))=(insL v s).map Pq by rw[ZQ];simp[List.map_take,List.map_drop]] at bS;obtain⟨ra,rc,rfl,-⟩:=bS.rd.shape
      have od:(insL v s).length<=rc:=by
       rcases bS.shape with⟨e1,e2⟩|⟨gg,cc,e1,e2⟩
       ·omega
       ·cases e1;exact e2
      refine OB func95 O ?_;exact⟨_,rfl,ra,rc,rfl,od,bS.rd,λb hb=> .inr (cM b hb),ah⟩
     ·refine RZ (i:=6) O O O (Wj (cs:=[_]) (zs:=[Value.int .u32 0]) Ps OP O (by kernel_rfl) O O O (by decide)) ?_;rintro v16 w16 ⟨b16,rfl,⟨oa,aX,eS⟩,bX⟩;refine⟨ah.trans aX,?_⟩;have oc:w4.heap.size<=b16:=by omega
      have ah:=ah.trans aX
      try have ez:=ez.ext aX
      try have bz:=bz.ext aX
      have lb16:=eS.lt;have aY:=Nat.le_trans aY aX.size;refine qO 4$ RZ (i:=4) O O O (pap Ps OP O (by decide) O O ez ((Ts (i:=k) hr hk).ext ah) (λc hc=>di s c (List.mem_of_mem_take hc)) (by omega) (by omega)) ?_;rintro v10 w10 ⟨bz,ar,bc,-⟩;refine⟨ah.An ar (λj e=>by have e:b6=j:=QU e;omega),?_⟩;have ah:=ah.An ar (λj e=>by have e:b6=j:=QU e;omega)
      try have bX:=bX.kp ar (λj hj e=>by have e:b6=j:=QU e;have hj:b16=j:=QU hj;omega)
      have bc:∀j,v10.ownBlock=some j->w4.heap.size<=j:=λj hj=>by rcases bc j hj with e|e;(have e:b6=j:=QU e;omega);omega
      have aY:=Nat.le_trans aY ar.size;have o9:=λ(j:Nat) (hj:v10.ownBlock=some j)=>bz.lt hj;refine qO 7$ RZ (i:=7) O O O (pap Ps OP O (by decide) O O bz bX.rd (λc hc=>di [v] c hc) (by omega) (by omega)) ?_;rintro v17 w17 ⟨eh,ci,bK,-⟩;refine⟨ah.An ci (λj e=>bc j e),?_⟩;have ah:=ah.An ci (λj e=>bc j e);have bK:∀j,v17.ownBlock=some j->w4.heap.size<=j:=λj hj=>by rcases bK j hj with e|e;exact bc j e;omega
      have aY:=Nat.le_trans aY ci.size;refine qO 11$ RZ (i:=11) O O O (pap Ps OP O (by decide) O O eh ((Sx (i:=k) hr hk iz).ext ah) (λc hc=>di s c (List.mem_of_mem_drop hc)) (by omega) (by omega)) ?_;rintro v21 w21 ⟨bS,dM,cM,-⟩;refine⟨ah.An dM (λj e=>bK j e),?_⟩;have ah:=ah.An dM (λj e=>bK j e);have cM:∀j,v21.ownBlock=some j->w4.heap.size<=j:=λj hj=>by rcases cM j hj with e|e;exact bK j e;omega
      refine OI 12 O (R7 O) ah$ qE ?_;rw[show 0+k+1+(s.length-k)=(insL v s).length by rw[ZQ,List.length_append,List.length_cons,jO,vB];omega,show([]++List.take k (s.map Pq)++[Pq v]++List.drop k (s.map Pq))=(insL v s).map Pq by rw[ZQ];simp[List.map_take,List.map_drop]] at bS;obtain⟨ra,rc,rfl,-⟩:=bS.rd.shape
      have od:(insL v s).length<=rc:=by
       rcases bS.shape with⟨e1,e2⟩|⟨gg,cc,e1,e2⟩
       ·omega
       ·cases e1;exact e2
      refine OB func95 O ?_;exact⟨_,rfl,ra,rc,rfl,od,bS.rd,λb hb=> .inr (cM b hb),ah⟩
    ·refine RZ (i:=6) O O O (Wj (cs:=[_]) (zs:=[Value.int .u32 0]) Ps OP O (by kernel_rfl) O O O (by decide)) ?_;rintro v16 w16 ⟨b16,rfl,⟨oa,aX,eS⟩,bX⟩;refine⟨ah.trans aX,?_⟩;have oc:w4.heap.size<=b16:=by omega
     have ah:=ah.trans aX
     try have ez:=ez.ext aX
     try have bz:=bz.ext aX
     have lb16:=eS.lt;have aY:=Nat.le_trans aY aX.size;refine qO 0$ RZ (i:=0) O O O (Wj (cs:=[]) (zs:=[]) Ps OP O (by kernel_rfl) O O O (by decide)) ?_;rintro v6 w6 ⟨b6,rfl,⟨jQ,aI,aQ⟩,ez⟩;refine⟨ah.trans aI,?_⟩;have A7:w4.heap.size<=b6:=by omega
     have lb6:=aQ.lt;have ah:=ah.trans aI
     try have bX:=bX.ext aI
     have aY:=Nat.le_trans aY aI.size;refine qO 4$ RZ (i:=4) O O O (pap Ps OP O (by decide) O O ez ((Ts (i:=k) hr hk).ext ah) (λc hc=>di s c (List.mem_of_mem_take hc)) (by omega) (by omega)) ?_;rintro v10 w10 ⟨bz,ar,bc,-⟩;refine⟨ah.An ar (λj e=>by have e:b6=j:=QU e;omega),?_⟩;have ah:=ah.An ar (λj e=>by have e:b6=j:=QU e;omega)
     try have bX:=bX.kp ar (λj hj e=>by have e:b6=j:=QU e;have hj:b16=j:=QU hj;omega)
     have bc:∀j,v10.ownBlock=some j->w4.heap.size<=j:=λj hj=>by rcases bc j hj with e|e;(have e:b6=j:=QU e;omega);omega
     have aY:=Nat.le_trans aY ar.size;have o9:=λ(j:Nat) (hj:v10.ownBlock=some j)=>bz.lt hj;refine qO 7$ RZ (i:=7) O O O (pap Ps OP O (by decide) O O bz bX.rd (λc hc=>di [v] c hc) (by omega) (by omega)) ?_;rintro v17 w17 ⟨eh,ci,bK,-⟩;refine⟨ah.An ci (λj e=>bc j e),?_⟩;have ah:=ah.An ci (λj e=>bc j e);have bK:∀j,v17.ownBlock=some j->w4.heap.size<=j:=λj hj=>by rcases bK j hj with e|e;exact bc j e;omega
     have aY:=Nat.le_trans aY ci.size;refine qO 11$ RZ (i:=11) O O O (pap Ps OP O (by decide) O O eh ((Sx (i:=k) hr hk iz).ext ah) (λc hc=>di s c (List.mem_of_mem_drop hc)) (by omega) (by omega)) ?_;rintro v21 w21 ⟨bS,dM,cM,-⟩;refine⟨ah.An dM (λj e=>bK j e),?_⟩;have ah:=ah.An dM (λj e=>bK j e);have cM:∀j,v21.ownBlock=some j->w4.heap.size<=j:=λj hj=>by rcases cM j hj with e|e;exact bK j e;omega
     refine OI 12 O (R7 O) ah$ qE ?_;rw[show 0+k+1+(s.length-k)=(insL v s).length by rw[ZQ,List.length_append,List.length_cons,jO,vB];omega,show([]++List.take k (s.map Pq)++[Pq v]++List.drop k (s.map Pq))=(insL v s).map Pq by rw[ZQ];simp[List.map_take,List.map_drop]] at bS;obtain⟨ra,rc,rfl,-⟩:=bS.rd.shape
     have od:(insL v s).length<=rc:=by
      rcases bS.shape with⟨e1,e2⟩|⟨gg,cc,e1,e2⟩
      ·omega
      ·cases e1;exact e2
     refine OB func95 O ?_;exact⟨_,rfl,ra,rc,rfl,od,bS.rd,λb hb=> .inr (cM b hb),ah⟩
  case iT=>
   refine OL O$ P8 O$ Rv Ps O ?_;by_cases oO:k<s.length
   ·obtain⟨y,hy⟩:∃y,s[k]? =some y:=⟨_,List.getElem?_eq_getElem (by omega)⟩;obtain⟨lb,lo,rfl,uA⟩:=aW hy;refine Qq O$ Rp$ P8 O$ OK O$ qV (PX Ps OP O O (by omega))$ qV (Pr Py O O uA)$ OK O ?_;by_cases wo:y=v
    ·refine Ri O$ Rp$ QJ O$ OD ?_;exact(ep _ _ ⟨true,rfl,⟨λ_=>by rw[hy,wo],λ_=>rfl⟩,rfl⟩).qb
    ·refine Ri O$ PF$ QJ O$ OD ?_;exact(ep _ _ ⟨false,rfl,⟨λe=>(by cases e),λe=>by rw[hy] at e;exact absurd (QU e) wo⟩,rfl⟩).qb
   ·refine Qq O$ PF$ OK O$ QG$ QG$ QG$ PK O$ OD ?_;exact(ep _ _ ⟨false,rfl,⟨λe=>(by cases e),λe=>by rw[List.getElem?_eq_none (by omega)] at e;cases e⟩,rfl⟩).qb
 case uB=>
  refine Rq (α:=Nat) (0) (λk=>[(0,.slice a s.length c),(1,Pq v),(5,I (k:Int))]) (λk w'=>k<=s.length/\(∀j y,j<k->s[j]? =some y->y<v)/\w'=w) (λk=>s.length-k) ?hI ?hround
  case hI=>exact⟨Nat.zero_le _,λj y hj=>absurd hj (Nat.not_lt_zero _),rfl⟩
  case hround=>
   rintro k w3 ⟨hk,i7,rfl⟩ ih2
   try dsimp only
   refine It$ Qm O$ Rv Ps O ?_;by_cases ku:k<s.length
   ·obtain⟨y,hy⟩:∃y,s[k]? =some y:=⟨_,List.getElem?_eq_getElem ku⟩;obtain⟨lb,lo,rfl,uA⟩:=aW hy;refine Qq O$ Rp$ P8 O$ OK O$ qV (PX Ps OP O O (by omega))$ qV (Pr Py O O uA)$ OK O ?_;by_cases BE:y<v
    ·refine Qq O$ Rp$ QJ O$ OD$ OS O$ OE$ OH$ Rh O$ PV O$ OU O$ OA ((ih2 (k+1) _ ⟨by omega,λj z hj hz=>?_,rfl⟩ (by omega)).qb);by_cases e:j=k
     ·subst e;rw[hy] at hz;cases hz;exact BE
     ·exact i7 j z (by omega) hz
    ·refine Qq O$ PF$ QJ O$ OD$ OJ O$ ON O ?_;exact(jB _ _ ⟨k,rfl,hk,i7,λz hz=>(by rw[hy] at hz;cases hz;omega),rfl⟩).qb
   ·refine Qq O$ PF$ OK O$ QG$ QG$ QG$ PK O$ OD$ OJ O$ ON O ?_;exact(jB _ _ ⟨k,rfl,hk,i7,λz hz=>(by rw[List.getElem?_eq_none (by omega)] at hz;cases hz),rfl⟩).qb
def zcp (n:Nat)(es:List (Nat×Nat)):(z1a n es).length=n:=by
 have key:∀(l:List (Nat×Nat)) (g:List (List Nat)),(l.foldl z3B g).length=g.length:=λl=>by
  induction l with
  |nil=>exact λ_=>rfl
  |cons e l ih=>intro g;rw[List.foldl_cons,ih];unfold z3B;rw[List.length_set]
 unfold z1a
 rw[key,List.length_replicate]
def z4S {x:Nat}:∀{l:List Nat},(insL x l).length<=l.length+1
 |[]=>Nat.le_refl _
 | y :: l => by
   unfold insL;have:=z4S (x:=x) (l:=l);split
   ·exact Nat.le_refl _
   ·split<;>simp<;>omega
def z9P {w:World}{n:Nat}(cX:1<=n)(hn:n<=60){ea:Option Addr}{ec:Nat}{es:List (Nat×Nat)}(oR:es.length<=100000)(hb:∀e∈es,e.1<n/\e.2<n)(hE:EdR w ea es):Pm prog 61 [I (n:Int),.slice ea es.length ec] w λv w'=>∃bg,v= .tuple #[.slice (some ⟨bg,0,none⟩) n n,I 0]/\Zo w' bg w.heap.size (z1a n es)/\Ext w w':=by
 have eu:maxLen=9223372036854775807:=rfl
 refine py (e:=[(0,_),(1,_)]) func61 O ntmps61 O O$ qN O$ PU O$ PG O$ Qq O$ PF$ P8 O$ Qu O$ PF$ PK O$ PW O$ Pf O$ OM O O (pmk (c:=n) (n:=n) WR SO O O O (by omega) (by omega) (by omega)) ?_
 rintro _ w1 ⟨bg,rfl,⟨IF,ad,aj⟩,-⟩
 have kO:Zo w1 bg w.heap.size (List.replicate n []):=Zo.new aj
 refine OU O$ It$ QB O$ OH$ Rq (α:=Nat) (0) (λi=>[(0,I (n:Int)),(1,.slice ea es.length ec),(6,.slice (some ⟨bg,0,none⟩) n n),(7,I (i:Int))]) (λi w'=>i<=es.length/\Zo w' bg w.heap.size (z1a n (es.take i))/\(∀v,(P5 (z1a n (es.take i)) v).length<=i)/\Ext w w') (λi=>es.length-i) ?hI ?hround
 case hI=>exact⟨Nat.zero_le _,kO,λv=>by
  rw[List.take_zero];show(P5 (List.replicate n []) v).length<=0;unfold P5;rw[List.getElem?_replicate]
  split<;>exact Nat.le_refl _,ad⟩
 case hround=>
  rintro i w2 ⟨hi,cO,rH,ae⟩ ih
  try dsimp only
  refine It$ Qm O$ Rv U22 O$ Qq O$ OD$ OQ O (λhq=>?_)$ λhq=>?_
  ·have bQ:i<es.length:=by omega
   obtain⟨e,he⟩:∃e,es[i]? =some e:=⟨_,List.getElem?_eq_getElem bQ⟩;obtain⟨b1,b2⟩:=hb e (List.mem_of_getElem? he);obtain⟨e1,e2,eb,eo,rfl,dX,ev⟩:=(hE.ext ae) i e he
   have dY:z1a n (es.take (i+1))=z3B (z1a n (es.take i)) e:=by
    unfold z1a;rw[PQ he,List.foldl_append];rfl
   obtain⟨g,hg⟩:∃g,z1a n (es.take i)=g:=⟨_,rfl⟩;have dI:g.length=n:=by rw[<-hg];exact zcp _ _
   rw[hg] at cO rH dY
   have IM:g[e.1]? =some (P5 g e.1):=by
    unfold P5;rw[List.getElem?_eq_getElem (by omega)];rfl
   obtain⟨a,c,fW,iz,dS,FS⟩:=cO.cell IM;have Hi:=rH e.1;obtain⟨s,hs⟩:∃s,P5 g e.1=s:=⟨_,rfl⟩;rw[hs] at fW iz dS FS Hi;refine OE$ Qx$ It$ Qm O$ qV (PX U22 TY O O (by omega))$ OX Xn O$ qV (Pr Py O O dX)$ qV (PJ O Py U2 (by omega))$ OK O$ Te O$ PF$ P8 O$ OK O$ qV (PX U22 TY O O (by omega)) ?_;refine OX VL O$ qV (Pr Py O O ev)$ qV (PJ O Py U2 (by omega))$ OK O$ Te O$ PF$ PK O$ PW O ?_;have ah:=Ext.OT w2;obtain⟨vs,lF,mJ,-⟩:=id cO.ex;have FW:=cO.lt;have z2:=ae.size;refine P7 [21] (λw'=>Ext w2 w') (by kernel_rfl) O$ PL 0 O O (ah)$ PL 1 O O (ah)$ PL 2 O O (ah)$ P9 3 O (PX U22 TY O O (by omega)) ah$ P9 4 O (Pp Xn O) ah$ PL 6 O O (ah)$ PL 7 O O (ah)$ PL 8 O O (ah)$ P9 9 O (PX U22 TY O O (by omega)) ah$ P9 10 O (Pp Xn O) ah$ PL 14 O O (ah)$ PL 15 O O (ah)$ P9 16 O (PX U22 TY O O (by omega)) ah ?_;refine P9 17 O (Pp VL O) ah$ qL 5 O (λ_ h=>Pr Py O O (PH h dX)) ah$ qL 11 O (λ_ h=>Pr Py O O (PH h dX)) ah$ qL 18 O (λ_ h=>Pr Py O O (PH h ev)) ah$ P9 12 O (PX WR SO O O (by omega)) ah$ qL 13 O (λ_ h=>Pr Ps O O (PH h fW)) ah$ QY (i:=19) (by kernel_rfl)$ Rx (i:=19) O O O (yc zlh O) (zcU (by omega) iz (dS.ext ah)) ?_;rintro _ w3 ⟨a',c',rfl,Hj,Hk,Hl,ai⟩;refine⟨ah.trans ai,?_⟩;have af:=ah.trans ai;have zg:=ah.size;have gK:=af.OC lF;refine P9 20 O (PX WR SO O O (by omega)) (ah.trans ai)$ SM [21]$ qO 21$ PC (i:=21) O O (QQ SO O O O gK (by rw[mJ];omega)) ?_;rintro w4 ⟨aK,ao⟩;refine⟨trivial,?_⟩
   have g7:=(cO.ext af).set ao (f:=e.1) (l:=insL e.2 s) (a:=a') (c:=c') (λvs' h'=>by rw[OR.uniq h' gK];exact aK) (by omega) Hj Hk (λj hj=>by
    rcases Hl j hj with e| e
    ·exact FS j e
    ·omega)
   refine qE$ OA$ Rh O$ PV O$ OU O ((ih (i+1) _ ⟨by omega,?_,λv=>?_,(ae.trans af).An ao (λj e=>by omega)⟩ (by omega)).qb)
   ·rw[dY];unfold z3B;rw[hs];exact g7
   ·rw[dY];unfold z3B;rw[Zf (by omega),hs];have:=rH v;have:=z4S (x:=e.2) (l:=s);split<;>omega
  ·have bQ:i=es.length:=by omega
   subst bQ;rw[List.take_length] at cO;refine ON O$ Pf O$ PU O$ OB func61 O ?_;exact⟨_,rfl,bg,rfl,cO,ae⟩
def edC (es:List (Nat×Nat)):List Value:=es.flatMap λe=>[Pq e.1,Pq e.2]
def z7J:∀{es:List (Nat×Nat)} {i:Nat} {e:Nat×Nat},es[i]? =some e->(edC es)[i*2+0]? =some (Pq e.1)/\(edC es)[i*2+1]? =some (Pq e.2)
 |x::es,0,e,h=>by cases h;exact⟨rfl,rfl⟩
 | x :: es, i + 1, e, h => by
   obtain⟨h1,h2⟩:=z7J (es:=es) (i:=i) (e:=e) (by simpa using h);unfold edC at h1 h2⊢;rw[List.flatMap_cons,List.getElem?_append_right (by simp;omega),List.getElem?_append_right (by simp;omega)];simp only[List.length_cons,List.length_nil];rw[show(i+1)*2+0-(0+1+1)=i*2+0 by omega,show(i+1)*2+1-(0+1+1)=i*2+1 by omega];exact⟨h1,h2⟩
def z8Q {w:World}{v:Value}{T:TypeId}{es:List (Nat×Nat)}(h:Sl w v T 2 es.length (edC es))(hb:∀e∈es,e.1<4294967296/\e.2<4294967296):∃ea ec,v= .slice ea es.length ec/\EdR w ea es:=by
 obtain⟨a,c,rfl,-⟩:=h.rd.shape
 refine⟨a,c,rfl,λi e he=>?_⟩
 obtain⟨b1,b2⟩:=hb e (List.mem_of_getElem? he)
 have bQ:i<es.length:=by
  rcases Nat.lt_or_ge i es.length with h| h
  ·exact h
  ·rw[List.getElem?_eq_none h] at he;cases he
 obtain⟨g1,g2⟩:=z7J he
 rcases h.rd.2 with⟨⟨ca,cc⟩,gd,rM⟩|⟨lb,lo,cap,gd,cN⟩
 ·omega
 cases gd
 exact⟨b1,b2,lb,lo,rfl,by rw[Nat.add_assoc];exact cN _ _ g1,by rw[Nat.add_assoc];exact cN _ _ g2⟩
def z9A (u x:Nat):List (Nat×Nat):=if x=u then [] else [(x,u),(u,x)]
def Uz (g:List (List Nat))(u i:Nat):List (Nat×Nat):=((List.range u).flatMap λu=>(P5 g u).flatMap (z9A u))++((P5 g u).take i).flatMap (z9A u)
theorem z6K (g:List (List Nat))(u:Nat):Uz g u (P5 g u).length=Uz g (u+1) 0:=by
 unfold Uz
 rw[List.take_length,List.range_succ,List.flatMap_append,List.take_zero]
 simp
def z6n {g:List (List Nat)}{u i x:Nat}(h:(P5 g u)[i]? =some x):Uz g u (i+1)=Uz g u i++z9A u x:=by
 unfold Uz
 rw[PQ h,List.flatMap_append,List.append_assoc]
 simp
theorem z8O (g:List (List Nat)):Uz g g.length 0=z4c g:=by
 unfold Uz z4c z9A
 simp
theorem zd0 (a b:List (Nat×Nat)):edC (a++b)=edC a++edC b:=List.flatMap_append ..
def zdH {g:List (List Nat)}(ay:Se g)(aG:1<=g.length){w:World}{gb go gc:Nat}(hg:GrR w gb go g):Pm prog 31 [.slice (some ⟨gb,go,none⟩) g.length gc] w λv w'=>∃bg,v= .slice (some ⟨bg,0,none⟩) g.length g.length/\Zo w' bg w.heap.size (zcM g)/\Ext w w':=by
 have eu:maxLen=9223372036854775807:=rfl
 have hn:=ay.n
 refine py (e:=[(0,_)]) func31 O ntmps31 O O$ qN O$ Qw O$ OU O$ It$ QB O$ OH$ Rq (α:=Nat×Value) ((0,.slice none 0 0)) (λy=>[(0,.slice (some ⟨gb,go,none⟩) g.length gc),(3,y.2),(4,I (y.1:Int))]) (λy w'=>y.1<=g.length/\(Uz g y.1 0).length<=200*y.1/\Sl w' y.2 125 2 (Uz g y.1 0).length (edC (Uz g y.1 0))/\(∀b,y.2.ownBlock=some b->w.heap.size<=b)/\Ext w w') (λy=>g.length-y.1) ?hI ?hround
 case hI=>exact⟨Nat.zero_le _,Nat.le_refl _,Sl.nil _ _ _,λb hb=>(by cases hb),Ext.refl _⟩
 case hround =>
  rintro⟨u,v⟩ w2 ⟨hu,f9,cH,qk,ae⟩ ih;dsimp only at hu f9 cH qk ih⊢
  try dsimp only
  refine It$ Qm O$ Rv WR O$ Qq O$ OD$ OQ O (λhq=>?_)$ λhq=>?_
  ·have lG:u<g.length:=by omega
   have dI:g[u]? =some (P5 g u):=by unfold P5;rw[List.getElem?_eq_getElem lG];rfl
   have fG:(P5 g u).length<=g.length:=ay.len (List.mem_of_getElem? dI);refine OE$ Qx$ QB O$ OH$ Rq (α:=Nat×Value) ((0,v)) (λy=>[(0,.slice (some ⟨gb,go,none⟩) g.length gc),(3,y.2),(4,I (u:Int)),(5,I (y.1:Int))]) (λy w'=>y.1<=(P5 g u).length/\(Uz g u y.1).length<=200*u+2*y.1/\Sl w' y.2 125 2 (Uz g u y.1).length (edC (Uz g u y.1))/\(∀b,y.2.ownBlock=some b->w.heap.size<=b)/\Ext w w') (λy=>(P5 g u).length-y.1) ?hI ?hround
   case hI=>exact⟨Nat.zero_le _,f9,cH,qk,ae⟩
   case hround=>
    rintro⟨i,v3⟩ w3 ⟨hi,jm,cy,fZ,ai⟩ ih2;dsimp only at hi jm cy fZ ih2⊢;obtain⟨a,c,dX,ev⟩:=hg u _ dI;have af:=Ext.OT w3
    try dsimp only
    refine It$ Qm O$ OK O$ qV (PX WR SO O O (by omega))$ qV (Pr Ps O O (PH ai dX))$ Rv Ps O$ Qq O$ OD$ OQ O (λfF=>?_)$ λfF=>?_
    ·obtain⟨x,hx⟩:∃x,(P5 g u)[i]? =some x:=⟨_,List.getElem?_eq_getElem (by omega)⟩;obtain⟨lb,lo,rfl,vX⟩:=ev i x hx;have ip:x<g.length:=SY ay u x (List.mem_of_getElem? hx);have eW:=z6n hx;refine OE$ Qx$ Qm O$ qV (PX WR SO O O (by omega))$ qV (Pr Ps O O (PH ai dX))$ OK O$ qV (PX Ps OP O O (by omega))$ qV (Pr Py O O (PH ai vX))$ qV (PJ O Py U3 (by omega))$ OK O ?_;by_cases Jd:x=u
     ·rw[show z9A u x=[] from if_pos Jd,List.append_nil] at eW;refine Qf O$ PF$ PW O$ OA$ Rh O$ PV O$ OU O ?_;exact(ih2 (i+1,v3) _ ⟨by omega,by rw[eW];omega,by rw[eW];exact cy,fZ,ai⟩ (by omega)).qb
     ·rw[show z9A u x=[(x,u),(u,x)] from if_neg Jd] at eW;have z3:=ai.size;have mM:∀{w':World},Kp (λb=>v3.ownBlock=some b) w3 w'->Ext w w':=λhk=>ai.An hk (λb e=>fZ b e);refine Qf O$ Rp$ OD$ OS O$ R5 (λw'=>Kp (λb=>v3.ownBlock=some b) w3 w') O$ OZ 0 O O (af.kp)$ OZ 1 O O (af.kp)$ OZ 2 O O (af.kp)$ OI 3 O (PX WR SO O O (by omega)) (af.kp)$ OZ 5 O O (af.kp)$ OZ 8 O O (af.kp)$ OI 9 O (z0U O U3 Py) (af.kp)$ OZ 11 O O (af.kp)$ OI 12 O (z0U O U3 Py) (af.kp) ?_;refine OZ 13 O O (af.kp)$ OZ 14 O O (af.kp)$ OI 15 O (PX WR SO O O (by omega)) (af.kp)$ OZ 17 O O (af.kp)$ qT 4 O (λ_ h=>Pr Ps O O (PH (mM h) dX)) (af.kp)$ qT 16 O (λ_ h=>Pr Ps O O (PH (mM h) dX)) (af.kp)$ OI 6 O (PX Ps OP O O (by omega)) (af.kp)$ OI 18 O (PX Ps OP O O (by omega)) (af.kp)$ qT 7 O (λ_ h=>Pr Py O O (PH (mM h) vX)) (af.kp)$ qT 19 O (λ_ h=>Pr Py O O (PH (mM h) vX)) (af.kp)$ OI 10 O (Sk (cs:=[_,_]) TY O zfg O O) (af.kp)$ OI 20 O (Sk (cs:=[_,_]) TY O zfg O O) (af.kp) ?_;rw[Nat.mod_eq_of_lt (show u<4294967296 by omega)];refine qO 21$ RZ (i:=21) O O O (Wj (cs:=[_,_,_,_]) (zs:=[Value.int .u32 0,Value.int .u32 0,Value.int .u32 0,Value.int .u32 0]) U22 TY O (by kernel_rfl) O O O (by decide)) ?_;rintro v4 w4 ⟨b4,rfl,⟨fC,aD,aK⟩,dO⟩;refine⟨af.kp.trans aD.kp,?_⟩;have cC:=af.trans aD;refine qO 22$ RZ (i:=22) O O O (pap U22 TY O (by decide) O O (cy.ext cC) dO.rd (λc hc=>by obtain⟨z,-,rfl⟩:=List.mem_map.1 (show c∈[x,u,u,x].map Pq from hc);rfl) (by omega) (by omega)) ?_;rintro v5 w5 ⟨ew,ak,pD,-⟩;refine⟨cC.kp.trans ak,?_⟩;have z34:=cC.size;refine OI 23 O (R7 O) (cC.kp.trans ak)$ qE$ OA$ Rh O$ PV O$ OU O ((ih2 (i+1,v5) _ ⟨by omega,by rw[eW,List.length_append];show _+2<=_;omega,?_,λb hb=>?_,mM (cC.kp.trans ak)⟩ (by omega)).qb)
      ·rw[eW,List.length_append,zd0];exact ew
      ·rcases pD b hb with e| e
       ·exact fZ b e
       ·omega
    ·have bQ:i=(P5 g u).length:=by omega
     subst bQ;rw[z6K] at jm cy;refine ON O$ OA$ Rh O$ PV O$ OU O ?_;exact(ih (u+1,v3) _ ⟨by show u+1<=g.length;omega,by show(Uz g (u+1) 0).length<=200*(u+1);omega,cy,fZ,ai⟩ (by show g.length-(u+1)<g.length-u;omega)).qb
  ·have lG:u=g.length:=by omega
   subst lG;rw[z8O] at f9 cH
   have vP:∀e∈z4c g,e.1<g.length/\e.2<g.length:=λe he=>by
    have aZ:∀{u x:Nat},x∈P5 g u->u<g.length:=fun {u x} hx=>by
     rcases Nat.lt_or_ge u g.length with e| e
     ·exact e
     ·unfold P5 at hx;rw[List.getElem?_eq_none e] at hx;cases hx
    obtain⟨a,b⟩:=e;obtain⟨-,h|h⟩:=(YY ay a b).1 he
    ·exact⟨aZ h,SY ay a b h⟩
    ·exact⟨SY ay b a h,aZ h⟩
   obtain⟨ea,ec,rfl,hE⟩:=z8Q cH (λe he=>by have:=vP e he;omega);refine ON O$ Pf O$ Rv WR O$ OK O$ P4 zkg O (z9P aG (by omega) (by omega) vP hE) ?_;rintro _ w3 ⟨bg,rfl,lz,ai⟩;refine OK O$ RA O$ RT O$ Qt O$ OU O$ OB func31 O (⟨_,rfl,bg,rfl,?_,ae.trans ai⟩);have z2:=ae.size;obtain⟨vs,h1,h2,h3⟩:=lz.ex
   exact⟨vs,h1,h2,λi l hl=>by
    obtain⟨a,c,g1,g2,g3,g4⟩:=h3 i l hl
    exact⟨a,c,g1,g2,g3,λb hb=>⟨by have:=(g4 b hb).1;omega,(g4 b hb).2⟩⟩⟩
def z9G {w:World}{n fr fo p ro:Int}{sd:Nat}{pl:Bool}(hn:JIq n){ea:Option Addr}{ec:Nat}{es:List (Nat×Nat)}(oR:es.length<=9000000000000000000)(hE:EdR w ea es):Pm prog 6 [.agg #[I n,.slice ea es.length ec,.bool pl,I fr,I fo,I p,I ro,u64v sd]] w λv w'=>∃g bg,v= .slice (some ⟨bg,0,none⟩) g.length g.length/\1<=g.length/\g.length<=40/\Se g/\(pl=false->zfK g)/\Zo w' bg w.heap.size g/\Ext w w':=by
 refine py (e:=[(0,_)]) func6 O ntmps6 O O$ qN O$ OM O O (Rm O (cs:=[I n,.slice ea es.length ec,.bool pl,I fr,I fo,I p,I ro,u64v sd]) O) ?_
 rintro _ w1 ⟨b1,rfl,bU,ad,aj⟩
 have aG:=Ext.OT w1
 refine OU O$ It$ R5 (λw'=>Ext w1 w') O$ OI 0 O (Pp zgc O) aG$ qT 1 O (λ_ h=>OO U3 O O (h.OC aj) O) aG$ OI 3 O (Pp zfL O) aG$ qT 4 O (λ_ h=>OO U22 O O (h.OC aj) O) aG$ SK 2 O zkk O (z3c n hn _) ?_
 rintro _ w2 ⟨m,rfl,mj,dF,rfl⟩
 refine⟨aG,?_⟩
 refine SK 5 O zkS O (z9K mj dF oR ((hE.ext ad).ext aG)) ?_
 rintro _ w2 ⟨g,bg,rfl,jC,ay,cO,ae⟩
 refine⟨aG.trans ae,?_⟩
 have aa:=aG.trans ae
 have am:=aa.OC aj
 have aJ:=ad.trans aa
 have mz:=ad.size
 have mS:=aG.size
 have Hm:Zo w2 bg w.heap.size g:=by
  obtain⟨vs,h1,h2,h3⟩:=cO.ex
  exact⟨vs,h1,h2,λi l hl=>by
   obtain⟨a,c,g1,g2,g3,g4⟩:=h3 i l hl
   exact⟨a,c,g1,g2,g3,λb hb=>⟨by have:=(g4 b hb).1;omega,(g4 b hb).2⟩⟩⟩
 cases pl with
 | true =>
   refine OI 6 O (R7 O) (aG.trans ae)$ qE$ It$ qN O$ OX zbA O$ qV (OO U4 O O am O)$ OD$ OS O$ Pf O$ OU O$ OB func6 O ?_
   exact⟨_,rfl,g,bg,rfl,by omega,by omega,ay,λe=>by(cases e),Hm,aJ⟩
 | false =>
   refine OI 6 O (R7 O) (aG.trans ae)$ qE$ It$ qN O$ OX zbA O$ qV (OO U4 O O am O)$ PW O$ Pf O ?_;obtain⟨gb,go,gc,jR,oo⟩:=cO.gr.r (by omega);cases jR;refine P4 zku O (zdH ay (by omega) oo) ?_;rintro _ w3 ⟨bs,rfl,lz,ai⟩;obtain⟨k1,k2,k3⟩:=zdl ay;have z02:=aJ.size;refine OU O$ OB func6 O (⟨_,rfl,zcM g,bs,by rw[k3];rfl,by omega,by omega,k1,λ_=>k2,?_,aJ.trans ai⟩);obtain⟨vs,h1,h2,h3⟩:=lz.ex
   exact⟨vs,h1,h2,λi l hl=>by
    obtain⟨a,c,g1,g2,g3,g4⟩:=h3 i l hl
    exact⟨a,c,g1,g2,g3,λb hb=>⟨by have:=(g4 b hb).1;omega,(g4 b hb).2⟩⟩⟩
def z5s (w:World)(la:Option Addr)(ls:List (Int×Int×Int)):Prop:=∀(i:Nat) (e:Int×Int×Int),ls[i]? =some e->JIq e.1/\JIq e.2.1/\JIq e.2.2/\∃lb lo,la=some ⟨lb,lo,none⟩/\w.cell? ⟨lb,lo+i*3+0,none⟩=some (I e.1)/\w.cell? ⟨lb,lo+i*3+1,none⟩=some (I e.2.1)/\w.cell? ⟨lb,lo+i*3+2,none⟩=some (I e.2.2)
def z5s.ext {w w':World}{la:Option Addr}{ls:List (Int×Int×Int)}(h:z5s w la ls)(hx:Ext w w'):z5s w' la ls:=λi e he=>by
 obtain⟨h1,h2,h3,lb,lo,h4,h5,h6,h7⟩:=h i e he
 exact⟨h1,h2,h3,lb,lo,h4,PH hx h5,PH hx h6,PH hx h7⟩
def bltaken_ret {w:World}(hG:OR w 2 (Sy .gamma) 317)(hU:OR w 3 (Sy .unary) 317)(n fr fo P ro:Int)(sd:Nat)(plain:Bool)(hn:JIq n)(kR:JIq fr)(Ab:JIq fo)(Fu:JIq P)(jn:JIq ro)(jv:sd<18446744073709551616){ea:Option Addr}{ec:Nat}{es:List (Nat×Nat)}(oR:es.length<=9000000000000000000)(hE:EdR w ea es){la:Option Addr}{lc:Nat}{ls:List (Int×Int×Int)}(eI:ls.length<=9000000000000000000)(hL:z5s w la ls):Pm prog 4 [.agg #[I n,.slice ea es.length ec,.bool plain,I fr,I fo,I P,I ro,u64v sd],.slice la ls.length lc] w λv w'=>v= .bool true/\Ext w w':=by
 refine py (e:=[(0,_),(1,_)]) func4 O ntmps4 O O$ qN O$ OM O O (Rm O (cs:=[I n,.slice ea es.length ec,.bool plain,I fr,I fo,I P,I ro,u64v sd]) O) ?_
 rintro _ wn ⟨bn,rfl,lB,ip,vG⟩
 refine Qw O$ qV (Pt (news:=[I n,.slice ea es.length ec,.bool plain,I fr,I fo,I P,I ro,u64v sd]) U25 O zlA O (vG.cells (n:=8) O) O)$ P4 cf6 O (z9G hn oR (hE.ext ip)) ?_
 rintro _ w1 ⟨g,bg,rfl,aG,ib,ay,-,kO,pa⟩
 have ad:=ip.trans pa
 have kM:=pa.OC vG
 have vd:=kO.gr
 have q1:=TE P 4 (by decide)
 have q2:=VE P 4 (by decide)
 refine Qw O$ OX zgj O$ qV (OO U3 O O kM O)$ qV (yrt O O (by decide))$ PV O$ qV (yrt O O (by decide)) ?_
 rw[show(P.tmod 4+4).tmod 4=nrm P 4 from rfl]
 obtain⟨p,wW,s8⟩:∃p:Nat,(4:Int)+nrm P 4=(p:Int)/\4<=p/\p<=7:=⟨(4+nrm P 4).toNat,by omega,by omega⟩
 refine PV O ?_
 rw[wW]
 refine Qt O$ OX zgb O$ qV (OO U3 O O kM O)$ OX zgv O$ qV (OO U3 O O kM O)$ P4 cf7 O (z8I ay aG ib vd (ad.OC hG) (ad.OC hU) fr fo kR Ab) ?_
 rintro _ w5 ⟨W,XX,rfl,hW,aT,eB⟩
 have bL:=ad.trans aT
 have z15:=aT.size
 have z5:=bL.size
 refine OK O$ RA O$ OM O O (RN (cs:=[_,_,_,_,_]) z0p O) ?_
 rintro _ w6 ⟨b6,rfl,jQ,aI,aQ⟩
 have z6:=aI.size
 refine OW O (PO (news:=W.v) z0p O O O O aQ (by simp)) ?_
 rintro w7 ⟨bP,aC⟩
 have g8:OR w7 b6 [ptr W.d 0,ptr W.Q.s 0,ptr W.G.k 0,ptr W.T.k 0,I ((200-W.a:Nat):Int)] 32:=bP
 have l7:=bP.lt
 have z7:=aC.size
 have lbn:=kM.lt
 have AM:=aC.OC (aI.OC (aT.OC kM)) (λe=>by omega)
 have ge:=(bL.trans aI).An aC λb e=>by omega
 have i8:=hW.hg.lt
 have iU:=hW.hg.xk
 have i1:=i8 _ iU.1
 have i2:=i8 _ iU.2.1
 have i3:=i8 _ iU.2.2.1
 have i4:=i8 _ iU.2.2.2
 obtain⟨X,hX⟩:∃X:Nat->Prop,(λb=>(XX b/\b≠W.G.rb)\/b=b6)=X:=⟨_,rfl⟩
 have mN:S3 W.G W.Q W.txt W.K X w7:=by
  rw[<-hX];exact(hW.hg.grow aI (Y:=λb=>(XX b/\b≠W.G.rb)\/b=b6) (λj e=>e.imp id λe=>by have:=aQ.lt;omega) (λj e=> .inl e)).own aC λj e=>by subst e;exact⟨.inr O,by omega,by omega,by omega,by omega⟩
 have sh:∀b,b<w1.heap.size->X b:=λb hb=>by rw[<-hX];exact .inl ⟨(eB b hb).1,(eB b hb).2.1⟩
 have o6:X b6:=by rw[<-hX];exact .inr O
 have ah:=hW.gg
 have dI:W.G.g.length=g.length:=by rw[ah]
 have ha:=hW.a
 have CO:=hW.L
 have Nk:=hW.K
 have Nl:=hW.gs
 have vp:=hW.ts
 have dR:=hW.pre
 obtain⟨f1,f2,f3,f4⟩:=zeI (n:=g.length) (p:=p) ib s8.2
 obtain⟨L0,ve⟩:∃L0,blL g.length p=L0:=⟨_,rfl⟩
 rw[ve] at f3
 refine OU O$ Pn.qb (e:=[(1,_),(2,_),(4,_),(5,_),(6,_),(7,_),(8,_)]) ?_
 refine qN O$ OX z3s O$ qV ((OO XF O O g8 O))$ OX z3K O$ qV ((OO U30 O O g8 O))$ OK O$ OX z6c O$ qV ((OO Rr O O AM O))$ P4 cf8 O (WW mN (by omega) (by omega) dR (by omega) (p:=p) (rounds:=50) (seed:=sd) ⟨s8.1,by omega⟩ ⟨by decide,by decide⟩ jv (by rw[dI,ve];omega)) ?_
 rintro _ w9 ⟨rr,O1,txt9,ys9,rfl,BD,h9,Gi,aM⟩
 rw[dI,ve] at h9 Gi
 have z9:=aM.size
 have cI:=aM.OC g8 (λe=>e o6)
 have Nn:=aM.OC AM (λe=>e (sh bn lbn))
 obtain⟨Q,hQ⟩:∃Q,W.Q.Qj (Qh W.Q.L W.a L0 true)=Q:=⟨_,rfl⟩
 rw[hQ] at h9
 have BK:Q.L=Qh W.Q.L W.a L0 true:=by rw[<-hQ];rfl
 have xe:Q.s=W.Q.s:=by rw[<-hQ];rfl
 have BL:W.a+L0<=W.Q.L.length:=by omega
 have lI:Pre Q.L (W.a+L0):=by rw[BK];exact Wr dR BL
 have Mx:Q.L.length=200:=by rw[BK,PY BL];exact CO
 obtain⟨l1,-⟩:=h9.lts
 have iu:=WW h9.g (by omega) (by omega) lI (by omega) (p:=p) (rounds:=50) (seed:=sd) ⟨s8.1,by omega⟩ ⟨by decide,by decide⟩ jv (by rw[dI,ve];omega)
 rw[xe,dI,ve] at iu
 refine OK O$ RA O$ RT O$ Qw O$ OX z3s O$ qV ((OO XF O O cI O))$ OX z3K O$ qV ((OO U30 O O cI O))$ OK O$ OX z6c O$ qV ((OO Rr O O Nn O))$ P4 cf8 O (iu) ?_
 rintro _ w10 ⟨rr2,O2,txt10,ys10,rfl,Hn,fd,Ho,ar⟩
 have z10:=ar.size
 have gZ:Ext w1 w9:=((aT.trans aI).An aC λb e=>by omega).An aM λb e=>by
  rcases Nat.lt_or_ge b w1.heap.size with h| h
  ·exact absurd (sh b h) e
  ·exact h
 have e8:Ext w1 w10:=gZ.An ar λb e=>by
  rcases Nat.lt_or_ge b w1.heap.size with h| h
  ·exact absurd (.inl (sh b h)) e
  ·exact h
 have nl:=e8.OC kM
 have jx:W.a+L0+L0<=Q.L.length:=by omega
 have Je:BtJ g p (Si.new g p 50 sd):=⟨.new g ⟨s8.1,by omega⟩ ⟨by decide,by decide⟩,rfl,rfl,s8.2⟩
 rw[ah] at h9 fd
 have No:BpP w1 g p rr rr2 (Si.new g p 50 sd) (Si.new g p 50 sd) w10:=by
  have e1:UP BlK (BtJ g p) w1 g W.G Q txt9 (W.K+L0+mW p*g.length) (λb=>X b\/O1 b) rr O1 W.a L0 (Si.new g p 50 sd) w9:=⟨h9.untold,Je,ah,λb hb=> .inl (sh b hb),λb hb=>by have:=BD b hb;omega,dR.a2,by omega,λi e1 e2=>by rw[BK,Re BL,if_pos ⟨e1,e2⟩]⟩;refine .same W.G _ txt10 (W.K+L0+mW p*g.length+L0+mW p*g.length) _ O1 W.a L0 O2 (W.a+L0) L0 (e1.other (O2:=O2) fd.g (λj e=> .inl e) (ar.OV λb e=> .inl e) (λb e1 e2=>by have:=l1 b e1;have:=Hn b e2;omega) O (PY jx) (λy e1 e2=>Ho y (.inl (by omega))) ?_) ⟨fd.untold,Je,ah,λb hb=> .inl (.inl (sh b hb)),λb hb=>by have:=Hn b hb;omega,by have:=dR.a2;omega,by show _<=(Qh Q.L (W.a+L0) L0 true).length;rw[PY jx];exact jx,?_⟩ (by omega) (λb e1 e2=>by have:=l1 b e1;have:=Hn b e2;omega) (by show _<=3000+2000*(0+0);omega)
  ·intro i e1 e2;show(Qh Q.L (W.a+L0) L0 true)[i]? =some true;rw[Re jx,if_neg (by omega),BK,Re BL,if_pos ⟨e1,e2⟩]
  ·intro i e1 e2;show(Qh Q.L (W.a+L0) L0 true)[i]? =some true;rw[Re jx,if_pos ⟨e1,e2⟩]
 have sG:=hL.ext ad
 have uI:=ad.OC hG
 have BM:=ad.OC hU
 refine OK O$ RA O$ PU O$ Pn.qb (e:=[(1,_),(2,_),(4,_),(5,_),(6,_),(8,_),(9,_),(10,_),(11,_),(12,_)]) ?_
 refine PG O$ qV ((Sb O)) ?_
 rw[show(!true)=false from rfl]
 refine P8 O$ Qf O$ PK O$ P8 O$ Qf O$ PK O$ PW O$ QB O$ It$ QB O$ OH$ RX (λe' w'=>∃(s:Si) (r1:Nat),e'=[(5,.slice (some ⟨bg,0,none⟩) g.length g.length),(9,ptr r1 0),(11,ptr rr2 0),(13,.bool true)]/\s.done=true/\BpP w1 g p r1 rr2 s s w'/\Ext w1 w') ?cE$ λcE=>?cV
 case cE=>
  rintro e' w11 ⟨s,r1,rfl,hd,kH,aS⟩;refine It$ QB O$ OH$ Rq (α:=Nat) (0) (λv=>[(5,.slice (some ⟨bg,0,none⟩) g.length g.length),(9,ptr r1 0),(11,ptr rr2 0),(13,.bool true),(25,I (v:Int))]) (λv w'=>v<=g.length/\BpP w1 g p r1 rr2 s s w'/\Ext w1 w') (λv=>g.length-v) ?hI ?hround
  case hI=>exact⟨Nat.zero_le _,kH,aS⟩
  case hround=>
   rintro v w12 ⟨hv,kk,aF⟩ ih
   try dsimp only
   refine It$ Qm O$ Rv WR O$ Qq O$ OD$ OQ O (λhq=>?_)$ λhq=>?_
   ·have eg:v<g.length:=by omega
    refine OE$ Qx$ Qm O$ P4 zfI O (z0S kk aF hd eg) ?_;rintro _ w13 ⟨rfl,gM,aO⟩;refine OK O$ RA O$ RT O$ Qw O$ P8 O$ P4 zfI O (z0S gM.symm aO hd eg) ?_;rintro _ w14 ⟨rfl,mx,bO⟩;refine OK O$ RA O$ RT O$ Qw O$ P8 O$ Qf O$ PF$ P8 O$ Qf O$ PK O$ P8 O$ Qf O$ PK O$ PW O ?_;refine OA$ Rh O$ PV O$ OU O ?_;exact(ih (v+1) _ ⟨by omega,mx.symm,bO⟩ (by omega)).qb
   ·refine ON O$ Qm O$ OK O$ P4 zgs O (Z8 kk) ?_;rintro _ w12 ⟨rfl,rfl⟩;refine OK O$ P4 zgs O (Z8 kk.symm) ?_;rintro _ w12 ⟨rfl,rfl⟩;refine Ri O$ Rp$ QJ O$ OK O$ P4 zkX O (z4v (aF.OC uI) (aF.OC BM)) ?_;rintro _ w13 ⟨rfl,aO⟩;refine QJ O$ OU O$ OB func4 O ?_;exact⟨_,rfl,rfl,(ad.trans aF).trans aO⟩
 case cV =>
  refine Rq (α:=Si×Nat×Nat) ((Si.new g p 50 sd,rr,0)) (λy=>[(1,.slice la ls.length lc),(2,ptr bn 0),(5,.slice (some ⟨bg,0,none⟩) g.length g.length),(6,I (p:Int)),(9,ptr y.2.1 0),(11,ptr rr2 0),(13,.bool y.1.done),(14,I (y.2.2:Int))]) (λy w'=>BpP w1 g p y.2.1 rr2 y.1 y.1 w'/\Ext w1 w'/\y.2.2<=12/\y.2.2<=ls.length) (λy=>12-y.2.2) ?hI ?hround
  case hI=>exact⟨No,e8,Nat.zero_le _,Nat.zero_le _⟩
  case hround =>
   rintro⟨s,r1,i⟩ w11 ⟨kH,aS,Hp,bQ⟩ ih;dsimp only at kH Hp bQ ih⊢
   try dsimp only
   by_cases hd:s.done=true
   ·rw[hd];refine PG O$ qV ((Sb O))$ OK O ?_;rw[show(!true)=false from rfl];refine QG$ PK O$ OD$ OJ O$ ON O ?_;exact(cE _ _ ⟨s,r1,rfl,hd,kH,aS⟩).qb
   ·have BN : s.done = false := by cases e : s.done with
     |false=>rfl
     |true=>exact absurd e hd
    rw[BN];refine PG O$ qV ((Sb O))$ OK O ?_;rw[show(!false)=true from rfl];refine OK O$ Qq O$ Rp$ QJ O$ OD$ OS O$ OE$ Qx$ QB O$ It$ PI (λe' w'=>∃(q:Nat) (dq:Bool),e'=[(1,.slice la ls.length lc),(2,ptr bn 0),(5,.slice (some ⟨bg,0,none⟩) g.length g.length),(6,I (p:Int)),(9,ptr r1 0),(11,ptr rr2 0),(13,.bool dq),(14,I (i:Int)),(15,I (q:Int))]/\dq=s.done/\q<=100/\(q=60\/(i<ls.length/\i<12))/\w'=w11) ?dv$ λdv=>?ff
    case dv =>
     rintro e' w12 ⟨q,dq,rfl,rfl,hq,Np,rfl⟩;refine It$ QB O$ OH$ RX (λe' w'=>∃s':Si,e'=[(1,.slice la ls.length lc),(2,ptr bn 0),(5,.slice (some ⟨bg,0,none⟩) g.length g.length),(6,I (p:Int)),(9,ptr r1 0),(11,ptr rr2 0),(13,.bool s'.done),(14,I (i:Int))]/\BpP w1 g p r1 rr2 s' s' w'/\Ext w1 w'/\(s'.done=true\/(i<ls.length/\i<12))) ?aw$ λaw=>?dz
     case aw =>
      rintro e' w13 ⟨s',rfl,gM,aO,qn⟩;by_cases h1:ls.length<=i
      ·have uN:s'.done=true:=qn.resolve_right (λh=>by omega);rw[uN];refine It$ Qm O$ Rv U56 O$ Te O$ Rp$ OK O$ QG$ QJ O$ OD$ OS O$ ON O ?_;exact(cE _ _ ⟨s',r1,rfl,uN,gM,aO⟩).qb
      ·by_cases h2:12<=i
       ·have uN:s'.done=true:=qn.resolve_right (λh=>by omega);rw[uN];refine It$ Qm O$ Rv U56 O$ Te O$ PF$ P8 O$ Te O$ Rp$ PK O$ OD$ OS O$ ON O ?_;exact(cE _ _ ⟨s',r1,rfl,uN,gM,aO⟩).qb
       ·refine It$ Qm O$ Rv U56 O$ Te O$ PF$ P8 O$ Te O$ PF$ PK O$ PW O$ Pf O ?_;obtain⟨e,he⟩:∃e,ls[i]? =some e:=⟨_,List.getElem?_eq_getElem (by omega)⟩;obtain⟨-,b2,b3,lb,lo,rfl,-,dX,ev⟩:=sG i e he;refine P4 zl3 O (z4y gM aO) ?_;rintro _ w14 ⟨rfl,mx,bO⟩;have l1:=(bO.OC uI).lt;have l2:=(bO.OC BM).lt;refine OK O$ RA O$ PU O$ It$ PI (λe' w'=>∃(V:Wd) (XV:Nat->Prop) (b26:Nat),e'=[(1,.slice (some ⟨lb,lo,none⟩) ls.length lc),(2,ptr bn 0),(5,.slice (some ⟨bg,0,none⟩) g.length g.length),(6,I (p:Int)),(9,ptr r1 0),(11,ptr rr2 0),(13,.bool s'.done),(14,I (i:Int)),(21,S (blT s')),(22,I 0),(23,ptr b26 0),(24,.bool true)]/\Ext w14 w'/\S3 V.G V.Q V.txt V.K XV w'/\(∀j,j<w14.heap.size->XV j)/\(w14.heap.size<=V.G.k/\w14.heap.size<=V.G.x)/\V.G.g=g/\Pre V.Q.L V.a/\V.a<=146/\V.Q.L.length=200/\V.K<=400/\V.G.st+V.G.len<=V.T.st/\V.T.st+V.T.len<=V.a/\OR w' b26 [ptr V.d 0,ptr V.Q.s 0,ptr V.G.k 0,ptr V.T.k 0,I ((200-V.a:Nat):Int)] 32/\w14.heap.size<=b26) ?kj$ λkj=>?kl
        case kj=>
         rintro e' w15 ⟨V,XV,b26,rfl,vf,gN,mO,AN,Hq,Jf,Ov,Ow,Ox,Oy,Oz,cq,qK⟩;have cN:=z3N mx bO vf gN mO AN;refine PG O$ Qf O$ P8 O$ qV ((Sb O))$ PK O$ P8 O$ P4 zlv O (cN) ?_;rintro _ w16 ⟨rfl,aX,XV',AO,Hr,Hs,Nq⟩;have eS:=Hs.OC cq (λe=>by omega);have Ht:=aX.OC kM;refine Qf O$ PK O ?_;have AP:V.G.g.length=g.length:=by rw[Hq]
         have Nr:=bO.size;have Hu:=aX.size;refine PW O$ qN O$ OX z3s O$ qV ((OO XF O O eS O))$ OX z3K O$ qV ((OO U30 O O eS O))$ OK O$ OX z6c O$ qV ((OO Rr O O Ht O))$ OK O$ qV ((PZ O U3 Rr (by omega)))$ qV (RQ O O)$ P4 cf8 O (WW AO (by omega) (by omega) Jf (by omega) (p:=p) (rounds:=50) (seed:=(sd+i)%18446744073709551616) ⟨s8.1,by omega⟩ ⟨by decide,by decide⟩ (Nat.mod_lt _ (by decide)) (by rw[AP,ve];omega)) ?_;rintro _ w17 ⟨r1',O1',txt17,ys17,rfl,Hv,Jg,Hw,ci⟩;rw[AP,ve] at Jg Hw;have AQ:∀b,b<w1.heap.size->XV' b:=λb hb=>Hr b (mO b (by omega))
         have fP:Ext w1 w17:=aX.An ci λb e=>by
          rcases Nat.lt_or_ge b w1.heap.size with h| h
          ·exact absurd (AQ b h) e
          ·exact h
         obtain⟨Ns,-⟩:=mx.zbB;have Hx:V.a+L0<=V.Q.L.length:=by omega
         have qW:=z69 Nq AO Hq ci Hv AQ Hu Jg Jf.a2 (by show _<=(Qh V.Q.L V.a L0 true).length;rw[PY Hx];exact Hx) (λi e1 e2=>by show(Qh V.Q.L V.a L0 true)[i]? =some true;rw[Re Hx,if_pos ⟨e1,e2⟩]) fP (by omega) Ns (by rw[Hq];exact .new g ⟨s8.1,by omega⟩ ⟨by decide,by decide⟩) O O (Nat.le_refl _);refine OK O$ RA O$ RT O$ Qt O$ Qf O$ P8 O$ OK O$ P4 zkU O (qW) ?_;rintro _ w18 ⟨rfl,Hy,Hz⟩;refine Qf O$ PK O$ PW O$ OA$ Rh O$ PV O$ OU O ?_;exact(ih (s',r1',i+1) _ ⟨Hy,Hz,by show i+1<=12;omega,by show i+1<=ls.length;omega⟩ (by show 12-(i+1)<12-i;omega)).qb
        case kl=>
         have ah:=Ext.OT w14;have aY:=ah.size;refine P7 [16] (λw'=>Ext w14 w') (by kernel_rfl) O$ PL 0 O O (ah)$ PL 1 O O (ah)$ PL 2 O O (ah)$ P9 3 O (PX U56 zgm O O (by omega)) ah$ P9 4 O (Pp zgg O) ah$ PL 6 O O (ah)$ PL 7 O O (ah)$ P9 8 O (PX U56 zgm O O (by omega)) ah$ P9 9 O (Pp zg9 O) ah$ qL 5 O (λ_ h=>Pr U3 O O (PH h (PH bO dX))) ah$ qL 10 O (λ_ h=>Pr U3 O O (PH h (PH bO ev))) ah$ WH (i:=11) (j:=15) (by kernel_rfl) ?_ ?_
         ·refine Rx (i:=11) O O O (yc cf7 O) (z1U ay aG ib ((vd.ext bO).ext ah) (ah.OC (bO.OC uI)) (ah.OC (bO.OC BM)) e.2.1 e.2.2 b2 b3) ?_;rintro _ wl ⟨V,XV,rfl,hV,dj,mO,Nt,Nu⟩;refine⟨ah.trans dj,?_⟩;have gN:=hV.hg;have AN:w14.heap.size<=V.G.k/\w14.heap.size<=V.G.x:=⟨by omega,by omega⟩;have vg:∀b,b<w14.heap.size->XV b/\b≠V.G.rb:=λb hb=>⟨(mO b (by omega)).1,(mO b (by omega)).2.1⟩
          try have AR:S3 V.G V.Q V.txt V.K (λb=>(XV b/\b≠V.G.rb)\/b=b26) wl:=gN.less (λj e=>e.elim id λe=>by subst e;exact⟨(mO _ cq.lt).1,(mO _ cq.lt).2.1⟩) ⟨.inl gN.xk.1,.inl gN.xk.2.1,.inl gN.xk.2.2.1,.inl gN.xk.2.2.2⟩
          try have gO:b26≠V.G.k/\b26≠V.G.x:=⟨by have:=cq.lt;omega,by have:=cq.lt;omega⟩
          have ah:=ah.trans dj;have aY:=Nat.le_trans aY dj.size
          try have cq:=dj.OC cq
          refine PL 12 O O ah$ P9 13 O (Rw O O) ah$ Q8 (i:=14) O (by kernel_rfl) O O (λ_=>Rw O O) ah$ QY (i:=15) (by kernel_rfl)$ Ql (i:=15) O O O (RN (cs:=[_,_,_,_,_]) z0p O) ?_;rintro _ wa ⟨b26,rfl,HA,qP,cq⟩;refine⟨ah.trans qP,?_⟩;have qK:w14.heap.size<=b26:=by omega
          try have AR:S3 V.G V.Q V.txt V.K (λb=>(XV b/\b≠V.G.rb)\/b=b26) wa:=gN.grow qP (λj e=>e.imp id λe=>by have:=cq.lt;omega) (λj e=> .inl e)
          try have gO:b26≠V.G.k/\b26≠V.G.x:=⟨by have:=gN.lt _ gN.xk.1;omega,by have:=gN.lt _ gN.xk.2.1;omega⟩
          have ah:=ah.trans qP;have aY:=Nat.le_trans aY qP.size;refine SM [16]$ qO 16$ PC (i:=16) O O (PO (news:=V.v) z0p O O O O cq (by simp)) ?_;rintro ws ⟨iS,ey⟩;refine⟨trivial,?_⟩;refine OI 17 O (R7 O) trivial$ qE ?_;have vh:=AR.own ey (λj e=>by subst e;exact⟨.inr O,gO.1,gO.2,by omega,by omega⟩);exact(kj _ _ ⟨V,_,b26,rfl,ah.An ey (λj e=>by omega),vh,λj hj=> .inl (vg j hj),AN,hV.gg,hV.pre,hV.a,hV.L,hV.K,hV.gs,hV.ts,iS,qK⟩).qb
         ·refine Ql (i:=15) O O O (RN (cs:=[_,_,_,_,_]) z0p O) ?_;rintro _ wa ⟨b26,rfl,HA,qP,cq⟩;refine⟨ah.trans qP,?_⟩;have qK:w14.heap.size<=b26:=by omega
          try have AR:S3 V.G V.Q V.txt V.K (λb=>(XV b/\b≠V.G.rb)\/b=b26) wa:=gN.grow qP (λj e=>e.imp id λe=>by have:=cq.lt;omega) (λj e=> .inl e)
          try have gO:b26≠V.G.k/\b26≠V.G.x:=⟨by have:=gN.lt _ gN.xk.1;omega,by have:=gN.lt _ gN.xk.2.1;omega⟩
          have ah:=ah.trans qP;have aY:=Nat.le_trans aY qP.size;refine QY (i:=11) (by kernel_rfl)$ Rx (i:=11) O O O (yc cf7 O) (z1U ay aG ib ((vd.ext bO).ext ah) (ah.OC (bO.OC uI)) (ah.OC (bO.OC BM)) e.2.1 e.2.2 b2 b3) ?_;rintro _ wl ⟨V,XV,rfl,hV,dj,mO,Nt,Nu⟩;refine⟨ah.trans dj,?_⟩;have gN:=hV.hg;have AN:w14.heap.size<=V.G.k/\w14.heap.size<=V.G.x:=⟨by omega,by omega⟩;have vg:∀b,b<w14.heap.size->XV b/\b≠V.G.rb:=λb hb=>⟨(mO b (by omega)).1,(mO b (by omega)).2.1⟩
          try have AR:S3 V.G V.Q V.txt V.K (λb=>(XV b/\b≠V.G.rb)\/b=b26) wl:=gN.less (λj e=>e.elim id λe=>by subst e;exact⟨(mO _ cq.lt).1,(mO _ cq.lt).2.1⟩) ⟨.inl gN.xk.1,.inl gN.xk.2.1,.inl gN.xk.2.2.1,.inl gN.xk.2.2.2⟩
          try have gO:b26≠V.G.k/\b26≠V.G.x:=⟨by have:=cq.lt;omega,by have:=cq.lt;omega⟩
          have ah:=ah.trans dj;have aY:=Nat.le_trans aY dj.size
          try have cq:=dj.OC cq
          refine PL 12 O O ah$ P9 13 O (Rw O O) ah$ Q8 (i:=14) O (by kernel_rfl) O O (λ_=>Rw O O) ah$ SM [16]$ qO 16$ PC (i:=16) O O (PO (news:=V.v) z0p O O O O cq (by simp)) ?_;rintro ws ⟨iS,ey⟩;refine⟨trivial,?_⟩;refine OI 17 O (R7 O) trivial$ qE ?_;have vh:=AR.own ey (λj e=>by subst e;exact⟨.inr O,gO.1,gO.2,by omega,by omega⟩);exact(kj _ _ ⟨V,_,b26,rfl,ah.An ey (λj e=>by omega),vh,λj hj=> .inl (vg j hj),AN,hV.gg,hV.pre,hV.a,hV.L,hV.K,hV.gs,hV.ts,iS,qK⟩).qb
     case dz =>
      refine Rq (α:=Si×Nat) ((s,0)) (λy=>[(1,.slice la ls.length lc),(2,ptr bn 0),(5,.slice (some ⟨bg,0,none⟩) g.length g.length),(6,I (p:Int)),(9,ptr r1 0),(11,ptr rr2 0),(13,.bool y.1.done),(14,I (i:Int)),(15,I (q:Int)),(16,I (y.2:Int))]) (λy w'=>BpP w1 g p r1 rr2 y.1 y.1 w'/\Ext w1 w'/\y.2<=y.1.t/\y.2<=q) (λy=>q-y.2) ?hI ?hround
      case hI=>exact⟨kH,aS,Nat.zero_le _,Nat.zero_le _⟩
      case hround=>
       rintro⟨s2,k⟩ w13 ⟨gM,aO,Aq,Fz⟩ ih2;dsimp only at gM Aq Fz ih2⊢;obtain⟨Jh,-⟩:=gM.zbB;have FH:=Jh.t
       try dsimp only
       by_cases hk:k<q
       ·refine It$ Qm O$ Qq O$ Rp$ OK O ?_;by_cases lQ:s2.done=true
        ·rw[lQ];refine OK O$ qV ((Sb O))$ QJ O ?_;rw[show(!true)=false from rfl];refine OD$ OJ O$ ON O ?_;exact(aw _ _ ⟨s2,by rw[lQ],gM,aO,.inl lQ⟩).qb
        ·have vm:s2.done=false:=by cases e:s2.done with
          |false=>rfl
          |true=>exact absurd e lQ
         rw[vm];refine OK O$ qV ((Sb O))$ QJ O ?_;rw[show(!false)=true from rfl];refine OD$ OS O$ OE$ Qx$ Pf O$ P4 zbi O (z0d gM aO ay vm (by omega)) ?_;rintro _ w14 ⟨rfl,mx,bO⟩;refine OK O$ RA O$ RT O$ Qt O$ P4 zbi O (z0d mx.symm bO ay vm (by show s2.t+1<=200;omega)) ?_;rintro _ w15 ⟨rfl,HB,vf⟩;refine OK O$ RA O$ PU O$ PG O$ Qf O$ P8 O$ Qf O$ PK O$ P8 O$ OK O$ qV (zbJ O O U4) ?_;rw[show(!((s2.step g).done==(s2.step g).done))=false by simp];refine PK O$ PW O$ Rh O$ OU O$ OA$ Rh O$ PV O$ OU O ?_;exact(ih2 (s2.step g,k+1) _ ⟨HB.symm,vf,by show k+1<=s2.t+1;omega,by show k+1<=q;omega⟩ (by show q-(k+1)<q-k;omega)).qb
       ·refine It$ Qm O$ Qq O$ PF$ OK O$ QG$ PK O$ OD$ OJ O$ ON O ((aw _ _ ⟨s2,rfl,gM,aO,?_⟩).qb)
        cases e:s2.done with
        |true=>exact .inl O
        | false =>
          have:=Jh.lt e;rcases Np with e2|e2
          ·omega
          ·exact .inr e2
    case ff=>
     by_cases h1:i<ls.length
     ·refine Qm O$ Rv U56 O$ Qq O$ Rp$ OK O ?_;by_cases h2:i<12
      ·refine OK O$ Qq O$ Rp$ QJ O ?_;obtain⟨e,he⟩:∃e,ls[i]? =some e:=⟨_,List.getElem?_eq_getElem h1⟩;obtain⟨b1,b2,b3,lb,lo,rfl,qX,dX,ev⟩:=(sG.ext aS) i e he;refine OD$ OS O$ OL O$ P8 O$ qV (PX U56 zgm O O (by omega))$ OX zgo O$ qV (Pr U3 O O qX) ?_;have q5:=TE e.1 4 (by decide);have q6:=VE e.1 4 (by decide);refine qV (yrt O O (by decide))$ PV O$ qV (yrt O O (by decide)) ?_;rw[show(e.1.tmod 4+4).tmod 4=nrm e.1 4 from rfl];obtain⟨q,hq,cD⟩:∃q:Nat,nrm e.1 4=(q:Int)/\q<4:=⟨(nrm e.1 4).toNat,by omega,by omega⟩;rw[hq];refine OU O ?_;exact(dv _ _ ⟨q,false,rfl,BN.symm,by omega,.inr ⟨h1,h2⟩,rfl⟩).qb
      ·refine OK O$ Qq O$ PF$ QJ O$ PW O ?_;exact(dv _ _ ⟨60,false,rfl,BN.symm,by omega,.inl O,rfl⟩).qb
     ·refine Qm O$ Rv U56 O$ Qq O$ PF$ OK O$ QG$ PK O$ PW O ?_;exact(dv _ _ ⟨60,false,rfl,BN.symm,by omega,.inl O,rfl⟩).qb
end Go.Proofs.YtgdkbagngobdlaaGreatDoor
namespace Go.Proofs.YtgdkbagngobdlaaGreatDoor
open Go Go.ChangeShapes Go.WideShapes Go.ChangeAt Go.RowKit Go.Deep Go.Proofs.Tryz
section
variable {H:Type}{enc:TypeId×Value->H}{W:World}{sp:Nat->Bool}
def z9i {fuel:Nat}{cs:List Value}{x:DataW H×List MemPlace}(h:DataW.trod enc prog W 0 sp true fuel 58 cs=some x):∃e:Int×Int×Int,cs=[I e.1,I e.2.1,I e.2.2]/\JIq e.1/\JIq e.2.1/\(JIq e.2.2):=by
 obtain⟨xs,n,-,hx,hl,hlen,hf⟩:=DataW.trod_struct underlying58 h
 rw[show prog.cellsOf 58=3 by kernel_rfl] at hl
 match xs,hlen with
 |[y0,y1,y2],_=>
 match cs,hl with
 | [c0, c1, c2], _ =>
   have hc:prog.cellsOf 3=1:=by kernel_rfl
   have t0:=hf 0 _ O;have t1:=hf 1 _ O;have t2:=hf 2 _ O;obtain⟨n0,e0,-,w0⟩:=DataW.trod_int underlying3 t0;obtain⟨n1,e1,-,w1⟩:=DataW.trod_int underlying3 t1;obtain⟨n2,e2,-,w2⟩:=DataW.trod_int underlying3 t2;obtain rfl:c0=I n0:=by simpa[hc] using e0
   obtain rfl:c1=I n1:=by simpa[hc] using e1
   obtain rfl:c2=I n2:=by simpa[hc] using e2
   exact⟨(n0,n1,n2),rfl,i64_in _ w0,i64_in _ w1,i64_in _ w2⟩
def open_stops {fuel:Nat}{v:Value}{x:DataW H×List MemPlace}(h:DataW.trod enc prog W 0 sp true fuel 56 [v]=some x)(hw:∀n∈x.1.weights prog 56,n<=reachBytes):∃(la:Option Addr) (lc:Nat) (ls:List (Int×Int×Int)),v= .slice la ls.length lc/\z5s W la ls/\ls.length<=9000000000000000000:=by
 rcases open_slice underlying56 h with⟨hv,hx⟩|⟨a,len,cap,m,n,D,Pl,hv,-,hl,hm,hmm,hx,hel⟩
 ·cases hv;exact⟨none,0,[],rfl,λi e he=>by simp at he,by simp⟩
 ·cases hv;rw[show prog.cellsOf 58=3 by kernel_rfl] at hel;have hlm:len<=m:=by rw[hmm];split<;>omega
  have hk:∀i,i<len->∃e:Int×Int×Int,JIq e.1/\JIq e.2.1/\JIq e.2.2/\W.cells? 0 (a.add (i*3)) 3=some [I e.1,I e.2.1,I e.2.2]:=λi hi=>by
   obtain⟨cs',c1,c2⟩:=hel i (by omega);obtain⟨e,rfl,b1,b2,b3⟩:=z9i c2;exact⟨e,b1,b2,b3,c1⟩
  obtain⟨E,hE⟩:=choose_lt (α:=Int×Int×Int) (n:=len) (p:=λi e=>JIq e.1/\JIq e.2.1/\JIq e.2.2/\W.cells? 0 (a.add (i*3)) 3=some [I e.1,I e.2.1,I e.2.2]) hk;refine⟨some a,cap,(List.range len).map E,by simp,λi e he=>?_,?_⟩
  ·rw[List.getElem?_map] at he;rcases Nat.lt_or_ge i len with hi|hi
   ·rw[List.getElem?_range hi] at he;obtain rfl:=Option.some.inj he;obtain⟨g1,g2,g3,g4⟩:=hE i hi;obtain⟨b,off,spot⟩:=a;have h0:=(hE 0 (by omega)).2.2.2;obtain⟨-,-,h3⟩:=World.cells?_some h0;have h3:=h3 0 (by decide);rw[Nat.zero_mul] at h3;simp only[Addr.add,if_true] at h3;obtain rfl:=z33 h3;obtain⟨-,-,h4⟩:=World.cells?_some g4;have k0:=h4 0 (by decide);have k1:=h4 1 (by decide);have k2:=h4 2 (by decide);rw[R8,R8] at k0 k1 k2;exact⟨g1,g2,g3,b,off,rfl,k0,k1,k2⟩
   ·rw[List.getElem?_eq_none (by simpa using hi)] at he;cases he
  ·have hwt:=hw ((len+(m-len))*24) (by rw[hx];simp[DataW.weights,underlying56,show prog.bytesOf 58=24 by kernel_rfl]);simp[reachBytes] at hwt;simp;omega
end
def law_lifted_tied {H:Type}{enc:TypeId×Value->H}{C:Checked}{os:Os}{f:FuncId}{fn:Func}{s:ChangeSpec}{t:TypeId}{ts:List TypeId}{laid:List (String×DataW Unit)}
  (own:ownKnob C.prog.godebug=none) (started:os.Started) (hl:laidOutB C.prog=true) (noInit:C.prog.inits.idxOf? f=none) (hfn:C.prog.funcs[f]? =some fn)
  (hts:fn.params.toList=ts) (hrd:Zi C.prog ts=true) (hrt:fn.resultTypes=#[t]) (hb:C.prog.underlying t=some .bool) (hsv:s.vars=[])
  (hpl:(laid.all λx=>x.2.handleName?.isNone)=true)
  (hspec:∀ds:List (DataW H),ds.length=ts.length->s.fn H ds={results:=[.lit (.bool true)],args:=ds})
  (witness:∃(w:World) (tape:Tape) (i:Input),w.os=os/\(w.forCall tape i).Shaped C.prog/\i.vars=[]/\Input.okWide C.prog (w.forCall tape i) .any w.heap.size f i/\
   ((s.pre enc C.prog fn [] false (w.forCall tape i).memory i.args/\laidMetH C.prog laid (w.forCall tape i).memory)/\sizedMet enc C.prog fn (OpenSpec.ofChange s) false (w.forCall tape i).memory i.args)/\({}:Assume).holds C.prog (lone (Frame.enter C.prog f i.args .normal) [] (w.forCall tape i)))
  (hret:∀(W:World) (base:Nat) (args:List Value) (ds:List (DataW H)) (ps:List MemPlace),W.ShapedOpen C.prog->laidMet C.prog laid W->
   (∀(j:Nat) t v,ts[j]? =some t->args[j]? =some v->Value.okWide C.prog W .any base t v)->
   DataW.TrodAll enc C.prog W 0 (λ_=>true) true ts args ds ps->W.noneFrozen ps->
   (DataW.weightsEach C.prog ts ds).all (·<=reachBytes)=true->
   Pm C.prog f args W λv w'=>v= .bool true/\Ext W w'):
  ReturnsInHanded {} C os f .any (λw args=>(s.pre enc C.prog fn [] false w args/\laidMetH C.prog laid w)/\sizedMet enc C.prog fn (OpenSpec.ofChange s) false w args) (s.post enc C.prog fn false true false false):=by
 refine returnsInHanded_of_calls own started noInit witness ?_
 intro w tape i _ hsh _ hok hpre hholds
 obtain⟨_,_,_,fn',hfn',_,_,_,_,hval⟩:=hok
 have e:fn'=fn:=Option.some.inj (hfn'.symm.trans hfn)
 subst e
 obtain⟨⟨⟨ds,gs,before,hw,hc⟩,hx⟩,hz⟩:=hpre
 have hW:=DataW.Whole.of_heap (w':=w.forCall tape i) (by rfl) hw
 have hW':=hW
 have hsz0:(DataW.weightsEach C.prog (fn'.params.toList++s.plain.varTypes C.prog) (ds++gs)).all (·<=reachBytes)=true:=hz.weights hw
 obtain⟨p,q,hA,hV,rfl,hfz,_⟩:=hW
 rw[hsv] at hV
 obtain⟨rfl,rfl⟩:=trodVars_none hV
 rw[hts] at hA
 have hlen:=z07 hA
 have hsz:(DataW.weightsEach C.prog ts ds).all (·<=reachBytes)=true:=by
  have hv:s.plain.varTypes C.prog=[]:=by simp[ChangeSpec.plain,DataSpec.varTypes,hsv]
  rw[hts,hv,List.append_nil,List.append_nil] at hsz0;exact hsz0
 have hL:laidMet C.prog laid (w.forCall tape i):=by
  rw[MakeChecks.laidMetH_plain _ _ _ hpl] at hx;exact hx.of_heap (by rfl)
 have hr:=hret _ w.heap.size i.args.toList ds p hsh hL (λj t v h1 h2=>hval j t v (by rw[<-hts] at h1;simpa using h1) (by simpa using h2)) hA (by rw[List.append_nil] at hfz;exact hfz) hsz
 unfold Pm at hr;rw[Array.toArray_toList] at hr
 refine Calls.mono hr λx W' ⟨v,hx,hv,hext⟩=>?_
 subst hx;subst hv
 have bel:=hext.below
 refine ChangeSpec.post_blind ⟨ds,[],p++[],[],p,[],hW',?_,?_,?_,bel.frame _,λh=>by cases h⟩
 ·rw[List.append_nil,hspec ds hlen,hrt];exact trodAll_mk1 (shut_bool hb _)
 ·rw[List.append_nil,hspec ds hlen,hts];exact XK hl bel hrd hA
 ·rw[hsv,List.append_nil,hspec ds hlen]
  rfl
def pair_cells {P:Program}{W:World}{t fuel:Nat}{cs:Array Value}{f0 f1:Field}{ka kb:IntKind}{a b:Int}{p:List MemPlace}(hs:P.underlying t=some (.struct #[f0,f1]))(hc:P.cellsOf t=2)(o0:f0.offset=0)(o1:f1.offset=1)
  (c0:P.cellsOf f0.type=1) (c1:P.cellsOf f1.type=1) (u0:P.underlying f0.type=some (.int ka)) (u1:P.underlying f1.type=some (.int kb))
  (hd:DataW.trod (λ_=>()) P W 0 (λ_=>true) false fuel t cs.toList=some (.agg [.lit (.int ka a),.lit (.int kb b)],p)):cs.toList=[.int ka a,.int kb b]:=by
 obtain⟨y0,y1,n,hx,hl,h0,h1⟩:=trod_struct2 hs hd
 obtain⟨v0,e0,rfl,-⟩:=DataW.trod_int u0 h0
 obtain⟨v1,e1,rfl,-⟩:=DataW.trod_int u1 h1
 rw[hc] at hl
 rw[o0,c0] at e0
 rw[o1,c1] at e1
 simp at hx
 obtain⟨⟨rfl,rfl⟩,-⟩:=hx
 match hcs:cs.toList,hl with
 | [x, y], _ =>
   rw[hcs] at e0 e1;simp at e0 e1;rw[e0,e1]
def z7L {P:Program}{W:World}{n:String}{g T:Nat}{cs:Array Value}{l:List Value}(hW:W.ShapedOpen P)(hgs:g<P.globals.size)(hz:(((begin P (λ_ _=>0) default).world.heap[g]?).bind Obj.row?).map (·.2)=some T)(hg:P.globalNamed n=some g)(hv:W.var? P n=some cs)(hcs:cs.toList=l):OR W g l T:=by
 cases hr:((begin P (λ_ _=>0) default).world.heap[g]?).bind Obj.row? with
 |none=>rw[hr] at hz;cases hz
 | some x =>
   obtain⟨z,t⟩:=x;rw[hr] at hz;obtain rfl:t=T:=Option.some.inj hz;obtain⟨c,hh,-,-⟩:=hW.1 g z t hgs hr;simp only[World.var?,hg,Option.bind_some,hh] at hv;have hc:c=cs:=by simpa using hv
   subst hc;refine⟨(0,0),by rw[hh,<-hcs],λi _ e=>by simp at e⟩
def laid_two {W:World}{laid:List (String×DataW Unit)}(hlaid:laid=[("wattle/list.gamma",.agg [.lit (.int .u8 1),.lit (.int .u64 0)]),("wattle/list.unary",.agg [.lit (.int .u8 0),.lit (.int .u64 0)])])(hW:W.ShapedOpen prog)(h:laidMet prog laid W):OR W 2 [.int .u8 1,.int .u64 0] 317/\OR W 3 [.int .u8 0,.int .u64 0] 317:=by
 subst hlaid
 obtain⟨ps,hL,-,hB⟩:=h
 obtain⟨g0,t0,cs0,fuel0,p0,q0,hg0,ht0,hv0,hd0,hL,hps⟩:=hL
 obtain⟨g1,t1,cs1,fuel1,p1,q1,hg1,ht1,hv1,hd1,hL,hqs⟩:=hL
 obtain rfl:=Option.some.inj ((show prog.globalNamed "wattle/list.gamma"=some 2 by kernel_rfl).symm.trans hg0)
 obtain rfl:=Option.some.inj ((show prog.globalNamed "wattle/list.unary"=some 3 by kernel_rfl).symm.trans hg1)
 obtain rfl:=Option.some.inj ((show(prog.globals[2]?).map (·.type)=some 317 by kernel_rfl).symm.trans ht0)
 obtain rfl:=Option.some.inj ((show(prog.globals[3]?).map (·.type)=some 317 by kernel_rfl).symm.trans ht1)
 have e0:=pair_cells underlying317 (by kernel_rfl) O O (by kernel_rfl) (by kernel_rfl) underlying5 underlying23 hd0
 have e1:=pair_cells underlying317 (by kernel_rfl) O O (by kernel_rfl) (by kernel_rfl) underlying5 underlying23 hd1
 exact⟨z7L hW (show 2<prog.globals.size from of_decide_eq_true (by kernel_rfl)) (by kernel_rfl) hg0 hv0 e0,z7L hW (show 3<prog.globals.size from of_decide_eq_true (by kernel_rfl)) (by kernel_rfl) hg1 hv1 e1⟩
noncomputable def limWorld (os:Os):World:=
 let w0:=World.holding prog os ⟨#[],#[],[]⟩
 { w0 with heap := w0.heap.modify 2 fun
   | .cells _ t frozen=> .cells #[.int .u8 1,.int .u64 0] t frozen
   |o=>o}
end Go.Proofs.YtgdkbagngobdlaaGreatDoor
