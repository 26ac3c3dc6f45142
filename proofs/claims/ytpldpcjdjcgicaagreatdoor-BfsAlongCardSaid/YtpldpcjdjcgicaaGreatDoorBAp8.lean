/- Texts StE, StF, Bds, StG, WkG, WkH, VcA, VcB, VcC, VcD, VcE, Bfp, Bfq, PkS, Gws, BfA, LpM, Bfr, BfB, BfC, BfD, RgA, RgB, one behind the other (what the statement BfsAlong does not use is left out). -/
import Derived.Test.YtpldpcjdjcgicaaGreatDoorBAp2
import Derived.Test.YtpldpcjdjcgicaaGreatDoorBAp7
import Derived.Lib.UnsafeStr
import Derived.Test.YtpldpcjdjcgicaaGreatDoorBAp6
import Derived.Test.YtpldpcjdjcgicaaGreatDoorBAp1
set_option maxHeartbeats 16000000
namespace Go.Proofs.YtpldpcjdjcgicaaGreatDoor
open Go Go.RowKit
set_option linter.all false
set_option maxRecDepth 100000
section
variable {w w':World}{Q:MP}{txt:Int→Bytes}{K:Nat}{X S':Nat→Prop}{st len wb bs bx bw at' n sum:Nat}{rest:Value}{T:Bytes}
theorem z32 (T:Bytes)(k:Nat):((T.drop (512*k)).map Od).drop 512=(T.drop (512*(k+1))).map Od:=by
 rw[←List.map_drop,List.drop_drop]
 congr 2
def SwI (Q:MP)(txt:Int→Bytes)(K:Nat)(X:Nat→Prop)(st len wb bs bx bw:Nat)(T:Bytes)(sum:Nat)(w:World)(k:Nat)(w':World):Prop:=
 ∃txt' rest,Sp Q txt' (K+k) (fun b=>X b∨rest.ownBlock=some b) w'∧XR Q.s st len wb bs bx bw rest k T.length sum w'∧Sl w' rest 5 1 (T.length-512*k) ((T.drop (512*k)).map Od)∧(∀j,j<k→txt' ((st+j:Nat):Int)=(T.drop (512*j)).take 512)∧(∀y:Int,y<(st:Int)∨(st:Int)+(k:Int)≤y→txt' y=txt y)∧Kp (fun b=>¬X b∨b=wb) w w'∧(∀b,rest.ownBlock=some b→w.heap.size≤b)
theorem YX (hP:Sp Q txt K X w)(hX:∀b,X b→b<w.heap.size)(hK:K≤100000000000)(h:XR Q.s st len wb bs bx bw (.slice none 0 0) 0 0 sum w)(ge:sum<4294967296)(aZ:X wb∧X bs∧X bx∧X bw)(cK:st+len≤Q.L.length)(h1:1≤len)(hT:T.length≤len*512-12):
  Le Tryz.prog 47 [ptr wb 0,S T] w fun v w'=>v=I 0∧∃sum',sum'<4294967296∧SwI Q txt K X st len wb bs bx bw T sum' w (T.length / 512) w':=by
 have eJ:maxLen=9223372036854775807:=rfl
 have dR:=hP.n
 refine KA (e:=[(0,_),(1,_)]) Tryz.func47 rfl Tryz.ntmps47 rfl rfl (qN rfl (KE rfl (py (run_seq (qN rfl (An rfl (L2 [.tmp 8] z9V rfl (SR h.wr) ?_)))))))
 rintro _ w ⟨rfl,rfl⟩
 refine KE rfl (qM rfl (An rfl (qV (LQ rfl rfl) (py (Kx rfl (It (run_seq (qN rfl (An rfl (qV (QE U9 rfl) (An rfl (L2 [.tmp 15] zcC rfl (Yu hP (by omega) (by omega) h.wr) ?_))))))))))))
 rintro _ w1 ⟨rfl,ad⟩
 have o2:=hP.ext' ad
 have dz:=h.ext ad
 have ai:=dz.cells
 refine qV (LH rfl rfl) (Lq (py (Kx rfl (It (qN rfl (An rfl (qV (KZ rfl) (qV (KK Ur rfl) (qV (KJ U3 rfl rfl ai rfl) (An rfl (qV (QE U9 rfl) (Lz rfl rfl (qV (KZ rfl) ?_)))))))))))))
 refine qV (KK Ur rfl) ?_
 rw[show((0:Nat):Int)+(T.length:Int)=(T.length:Int) by omega]
 refine KR rfl (Mn LC rfl rfl rfl ai (by simp)) ?_
 rintro w2 ⟨ak,am⟩
 have dB:=dz.re am (show KP w2 wb (swC Q.s st len (.slice none 0 0) 0 T.length sum (VB bs bx bw) false) 175 from ak)
 have ek:=o2.own am (fun b e=>by rw[e];exact aZ.1)
 have dx:=dB.cells
 refine qM rfl (An rfl (An rfl (qV (KZ rfl) (qV (KK Xu rfl) (qV (KJ Mg rfl rfl dx rfl) (An rfl (L2 [.tmp 31,.tmp 32] zbr rfl (z4t sum T _ ge (by omega)) ?_)))))))
 rintro _ w3 ⟨rfl,ah⟩
 have qi:=Sums.z7f T ge
 obtain⟨sum3,ia⟩:∃sum3,Sums.on sum T=sum3:=⟨_,rfl⟩
 rw[ia] at qi⊢
 have nO:=dB.ext ah
 have ar:=nO.cells
 refine qV (KZ rfl) (qV (KK Xu rfl) (KR rfl (Mn KY rfl rfl rfl ar (by simp)) ?_))
 rintro w4 ⟨aI,av⟩
 have th:=nO.re av (show KP w4 wb (swC Q.s st len (.slice none 0 0) 0 T.length sum3 (VB bs bx bw) false) 175 from aI)
 have kD:=(ek.ext' ah).own av (fun b e=>by rw[e];exact aZ.1)
 have ee:=th.cells
 refine py (Lc.qb (e:=[(0,_),(1,_),(4,_)]) ?_)
 refine qN rfl (An rfl (An rfl (qV (KZ rfl) (qV (KK ND rfl) (qV (KJ LU rfl rfl ee rfl) (An rfl (KL rfl rfl (zbY LU U9 Sf rfl rfl (Sl.nil w4 _ 1) (by omega)) ?_)))))))
 rintro v5 w5 ⟨fZ,aj,rq⟩
 simp only[List.nil_append,Nat.zero_add] at fZ
 replace aj:Ext w4 w5:=aj.KT (fun b e=>by cases e)
 have sF:∀b,v5.ownBlock=some b→w4.heap.size≤b:=fun b e=>(rq b e).elim (fun e=>by cases e) id
 obtain⟨a5,c5,rfl,-⟩:=fZ.rd.shape
 have nH:=th.ext aj
 have aG:=nH.cells
 have bz:Kp (fun b=>¬X b∨b=wb) w w5:=(((ad.kp.trans (am.KT fun b e=> .inr e)).trans ah.kp).trans (av.KT fun b e=> .inr e)).trans aj.kp
 have z4:w.heap.size≤w4.heap.size:=by have:=ad.size;have:=am.size;have:=ah.size;have:=av.size;omega
 have lwb:=aG.lt
 have lwb0:=hX _ aZ.1
 refine qV (KZ rfl) (qV (KK ND rfl) (KR rfl (Mn RJ rfl rfl rfl aG (by simp)) ?_))
 rintro w6 ⟨aW,aS⟩
 have Cy:=nH.re aS (show KP w6 wb (swC Q.s st len (.slice a5 T.length c5) 0 T.length sum3 (VB bs bx bw) false) 175 from aW)
 have pj:Sp Q txt K (fun b=>X b∨(Value.slice a5 T.length c5).ownBlock=some b) w6:=(kD.ext aj (fun b e=>e.imp id (sF b))).own aS (fun b e=> .inl (by rw[e];exact aZ.1))
 have iC:=fZ.kp aS (fun b hb e=>by have:=sF b hb;omega)
 have m6:=Cy.cells
 have gY:=bz.trans (aS.KT fun b e=>Or.inr e)
 refine qM rfl (An rfl (qV (KZ rfl) (qV (KK Rf rfl) (qV (KK PI rfl) (qV (KJ RR rfl rfl m6 rfl) (L2 [.tmp 49] YG rfl (pj.size) ?_))))))
 rintro _ w6 ⟨rfl,rfl⟩
 refine KE rfl (py (run_seq (KB (MQ (α:=Nat) (0) (fun k=>[(0,ptr wb 0),(6,I 512)]) (fun k w'=>k≤T.length / 512∧SwI Q txt K X st len wb bs bx bw T sum3 w k w') (fun k=>T.length / 512-k) ?hI ?hround))))
 case hI=>exact⟨Nat.zero_le _,txt,_,pj,Cy,iC,fun j hj=>by omega,fun y hy=>rfl,gY,fun b hb=>by have:=sF b hb;omega⟩
 case hround=>
  rintro k w8 ⟨hk,txt1,rest,nS,uE,er,nV,zd,bj,lL⟩ ih;obtain⟨a8,c8,rfl,-⟩:=er.rd.shape;have bU:=uE.cells;have En:=bj.size
  try dsimp only
  refine run_seq (qN rfl (An rfl (qV (KZ rfl) (qV (KK ND rfl) (qV (KJ LU rfl rfl bU rfl) (qV (LG LU rfl) (An rfl (qV (OL rfl rfl) (py (KQ rfl (fun h0=>?_) (fun h0=>?_)))))))))))
  ·have IG:512*k+512≤T.length:=by omega
   rcases er.shape with⟨e,tG⟩|⟨gb,cc,e,Fi⟩
   ·omega
   cases e;have HR:=lL gb rfl;have hg:=Ext.L4 w8;have en:((T.drop (512*k)).take 512).length=512:=by rw[List.length_take,List.length_drop];omega
   have D3:Rd w8 (.slice (some ⟨gb,0,none⟩) 512 c8) 1 ((T.drop (512*k)).take 512).length (((T.drop (512*k)).take 512).map Od):=by
    rw[en,List.map_take];exact Qp er.rd (by omega)
   have IH:∀b,(X b∨(Value.slice (some ⟨gb,0,none⟩) (T.length-512*k) c8).ownBlock=some b)→b<w8.heap.size:=fun b hb=>by
    rcases hb with e| e
    ·have:=hX b e;omega
    ·exact er.lt e
   refine It (KB (run_seq (run_seq (L5 [11,12] (fun w'=>Ext w8 w') (by kernel_rfl) rfl (qL [1,2,3,11,12] 0 rfl (fun _ h=>KM rfl) hg (qL [2,3,11,12] 1 rfl (fun _ h=>KZ rfl) hg (qL [3,11,12] 2 rfl (fun _ h=>KK UC rfl) hg (qL [11,12] 3 rfl (fun _ h=>KJ U62 rfl rfl (h.KD bU) rfl) hg (qL [5,6,7,9,10,11,12] 4 rfl (fun _ h=>KM rfl) hg (qL [6,7,9,10,11,12] 5 rfl (fun _ h=>KZ rfl) hg (qL [7,9,10,11,12] 6 rfl (fun _ h=>KK ND rfl) hg (qL [9,10,11,12] 7 rfl (fun _ h=>KJ LU rfl rfl (h.KD bU) rfl) hg (qL [9,10,11,12] 8 rfl (fun _ h=>KM rfl) hg ?_)))))))))))));refine qL [10,11,12] 9 rfl (fun _ h=>z5W LU Sf rfl rfl (by omega)) hg (qL [11,12] 10 rfl (fun _ hS=>z8s (l:=(T.drop (512*k)).take 512) LU U5 U9 rfl (D3.ext hS) (by omega)) hg (Lu [11] (by kernel_rfl) (by kernel_rfl) (qO 11 (QN (i:=11) rfl rfl rfl (N6 (args:=[.tmp 68]) z8t rfl rfl) (Tv (nS.ext' hg) (fun b hb=>by have:=IH b hb;have:=hg.size;omega) (by omega) (uE.ext hg) ⟨.inl aZ.1,.inl aZ.2.1,.inl aZ.2.2.1,.inl aZ.2.2.2⟩ (by omega) ((T.drop (512*k)).take 512) en) ?_))));rintro _ w9 ⟨rfl,qj,yX,aJ⟩;refine⟨trivial,?_⟩;refine KH 12 rfl (ML rfl) trivial (qE (qN rfl (An rfl (qV (LQ rfl rfl) ?_))));have cy:=yX.cells;have sG:=hg.kp.trans aJ
   have ud:=er.kp sG (fun b hb e=>by
    rcases e with e| e
    ·exact e (.inr hb)
    ·have e1:gb=b:=MA hb
     omega)
   have Eo:=sG.size;refine py (Kx rfl (It (KF rfl (An rfl (An rfl (qV (KZ rfl) (qV (KK ND rfl) (qV (KJ LU rfl rfl cy rfl) (An rfl (qV (Si LU Sf rfl rfl (by omega) (by omega)) (KL rfl rfl (pap LU Sf rfl (by decide) rfl rfl (Sl.nil w9 _ 1) (OP (i:=512) ud.rd (by omega) (by omega)) (fun c hc=>by obtain⟨z,-,rfl⟩:=List.mem_map.1 (List.mem_of_mem_drop hc);rfl) (by omega) (by omega)) ?_)))))))))));rintro v10 w10 ⟨bV,au,bX,-⟩;rw[List.nil_append,z32,Nat.zero_add,show T.length-512*k-512=T.length-512*(k+1) by omega] at bV;replace au:Ext w9 w10:=au.KT (fun b e=>by cases e);have ni:∀b,v10.ownBlock=some b→w9.heap.size≤b:=fun b e=>(bX b e).elim (fun e=>by cases e) id;obtain⟨a10,c10,rfl,-⟩:=bV.rd.shape;have xv:=yX.ext au;have dU:=xv.cells;refine qV (KZ rfl) (qV (KK ND rfl) (KR rfl (Mn RJ rfl rfl rfl dU (by simp)) ?_));rintro w11 ⟨aF,aM⟩;have D4:=xv.re aM (show KP w11 wb (swC Q.s st len (.slice a10 (T.length-512*(k+1)) c10) (k+1) T.length sum3 (VB bs bx bw) false) 175 from aF);have D5:Sp Q (Th txt1 ((st+k:Nat):Int) (some ((T.drop (512*k)).take 512))) (K+k+1) (fun b=>X b∨(Value.slice a10 (T.length-512*(k+1)) c10).ownBlock=some b) w11:=(qj.ext au (fun b e=>e.elim (fun e=> .inl (.inl e)) (fun e=> .inr (ni b e)))).own aM (fun b e=> .inl (by rw[e];exact aZ.1));have qQ:=bV.kp aM (fun b hb e=>by have:=ni b hb;omega);refine py (KC ((ih (k+1) w11 ⟨by omega,_,_,D5,D4,qQ,fun j hj=>?_,fun y hy=>?_,?_,fun b hb=>by have:=ni b hb;omega⟩ (by omega)).qb))
   ·by_cases e:j=k
    ·subst e;exact MZ _ _ _
    ·rw[Mv _ _ (by omega)];exact nV j (by omega)
   ·rw[Mv _ _ (by omega)];exact zd y (by omega)
   ·refine(bj.Kz sG fun b e=>?_).trans (au.kp.trans (aM.KT fun b e=> .inr e));rcases e with e| e
    ·by_cases hb:X b
     ·exact absurd (.inl hb) e
     ·exact .inr (.inl hb)
    ·exact .inr (.inr e)
  ·have II:k=T.length / 512:=by omega
   subst II;refine KO rfl (qN rfl (KE rfl (py (KG Tryz.func47 rfl ?_))));exact⟨_,rfl,rfl,sum3,qi,txt1,_,nS,uE,er,nV,zd,bj,lL⟩
end
section
variable {w w':World}{Q:MP}{txt:Int→Bytes}{K:Nat}{X S':Nat→Prop}{st len wb bs bx bw at' n sum:Nat}{rest:Value}{T:Bytes}
def RI (n sum:Nat):Bytes:=PQ 8 n++PQ 4 sum
theorem XK (n sum:Nat):(RI n sum).length=12:=by simp[RI,LB]
theorem YV (hP:Sp Q txt K (fun b=>X b∨rest.ownBlock=some b) w)(hX:∀b,X b→b<w.heap.size)(hK:K≤200000000000)(h:XR Q.s st len wb bs bx bw rest (T.length / 512) T.length sum w)(ge:sum<4294967296)(aZ:X wb∧X bs∧X bx∧X bw)(cK:st+len≤Q.L.length)(aD:len=(T.length+523) / 512)
  (hS:Sl w rest 5 1 (T.length%512) ((T.drop (512*(T.length / 512))).map Od)) (bE:∀b,rest.ownBlock=some b→¬X b) (nV:∀j,j<T.length / 512→txt ((st+j:Nat):Int)=(T.drop (512*j)).take 512):
  Le Tryz.prog 48 [ptr wb 0] w fun v w'=>v=I 0∧∃txt',Sp Q txt' (K+2) X w'∧(∀j,512*j<T.length→∃z,txt' ((st+j:Nat):Int)=(T.drop (512*j)).take 512++z)∧(∃z,txt' ((st+(len-1):Nat):Int)=z++RI T.length sum∧z.length=500)∧(∀y:Int,y<(st:Int)∨(st:Int)+(len:Int)≤y→txt' y=txt y)∧Kp (fun b=>¬X b∨b=wb) w w':=by
 have eJ:maxLen=9223372036854775807:=rfl
 have dR:=hP.n
 obtain⟨a0,c0,rfl,-⟩:=hS.rd.shape
 have hB:=h.cells
 have IJ:∀b,(Value.slice a0 (T.length%512) c0).ownBlock=some b→b<w.heap.size:=fun b hb=>hS.lt hb
 have hg:=Ext.L4 w
 refine KA (e:=[(0,_)]) Tryz.func48 rfl Tryz.ntmps48 rfl rfl (qN rfl (KE rfl (py (run_seq (qN rfl (An rfl (L2 [.tmp 8] z9V rfl (SR h.wr) ?_)))))))
 rintro _ w ⟨rfl,rfl⟩
 refine KE rfl (qM rfl (An rfl (qV (LQ rfl rfl) (py (Kx rfl (It (qN rfl (An rfl (qV (KZ rfl) (qV (KK Rf rfl) (qV (KK PI rfl) (qV (KJ RR rfl rfl hB rfl) (L2 [.tmp 17] YG rfl (hP.size) ?_)))))))))))))
 rintro _ w ⟨rfl,rfl⟩
 refine KE rfl (py (run_seq (run_seq (Lp (fun e' w'=>∃q,e'=[(0,ptr wb 0),(4,I 512),(38,.bool q)]∧(q=true↔T.length / 512<len-1)∧Ext w w') ?ep (fun ep=>?fh)))))
 case ep=>
  rintro e' w1 ⟨q,rfl,hq,ad⟩;have o2:=hP.ext' ad;have h1:=h.ext ad;have j7:=hS.ext ad;have ai:=h1.cells;have lV:=ad.size;refine Lp (fun e' w'=>e'=[(0,ptr wb 0),(4,I 512)]∧∃txt1 rest1 at1 l,Sp Q txt1 (K+1) (fun b=>X b∨rest1.ownBlock=some b) w'∧XR Q.s st len wb bs bx bw rest1 at1 T.length sum w'∧Sl w' rest1 5 1 l.length (l.map Od)∧l.length≤500∧(∀b,rest1.ownBlock=some b→¬X b)∧l=T.drop (512*(len-1))∧(∀j,j<len-1→512*j<T.length→∃z,txt1 ((st+j:Nat):Int)=(T.drop (512*j)).take 512++z)∧(∀y:Int,y<(st:Int)∨(st:Int)+(len:Int)≤y→txt1 y=txt y)∧Kp (fun b=>¬X b∨b=wb) w w') ?aq (fun aq=>?dD)
  case aq=>
   rintro e' w2 ⟨rfl,txt1,rest1,at1,l,ek,h2,cH,Ez,eR,hl,D6,D7,am⟩;obtain⟨a2,c2,rfl,-⟩:=cH.rd.shape;have ak:=h2.cells;have aa:=Ext.L4 w2;have nE:=am.size;refine run_seq (KN (fun w'=>Kp (fun b=>(Value.slice a2 l.length c2).ownBlock=some b) w2 w') (by kernel_rfl) rfl (KH 0 rfl (KM rfl) (aa.kp) (KH 1 rfl (KZ rfl) (aa.kp) (KH 2 rfl (KK ND rfl) (aa.kp) (qT 3 rfl (fun _ h=>KJ LU rfl rfl (h.KD ak (fun e=>eR _ e aZ.1)) rfl) (aa.kp) (KH 4 rfl (KM rfl) (aa.kp) (KH 5 rfl (M8 rfl rfl (by omega)) (aa.kp) (KH 6 rfl (KM rfl) (aa.kp) (KH 7 rfl (KZ rfl) (aa.kp) (KH 8 rfl (KK ND rfl) (aa.kp) (qT 9 rfl (fun _ h=>KJ LU rfl rfl (h.KD ak (fun e=>eR _ e aZ.1)) rfl) (aa.kp) (KH 10 rfl (LG LU rfl) (aa.kp) (KH 11 rfl (M8 rfl rfl (by omega)) (aa.kp) ?_)))))))))))));rw[show(512:Int)-12-(l.length:Int)=((500-l.length:Nat):Int) by omega];refine qO 12 (VK (i:=12) rfl rfl rfl (zaV LU U3 U9 Sf rfl rfl (cH.ext aa) (by omega)) ?_);rintro v3 w3 ⟨cI,ax,oF⟩;refine⟨aa.kp.trans ax,?_⟩;have xw:l.length+(500-l.length)=500:=by omega
   rw[xw,←List.map_append] at cI;obtain⟨a3,c3,rfl,-⟩:=cI.rd.shape;have dm:=aa.kp.trans ax
   have eB:∀b,(Value.slice a3 500 c3).ownBlock=some b→¬X b:=fun b hb e=>by
    rcases oF b hb with e2|e2
    ·exact eR b e2 e
    ·have:=hX b e;have:=aa.size;omega
   have ff:Sp Q txt1 (K+1) (fun b=>X b∨(Value.slice a3 500 c3).ownBlock=some b) w3:=ek.step dm (fun b e=> .inr e) (fun b e=>e.elim (fun e=> .inl (.inl e)) (fun e=>(oF b e).imp .inr (fun e=>by have:=aa.size;omega)));have h3:=h2.kp dm (fun e=>eR _ e aZ.1) (fun e=>eR _ e aZ.2.1) (fun e=>eR _ e aZ.2.2.1) (fun e=>eR _ e aZ.2.2.2);have ar:=h3.cells;have cm:Kp (fun b=>¬X b∨b=wb) w w3:=am.Kz dm (fun b e=> .inr (.inl (eR b e)));refine KH 13 rfl (ML rfl) (aa.kp.trans ax) (qE (qN rfl (An rfl (An rfl (qV (KZ rfl) (qV (KK Rf rfl) (qV (KK OQ rfl) (qV (KK O0 rfl) (qV (KJ U3 rfl rfl ar rfl) (qV (M8 rfl rfl (by omega)) (qV (KZ rfl) (qV (KK Su rfl) ?_))))))))))));rw[show(len:Int)-1=((len-1:Nat):Int) by omega];refine KR rfl (Mn LC rfl rfl rfl ar (by simp)) ?_;rintro w4 ⟨aI,av⟩;have h4:=h3.re av (show KP w4 wb (swC Q.s st len (.slice a2 l.length c2) (len-1) T.length sum (VB bs bx bw) false) 175 from aI);have kD:=ff.own av (fun b e=> .inl (by rw[e];exact aZ.1));have dP:=cI.kp av (fun b hb e=>eB b hb (by rw[e];exact aZ.1));have ee:=h4.cells;have ae:=Ext.L4 w4;have jF:=cm.trans (av.KT fun b e=>Or.inr e);have iU:=LB 8 T.length;have gA:=LB 4 sum;have qk:(l++zeros (500-l.length)).length=500:=by rw[List.length_append,show(zeros (500-l.length)).length=500-l.length by simp[zeros]];omega
   rw[List.length_append] at qk;refine py (Lc.qb (e:=[(0,_),(6,_)]) ?_);refine run_seq (L5 [20,21] (fun w'=>Ext w4 w') (by kernel_rfl) rfl (qL [1,2,3,20,21] 0 rfl (fun _ h=>KM rfl) ae (qL [2,3,20,21] 1 rfl (fun _ h=>KZ rfl) ae (qL [3,20,21] 2 rfl (fun _ h=>KK UC rfl) ae (qL [20,21] 3 rfl (fun _ h=>KJ U62 rfl rfl (h.KD ee) rfl) ae (qL [5,12,19,20,21] 4 rfl (fun _ h=>KM rfl) ae (qL [7,8,9,10,11,12,18,19,20,21] 6 rfl (fun _ h=>KM rfl) ae (qL [8,9,10,11,12,18,19,20,21] 7 rfl (fun _ h=>KZ rfl) ae (qL [9,10,11,12,18,19,20,21] 8 rfl (fun _ h=>KK Ur rfl) ae (qL [10,11,12,18,19,20,21] 9 rfl (fun _ h=>KJ U3 rfl rfl (h.KD ee) rfl) ae (qL [11,12,18,19,20,21] 10 rfl (fun _ h=>(by first|exact Lw rfl U3 M3 (by omega)|exact MI rfl U3 M3)) ae ?_)))))))))));refine qL [14,15,16,17,18,19,20,21] 13 rfl (fun _ h=>KM rfl) ae (qL [15,16,17,18,19,20,21] 14 rfl (fun _ h=>KZ rfl) ae (qL [16,17,18,19,20,21] 15 rfl (fun _ h=>KK Xu rfl) ae (qL [17,18,19,20,21] 16 rfl (fun _ h=>KJ Mg rfl rfl (h.KD ee) rfl) ae (qL [18,19,20,21] 17 rfl (fun _ h=>Lw rfl Mg M3 (by omega)) ae (qL [12,19,20,21] 5 rfl (fun _ h=>z8s (l:=l++zeros (500-l.length)) LU U5 U9 rfl (by rw[List.length_append,qk];exact dP.rd.ext h) (by rw[List.length_append];omega)) ae ?_)))));refine Mp (i:=11) (by kernel_rfl) (MU (i:=11) rfl rfl rfl (yc (args:=[.tmp 96,.const (Value.int .i64 8)]) z9u rfl) (TT T.length 8 _ (by omega) (by omega)) ?_);rintro _ w5 ⟨rfl,aR⟩;refine⟨ae.trans aR,?_⟩;refine qL [19,20,21] 12 rfl (fun _ h=>SN rfl rfl (by first|omega|(simp;done)|(simp;omega))) (ae.trans aR) ?_;refine Mp (i:=18) (by kernel_rfl) (MU (i:=18) rfl rfl rfl (yc (args:=[.tmp 103,.const (Value.int .i64 4)]) z9u rfl) (TT sum 4 _ (by omega) (by omega)) ?_);rintro _ w6 ⟨rfl,aK⟩;refine⟨(ae.trans aR).trans aK,?_⟩;have cB:=(ae.trans aR).trans aK
   have lw:∀b,(X b∨(Value.slice a3 500 c3).ownBlock=some b)→b<w6.heap.size:=fun b hb=>by
    have:=cB.size;have:=av.size;have:=dm.size;rcases hb with e| e
    ·have:=hX b e;omega
    ·have:=cI.lt e;omega
   refine qL [20,21] 19 rfl (fun _ h=>SN rfl rfl (by first|omega|(simp;done)|(simp;omega))) ((ae.trans aR).trans aK) ?_;refine Lu [20] (by kernel_rfl) (by kernel_rfl) ?_;have kH:(l++zeros (500-l.length)++PQ 8 T.length++PQ 4 sum).length=512:=by rw[List.length_append,List.length_append,List.length_append,qk,LB,LB]
   refine qO 20 (QN (i:=20) rfl rfl rfl (N6 (args:=[.tmp 105]) z8t rfl rfl) (Tv (kD.ext' cB) lw (by omega) (h4.ext cB) ⟨.inl aZ.1,.inl aZ.2.1,.inl aZ.2.2.1,.inl aZ.2.2.2⟩ (by omega) _ kH) ?_);rintro _ w7 ⟨rfl,xy,h7,aA⟩;refine⟨trivial,?_⟩;have bG:=h7.cells;refine KH 21 rfl (ML rfl) trivial (qE (qN rfl (An rfl (qV (KZ rfl) (qV (KK SO rfl) (KR rfl (Mn PS rfl rfl rfl bG (by simp)) ?_))))));rintro w8 ⟨bU,bj⟩;have nS:=(xy.own bj (fun b e=> .inl (by rw[e];exact aZ.1))).less (Y:=X) (fun b e=> .inl e);refine py (Lc.qb (e:=[(7,_)]) ?_);refine qN rfl (An rfl (KE rfl (py (KG Tryz.func48 rfl (⟨_,rfl,rfl,_,nS,fun j hj=>?_,⟨l++zeros (500-l.length),?_,by rw[List.length_append,qk]⟩,fun y hy=>?_,?_⟩)))))
   ·by_cases e:j=len-1
    ·subst e;refine⟨zeros (500-l.length)++PQ 8 T.length++PQ 4 sum,?_⟩;rw[MZ];show l++_++_++_=_;rw[←hl,List.take_of_length_le (by omega)];simp only[List.append_assoc]
    ·obtain⟨z,hz⟩:=D6 j (by omega) hj;exact⟨z,by rw[Mv _ _ (by omega)];exact hz⟩
   ·rw[MZ];show _++_++_=_;unfold RI;simp only[List.append_assoc]
   ·rw[Mv _ _ (by omega)];exact D7 y hy
   ·refine((jF.trans cB.kp).Kz aA fun b e=>?_).trans (bj.KT fun b e=> .inr e);rcases e with e| e
    ·by_cases hb:X b
     ·exact absurd (.inl hb) e
     ·exact .inr (.inl hb)
    ·exact .inr (.inr e)
  case dD=>
   refine LF rfl (fun gj=>?_) (fun gj=>?_)
   ·have vH:=hq.1 gj;have hr:500<T.length%512∧T.length / 512=len-2∧2≤len:=by omega
    have aP:=Ext.L4 w1;refine run_seq (run_seq (L5 [17,18] (fun w'=>Kp (fun b=>(Value.slice a0 (T.length%512) c0).ownBlock=some b) w1 w') (by kernel_rfl) rfl (qL [1,2,3,17,18] 0 rfl (fun _ h=>KM rfl) (aP.kp) (qL [2,3,17,18] 1 rfl (fun _ h=>KZ rfl) (aP.kp) (qL [3,17,18] 2 rfl (fun _ h=>KK UC rfl) (aP.kp) (qL [17,18] 3 rfl (fun _ h=>KJ U62 rfl rfl (h.KD ai (fun e=>bE _ e aZ.1)) rfl) (aP.kp) (qL [5,6,7,15,16,17,18] 4 rfl (fun _ h=>KM rfl) (aP.kp) (qL [6,7,15,16,17,18] 5 rfl (fun _ h=>KZ rfl) (aP.kp) (qL [7,15,16,17,18] 6 rfl (fun _ h=>KK ND rfl) (aP.kp) (qL [15,16,17,18] 7 rfl (fun _ h=>KJ LU rfl rfl (h.KD ai (fun e=>bE _ e aZ.1)) rfl) (aP.kp) (qL [14,15,16,17,18] 8 rfl (fun _ h=>KM rfl) (aP.kp) (qL [10,11,12,13,14,15,16,17,18] 9 rfl (fun _ h=>KM rfl) (aP.kp) (qL [11,12,13,14,15,16,17,18] 10 rfl (fun _ h=>KZ rfl) (aP.kp) ?_)))))))))))));refine qL [12,13,14,15,16,17,18] 11 rfl (fun _ h=>KK ND rfl) (aP.kp) (qL [13,14,15,16,17,18] 12 rfl (fun _ h=>KJ LU rfl rfl (h.KD ai (fun e=>bE _ e aZ.1)) rfl) (aP.kp) (qL [14,15,16,17,18] 13 rfl (fun _ h=>LG LU rfl) (aP.kp) (qL [15,16,17,18] 14 rfl (fun _ h=>M8 rfl rfl (by omega)) (aP.kp) ?_)));rw[show(512:Int)-((T.length%512:Nat):Int)=((512-T.length%512:Nat):Int) by omega];refine Mp (i:=15) (by kernel_rfl) (LM (i:=15) rfl rfl rfl (zaV LU U3 U9 Sf rfl rfl (j7.ext aP) (by omega)) ?_);rintro v2 w2 ⟨cH,am,qu⟩;refine⟨aP.kp.trans am,?_⟩;rw[show T.length%512+(512-T.length%512)=512 by omega,←List.map_append] at cH;have qk:(T.drop (512*(T.length / 512))++zeros (512-T.length%512)).length=512:=by rw[List.length_append,List.length_drop,show(zeros (512-T.length%512)).length=512-T.length%512 by simp[zeros]];omega
    refine Mp (i:=16) (by kernel_rfl) (z7I (i:=16) rfl rfl rfl (z8s (l:=T.drop (512*(T.length / 512))++zeros (512-T.length%512)) LU U5 U9 rfl (by rw[qk];exact cH.rd) (by omega)) (aP.kp.trans am) ?_);have aU:=aP.kp.trans am;have ek:Sp Q txt K X w2:=o2.step aU (fun b e=> .inr e) (fun b e=> .inl (.inl e));have h2:=h1.kp aU (fun e=>bE _ e aZ.1) (fun e=>bE _ e aZ.2.1) (fun e=>bE _ e aZ.2.2.1) (fun e=>bE _ e aZ.2.2.2);have nE:=aU.size;refine Lu [17] (by kernel_rfl) (by kernel_rfl) (qO 17 (QN (i:=17) rfl rfl rfl (N6 (args:=[.tmp 55]) z8t rfl rfl) (Tv ek (fun b hb=>by have:=hX b hb;omega) (by omega) h2 aZ (by omega) _ qk) ?_));rintro _ w3 ⟨rfl,ff,h3,ax⟩;refine⟨trivial,?_⟩;have ar:=h3.cells;refine KH 18 rfl (ML rfl) trivial (qE (qN rfl (An rfl (qV (LQ rfl rfl) (py (Kx rfl (It (KF rfl (An rfl (qV (KZ rfl) (qV (KK ND rfl) (KR rfl (Mn RJ rfl rfl rfl ar (by simp)) ?_))))))))))));rintro w4 ⟨aI,av⟩;have h4:=h3.re av (show KP w4 wb (swC Q.s st len (.slice none 0 0) (T.length / 512+1) T.length sum (VB bs bx bw) false) 175 from aI);have kD:=ff.own av (fun b e=>by rw[e];exact aZ.1);have jN:(T.drop (512*(T.length / 512))).take 512=T.drop (512*(T.length / 512)):=List.take_of_length_le (by rw[List.length_drop];omega);refine py (Lc.qb (e:=[(0,_),(4,_)]) ?_);refine(aq _ _ ⟨rfl,_,.slice none 0 0,_,[],kD.less (fun b e=>e.elim id (fun e=>by cases e)),h4,Sl.nil w4 _ 1,Nat.zero_le _,(fun b e=>by cases e),(List.drop_of_length_le (by omega)).symm,fun j hj jT=>?_,fun y hy=>?_,?_⟩).qb
    ·by_cases e:j=T.length / 512
     ·subst e;exact⟨zeros (512-T.length%512),by rw[MZ,jN];rfl⟩
     ·exact⟨[],by rw[Mv _ _ (by omega),List.append_nil];exact nV j (by omega)⟩
    ·rw[Mv _ _ (by omega)]
    ·refine((ad.kp.Kz aU fun b e=> .inr (.inl (bE b e))).trans ax).trans (av.KT fun b e=> .inr e)
   ·have vH:¬T.length / 512<len-1:=fun e=>by rw[hq.2 e] at gj;cases gj
    have IK:T.length / 512=len-1:=by omega
    have eM:(T.drop (512*(T.length / 512))).length=T.length%512:=by rw[List.length_drop];omega
    refine It ((aq _ _ ⟨rfl,txt,.slice a0 (T.length%512) c0,T.length / 512,T.drop (512*(T.length / 512)),o2.more (by omega),h1,by rw[eM];exact j7,by omega,bE,by rw[IK],fun j hj jT=>⟨[],by rw[List.append_nil];exact nV j (by omega)⟩,fun y hy=>rfl,ad.kp⟩).qb)
 case fh=>
  refine KN (fun w'=>Ext w w') (by kernel_rfl) rfl (KH 0 rfl (KM rfl) hg (KH 1 rfl (KZ rfl) hg (KH 2 rfl (KK Su rfl) hg (qT 3 rfl (fun _ h=>KJ U3 rfl rfl (h.KD hB) rfl) hg (KH 4 rfl (KM rfl) hg (KH 5 rfl (KZ rfl) hg (KH 6 rfl (KK Rf rfl) hg (KH 7 rfl (KK OQ rfl) hg (KH 8 rfl (KK O0 rfl) hg (qT 9 rfl (fun _ h=>KJ U3 rfl rfl (h.KD hB) rfl) hg (KH 10 rfl (M8 rfl rfl (by omega)) hg ?_)))))))))));rw[show(len:Int)-1=((len-1:Nat):Int) by omega];rcases Nat.lt_or_ge (T.length / 512) (len-1) with hq|hq
  ·refine KH 11 rfl (LW rfl rfl) hg (Pf (KH 12 rfl (KM rfl) hg (KH 13 rfl (KM rfl) hg (KH 14 rfl (KZ rfl) hg (KH 15 rfl (KK ND rfl) hg (qT 16 rfl (fun _ h=>KJ LU rfl rfl (h.KD hB) rfl) hg (KH 17 rfl (LG LU rfl) hg (KH 18 rfl (LH rfl rfl) hg (Pf (KH 19 rfl (LK rfl rfl) hg (qE (Lc.qb (e:=[(0,_),(2,_),(4,_),(38,_)]) ?_))))))))))));exact(ep _ _ ⟨true,rfl,⟨fun _=>hq,fun _=>rfl⟩,hg⟩).qb
  ·refine KH 11 rfl (LW rfl rfl) hg (Pw (KH 12 rfl (KM rfl) hg (qJ 13 rfl (hg) (qJ 14 rfl (hg) (qJ 15 rfl (hg) (qJ 16 rfl (hg) (qJ 17 rfl (hg) (qJ 18 rfl (hg) (KH 19 rfl (Lk rfl rfl) hg (qE (Lc.qb (e:=[(0,_),(2,_),(4,_),(38,_)]) ?_)))))))))));exact(ep _ _ ⟨false,rfl,⟨fun e=>(by cases e),fun e=>by omega⟩,hg⟩).qb
end
end Go.Proofs.YtpldpcjdjcgicaaGreatDoor
namespace Go.Proofs.YtpldpcjdjcgicaaGreatDoor
open Go Go.RowKit Go.Shelf
set_option linter.all false
set_option maxRecDepth 100000
def BdM (w:World)(b:Nat)(l:Bytes)(v:Value):Prop:=(∃p,(p= .pointer none∨p=ptr b 0)∧KP w b [p,v] 157)∧Sl w v 5 1 l.length (l.map Od)∧v.ownBlock≠some b
section
variable {w w':World}{b:Nat}{l s:Bytes}{v:Value}{S':Nat→Prop}
theorem BdM.kp (h:BdM w b l v)(hk:Kp S' w w')(h1:¬S' b)(h2:∀g,v.ownBlock=some g→¬S' g):BdM w' b l v:=by
 obtain⟨⟨p,hp,hB⟩,hS,hn⟩:=h
 exact⟨⟨p,hp,hk.KD hB h1⟩,hS.kp hk h2,hn⟩
theorem BdM.new (h:KP w b [.pointer none,.slice none 0 0] 157):BdM w b [] (.slice none 0 0):=⟨⟨_,.inl rfl,h⟩,Sl.nil w _ 1,fun e=>by cases e⟩
theorem KP.shape {cs:List Value}{T:TypeId}(h:KP w b cs T):w.shape? b=some (T,cs.length):=by
 obtain⟨fz,hb,-⟩:=h
 simp[World.shape?,hb]
theorem z4X (h:BdM w b l v):Le Tryz.prog 95 [ptr b 0] w fun r w'=>r= .tuple #[]∧BdM w' b l v∧Kp (fun k=>k=b) w w':=by
 obtain⟨⟨p,hp,hB⟩,hS,hn⟩:=h
 rcases hp with rfl|rfl
 ·refine Calls.mono (Any.Builder_copyCheck_fresh {z8p with} z8C.toX72 b w (hB.cell 0) hB.shape (hB.free (i:=0) (by simp))) fun _ _ ⟨he,hw⟩=>⟨_,he,rfl,?_,?_⟩
  ·rw[hw];have hk:=Oq w b 0 (ptr b 0);exact⟨⟨_,.inr rfl,R5 hB 0 (ptr b 0)⟩,hS.kp hk (fun g hg e=>hn (e▸hg)),hn⟩
  ·rw[hw];exact Oq w b 0 _
 ·exact Calls.mono (Any.Builder_copyCheck_used {z8p with} z8C.toX72 b w (hB.cell 0)) fun _ _ ⟨he,hw⟩=>⟨_,he,rfl,by rw[hw];exact⟨⟨_,.inr rfl,hB⟩,hS,hn⟩,by rw[hw];exact Kp.refl _ _⟩
theorem z5i (h:BdM w b l v)(s:Bytes)(hl:l.length+s.length≤140737488355328):Le Tryz.prog 64 [ptr b 0,S s] w fun _ w'=>∃v',BdM w' b (l++s) v'∧Kp (fun k=>k=b∨v.ownBlock=some k) w w'∧(∀g,v'.ownBlock=some g→v.ownBlock=some g∨w.heap.size≤g):=by
 refine KA (e:=[(0,_),(1,_)]) Tryz.func64 rfl Tryz.ntmps64 rfl rfl (qN rfl (KE rfl (KE rfl (qM rfl (An rfl (L2 [.tmp 6] zcS rfl (z4X h) ?_))))))
 rintro _ w1 ⟨rfl,⟨⟨p,hp,ai⟩,j7,du⟩,aN⟩
 have lV:=aN.size
 have l1:=ai.lt
 refine qM rfl (An rfl (An rfl (qV (KZ rfl) (qV (KK Uv rfl) (qV (KJ LU rfl rfl ai rfl) (An rfl (KL rfl rfl (zbY LU U9 Sf rfl rfl j7 hl) ?_)))))))
 rintro v2 w2 ⟨cH,am,tI⟩
 have ak:=am.KD ai du
 have nE:=am.size
 have iX:v2.ownBlock≠some b:=fun e=>by
  rcases tI b e with e| e
  ·exact du e
  ·omega
 refine qV (KZ rfl) (qV (KK Uv rfl) (KR rfl (Mn RJ rfl rfl (Rm cH) ak (by simp)) ?_))
 rintro w3 ⟨ar,ax⟩
 refine qM rfl (An rfl (qV (QE U9 rfl) (KE rfl (KE rfl (py (KG Tryz.func64 rfl ?_))))))
 rw[←List.length_append,←List.map_append] at cH
 refine⟨_,rfl,v2,⟨⟨p,hp,ar⟩,cH.kp ax (fun g hg e=>iX (e▸hg)),iX⟩,((aN.KT fun k e=> .inl e).trans (am.KT fun k e=> .inr e)).trans (ax.KT fun k e=> .inl e),fun g hg=>(tI g hg).imp id fun e=>by omega⟩
theorem z2N (w:World)(a:Addr)(n:Nat):Kp (fun k=>k=a.block) w (w.freeze a n):=by
 by_cases h0:n=0
 ·subst h0;rw[show w.freeze a 0=w by simp[World.freeze]];exact Kp.refl _ w
 ·unfold World.freeze;rw[if_neg h0]
  exact⟨rfl,rfl,rfl,by simp,fun k _ hn=>by
   simp only[Array.getElem?_modify]
   rw[if_neg (fun h=>hn h.symm)]⟩
section
variable {P:Program}{e:Env}{d:Option Nat}{ty t it el:TypeId}{pos:String}{aft:Array Edge}{g:Option (Nat×Bool)}{x y:Operand}{n c:Nat}{a:Option Addr}
theorem zcr (hx:look e x=some (.slice a n c))(hc:a≠none→c≠0):Y P e ⟨d,.call ⟨.builtin .unsafeSliceData,#[x],#[t]⟩,ty,pos,aft,g⟩ (.pointer a) w w:=fun ρ hρ=>by
 have hr:∀w,(Builtin.unsafeSliceData_ #[t] ty #[.slice a n c]).run P w= .ok (.pointer a) w:=fun w=>by
  cases a with
  |none=>rfl
  |some a=>exact Lib.run_unsafeSliceData_row (P:=P) w #[t] ty a n c (hc (by simp))
 simp[execOp,resolve,invoke,builtin,hρ _ _ hx,hr]
theorem zcA (hp:P.underlying t=some (.pointer el))(hc:P.cellsOf el=1)(hx:look e x=some (.pointer a))(hy:look e y=some (I (l.length:Int)))(hS:Sl w (.slice a l.length c) el 1 l.length (l.map Od))(CY:l.length≤9223372036854775807)(h0:l=[]∨∃g,a=some ⟨g,0,none⟩):
  Yp P e ⟨d,.call ⟨.builtin .unsafeString,#[x,y],#[t,it]⟩,ty,pos,aft,g⟩ w fun r w'=>r=S l∧Kp (fun k=>(Value.slice a l.length c).ownBlock=some k) w w':=by
 by_cases hl:l=[]
 ·subst hl;have hr:=Lib.run_unsafeString_none (P:=P) w t it ty a;refine⟨_,w,fun ρ hρ=>?_,rfl,Kp.refl _ _⟩;have h1:=hρ _ _ hx;have h2:ρ y= .int .i64 0:=hρ _ _ hy;simp[execOp,resolve,invoke,builtin,h1,h2,hr]
  rfl
 ·obtain⟨b,rfl⟩:=h0.resolve_left hl;obtain⟨cur,jb,iR,lT,aD,lX⟩:=hS.row;have bh:=World.ownsRow.cells hS (g:=b) rfl;simp only[Nat.mul_one] at aD lX
  have hr:=Lib.run_unsafeString_row (P:=P) w t it ty el hp hc b cur.length (by unfold Py at jb;simp[World.shape?,jb]) l hl (by omega) CY (fun j x hj=>by
   have:=bh j (Od x) (by rw[List.getElem?_map,hj];rfl)
   exact this)
  refine⟨_,_,fun ρ hρ=>?_,rfl,(z2N w ⟨b,0,none⟩ l.length).KT fun k e=>by rw[show k=b from e];rfl⟩;simp[execOp,resolve,invoke,builtin,hρ _ _ hx,hρ _ _ hy,hr]
end
theorem z2A (h:BdM w b l v)(h0:l=[]→v= .slice none 0 0)(hl:l.length≤140737488355328):Le Tryz.prog 65 [ptr b 0] w fun r w'=>r=S l∧Kp (fun k=>v.ownBlock=some k) w w':=by
 obtain⟨⟨p,hp,hB⟩,hS,hn⟩:=h
 obtain⟨a,c,rfl,ha⟩:=hS.rd.shape
 have hg:=Ext.L4 w
 have yQ:l=[]∨∃g,a=some ⟨g,0,none⟩:=by
  rcases hS.shape with⟨e,h1⟩|⟨g,cap,e,h1⟩
  ·exact .inl (List.eq_nil_of_length_eq_zero h1)
  ·cases e;exact .inr ⟨g,rfl⟩
 have tf:a≠none→c≠0:=fun e=>by
  by_cases rh:l=[]
  ·have:=h0 rh
   injection this with e1 _ _
   exact absurd e1 e
  ·have qe:l.length≠0:=by simpa using rh
   rcases hS.shape with⟨_,h1⟩|⟨g,cap,e2,h1⟩
   ·omega
   ·cases e2;omega
 refine KA (e:=[(0,_)]) Tryz.func65 rfl Tryz.ntmps65 rfl rfl (qN rfl (KE rfl (py (run_seq (L5 [10,11] (fun w'=>Ext w w') (by kernel_rfl) rfl (qL [1,2,3,4,10,11] 0 rfl (fun _ h=>KM rfl) hg (qL [2,3,4,10,11] 1 rfl (fun _ h=>KZ rfl) hg (qL [3,4,10,11] 2 rfl (fun _ h=>KK Uv rfl) hg (qL [4,10,11] 3 rfl (fun _ h=>KJ LU rfl rfl (h.KD hB) rfl) hg (qL [6,7,8,9,10,11] 5 rfl (fun _ h=>KM rfl) hg (qL [7,8,9,10,11] 6 rfl (fun _ h=>KZ rfl) hg (qL [8,9,10,11] 7 rfl (fun _ h=>KK Uv rfl) hg (qL [9,10,11] 8 rfl (fun _ h=>KJ LU rfl rfl (h.KD hB) rfl) hg ?_)))))))))))))
 refine qL [10,11] 9 rfl (fun _ h=>LG LU rfl) hg (qL [10,11] 4 rfl (fun _ h=>zcr rfl tf) hg (Lu [10] (by kernel_rfl) (by kernel_rfl) (qO 10 (VK (i:=10) rfl rfl rfl (zcA zcv (by kernel_rfl) rfl rfl (hS.ext hg) (by omega) yQ) ?_))))
 rintro _ w1 ⟨rfl,aN⟩
 refine⟨trivial,?_⟩
 refine KH 11 rfl (ML rfl) trivial (qE (KG Tryz.func65 rfl ?_))
 exact⟨_,rfl,rfl,hg.kp.trans aN⟩
end
end Go.Proofs.YtpldpcjdjcgicaaGreatDoor
namespace Go.Proofs.YtpldpcjdjcgicaaGreatDoor
open Go Go.RowKit
set_option linter.all false
set_option maxRecDepth 100000
def srC (s st len n sum:Nat):List Value:=[ptr s 0,I (st:Int),I (len:Int),I (n:Int),U sum]
section
variable {w w':World}{Q:MP}{txt:Int→Bytes}{K:Nat}{X S':Nat→Prop}{st len n sum rb:Nat}{T:Bytes}
theorem ZK (hP:Sp Q txt K X w)(hX:∀b,X b→b<w.heap.size)(hK:K<1000000000000)(h1:1≤len)(cK:st+len≤Q.L.length)(hn:n≤len*512-12)(ge:sum<4294967296)(hf:∃z,txt ((st+(len-1):Nat):Int)=z++RI n sum∧z.length=500):
  Le Tryz.prog 49 [ptr Q.s 0,.agg #[I (st:Int),I (len:Int)]] w fun v w'=>∃rb,v= .tuple #[ptr rb 0,I 0]∧KP w' rb (srC Q.s st len n sum) 179∧w.heap.size≤rb∧Sp Q txt K (fun b=>X b∨b=rb) w'∧Kp (fun b=>¬X b) w w':=by
 have dR:=hP.n
 obtain⟨z,hz,uz⟩:=hf
 have kH:=XK n sum
 refine KA (e:=[(0,_),(1,_)]) Tryz.func49 rfl Tryz.ntmps49 rfl rfl (qN rfl (KL rfl rfl (Mz rfl (cs:=[I (st:Int),I (len:Int)]) rfl) ?_))
 rintro _ w1 ⟨bx,rfl,eX,ad,fX⟩
 refine KE rfl (KE rfl (qM rfl (An rfl (qV (La (news:=[I (st:Int),I (len:Int)]) U97 rfl NL rfl (fX.cells (n:=2) rfl) rfl) (qV (Nc (parts:=[(0,.tmp 12),(1,.tmp 13)]) (cs:=[_,_,_]) QW rfl z7N rfl rfl) (qV (Nc (parts:=[(0,.tmp 14)]) (cs:=[_,_,_,_,_]) z9i rfl zbR rfl rfl) (KL rfl rfl (Mz rfl (cs:=[ptr Q.s 0,I (st:Int),I (len:Int),I 0,U 0]) rfl) ?_)))))))
 rintro _ w2 ⟨rb,rfl,Ap,af,ak⟩
 have aL:=ad.trans af
 have D8:=af.KD fX
 have z1:=ad.size
 have z2:=af.size
 have ek:Sp Q txt K (fun b=>X b∨b=rb) w2:=hP.ext aL (fun b e=>e.imp id fun e=>by omega)
 refine KE rfl (py (run_seq (qN rfl (An rfl (qV (KZ rfl) (qV (KK Sn rfl) (qV (La z4u rfl QW rfl (KP.cells (n:=3) ak (news:=[_,_,_]) rfl) rfl) (L2 [.tmp 20] zae rfl (TP ek h1 cK) ?_))))))))
 rintro _ w3 ⟨rfl,ah⟩
 have ff:=ek.ext' ah
 have ar:=ah.KD ak
 have xz:=ah.KD D8
 have z3:=ah.size
 have l2:=ak.lt
 have dX:=ff.read (fun b hb=>by
  rcases hb with e| e
  ·have:=hX b e;omega
  ·omega) hK (no:=((st+(len-1):Nat):Int)) (by omega) (by omega)
 rw[hz] at dX
 refine KE rfl (qM rfl (An rfl (qV (LQ rfl rfl) (py (Kx rfl (It (qN rfl (An rfl (qV (KK Pk rfl) (qV (KJ U3 rfl rfl xz rfl) (qV (KK O0 rfl) (qV (KJ U3 rfl rfl xz rfl) (Lz rfl rfl ?_)))))))))))))
 refine qV (M8 rfl rfl (by omega)) ?_
 rw[show(st:Int)+(len:Int)-1=((st+(len-1):Nat):Int) by omega]
 refine L2 [.tmp 26,.tmp 32] z6W rfl (dX) ?_
 rintro _ w4 ⟨rfl,kD,av⟩
 have aI:=av.KD ar (fun e=>e (.inr rfl))
 refine An rfl (qV (Ll rfl rfl) (qV (Ll rfl rfl) (KE rfl (KE rfl (py (Lc.qb (e:=[(4,_),(5,_),(6,_),(8,_),(9,_)]) ?_))))))
 refine run_seq (qN rfl (An rfl (qV (LQ rfl rfl) (py (Kx rfl (It (qN rfl (An rfl (An rfl (qV (QE U9 rfl) ?_))))))))))
 rw[show((z++RI n sum).length:Int)=512 by rw[List.length_append,kH,uz];rfl]
 refine qV (M8 rfl rfl (by omega)) ?_
 rw[show(512:Int)-12=((500:Nat):Int) by omega]
 refine qV (UR (m:=500) U9 rfl rfl (by rw[List.length_append,kH,uz];omega)) ?_
 rw[show(z++RI n sum).drop 500=RI n sum from List.drop_left' uz]
 refine KE rfl (qM rfl (An rfl (qV (Zu (m:=8) U9 rfl rfl (by rw[kH];omega)) ?_)))
 rw[show(RI n sum).take 8=PQ 8 n from List.take_left' (LB _ _)]
 have qw:valB (L0 (PQ 8 n))=n:=Xo (by omega)
 have D9:valB (L0 (PQ 4 sum))=sum:=Xo (by omega)
 have iU:=LB 8 n
 have gA:=LB 4 sum
 refine L2 [.tmp 45] zbp rfl (Wu (PQ 8 n) (by omega) _) ?_
 rintro _ w5 ⟨rfl,aR⟩
 rw[qw]
 have aG:=aR.KD aI
 have gB:=kD.ext' aR
 refine KE rfl (py (run_seq (qN rfl (An rfl (An rfl (qV (KZ rfl) (qV (KK Sn rfl) (qV (La z4u rfl QW rfl (KP.cells (n:=3) aG (news:=[_,_,_]) rfl) rfl) (L2 [.tmp 51] zaF rfl (VS gB (by omega)) ?_)))))))))
 rintro _ w6 ⟨rfl,aK⟩
 have aW:=aK.KD aG
 have pj:=gB.ext' aK
 refine qV ((by first|exact Lw rfl U3 M3 (by omega)|exact MI rfl U3 M3)) ?_
 refine qV (LH rfl rfl) (Lq (py (Lc.qb (e:=[(4,_),(5,_),(6,_),(10,_),(11,_),(54,_)]) ?_)))
 refine Kx rfl (It (qN rfl (An rfl (An rfl (An rfl (qV (Ln rfl M3 U3 (by omega)) (An rfl (qV (UR (m:=8) U9 rfl rfl (by rw[kH];omega)) ?_))))))))
 rw[show(RI n sum).drop 8=PQ 4 sum from List.drop_left' (LB _ _)]
 refine L2 [.tmp 60] zbp rfl (Wu (PQ 4 sum) (by omega) _) ?_
 rintro _ w7 ⟨rfl,bL⟩
 rw[D9]
 have bG:=bL.KD aW
 refine qV (YR rfl M3 Mg) (qV (KZ rfl) (qV (KK Uw rfl) (KR rfl (Mn LC rfl rfl rfl bG (by simp)) ?_)))
 rintro w8 ⟨bU,bj⟩
 replace bU:KP w8 rb [ptr Q.s 0,I (st:Int),I (len:Int),I (n:Int),U 0] 179:=bU
 refine qV (KZ rfl) (qV (KK z66 rfl) ?_)
 rw[Nat.mod_eq_of_lt (show sum<2^32 by omega)]
 refine KR rfl (Mn KY rfl rfl rfl bU (by simp)) ?_
 rintro w9 ⟨cy,aJ⟩
 refine qM rfl (An rfl (KE rfl (KE rfl (py (KG Tryz.func49 rfl ?_)))))
 have qj:=(((pj.ext' bL).own bj (fun b e=> .inr e)).own aJ (fun b e=> .inr e))
 refine⟨_,rfl,rb,rfl,cy,by omega,qj,?_⟩
 have Da:Kp (fun b=>¬X b) w w4:=((aL.trans ah).kp (S:=fun b=>¬X b)).trans (av.KT fun b e e2=>e (.inl e2))
 refine(((Da.trans (aR.trans (aK.trans bL)).kp).Kz bj fun b e=> .inl (by omega)).Kz aJ fun b e=> .inl (by omega))
theorem z3G (hB:KP w rb (srC Q.s st len n sum) 179):Le Tryz.prog 261 [ptr rb 0] w fun v w'=>v=I (n:Int)∧w'=w:=by
 replace hB:KP w rb [ptr Q.s 0,I (st:Int),I (len:Int),I (n:Int),U sum] 179:=hB
 refine KA (e:=[(0,_)]) Tryz.func261 rfl Tryz.ntmps261 rfl rfl (qN rfl (KE rfl (py (run_seq (qN rfl (An rfl (qV (LO z6Y rfl rfl) (py (Kx rfl (It (qN rfl (An rfl (qV (KZ rfl) ?_)))))))))))))
 refine qV (KK Uw rfl) (qV (KJ U3 rfl rfl hB rfl) (KE rfl (py (KG Tryz.func261 rfl ?_))))
 exact⟨_,rfl,rfl,rfl⟩
theorem z5q (hP:Sp Q txt K (fun b=>X b∨b=rb) w)(hX:∀b,X b→b<w.heap.size)(pn:¬X rb)(hK:K<1000000000000)(cK:st+len≤Q.L.length)(hL:Laid txt st T)(hB:KP w rb (srC Q.s st len T.length sum) 179)(hT:T.length≤len*512)(off n:Nat)(ho:off+n≤T.length):
  Le Tryz.prog 262 [ptr rb 0,I (off:Int),I (n:Int)] w fun v w'=>v= .tuple #[S ((T.drop off).take n),I 0]∧Sp Q txt K (fun b=>X b∨b=rb) w'∧KP w' rb (srC Q.s st len T.length sum) 179∧Kp (fun b=>¬X b) w w':=by
 have dR:=hP.n
 have lrb:=hB.lt
 replace hB:KP w rb [ptr Q.s 0,I (st:Int),I (len:Int),I (T.length:Int),U sum] 179:=hB
 refine KA (e:=[(0,_),(1,_),(2,_)]) Tryz.func262 rfl Tryz.ntmps262 rfl rfl (qN rfl (KE rfl (KE rfl (py (run_seq (KB (qN rfl (An rfl (qV (LO z6Y rfl rfl) (KE rfl (py (Kx rfl (qN rfl ?_)))))))))))))
 refine An rfl (qV (LW rfl rfl) (Lq (An rfl (An rfl (qV (LW rfl rfl) (Lq (qV (Lk rfl rfl) (An rfl (An rfl (An rfl (qV (KZ rfl) (qV (KK Uw rfl) (qV (KJ U3 rfl rfl hB rfl) ?_)))))))))))))
 refine qV (LH rfl rfl) (Lq (qV (Lk rfl rfl) (An rfl (An rfl (An rfl (qV (KZ rfl) (qV (KK Uw rfl) (qV (KJ U3 rfl rfl hB rfl) (An rfl (qV (M8 rfl rfl (by omega)) (qV (LH rfl rfl) (Lq (qV (Lk rfl rfl) ?_)))))))))))))
 refine KE rfl (py (Lc.qb (e:=[(0,_),(1,_),(2,_),(6,_),(7,_),(15,_)]) ?_))
 refine Kx rfl (It (KC (qN rfl (An rfl (qV (KZ rfl) (qV (KK Sn rfl) (qV (KK PI rfl) (qV (KJ RR rfl rfl hB rfl) (L2 [.tmp 44] YG rfl (hP.size) ?_)))))))))
 rintro _ w ⟨rfl,rfl⟩
 refine KE rfl (qM rfl (KL rfl rfl (MN (cs:=[_,_]) zbU rfl) ?_))
 rintro _ w1 ⟨bb,rfl,u9,ad,yU⟩
 have Db:=BdM.new yU
 have z1:=ad.size
 refine py (run_seq (KB (MQ (α:=Nat×Value) ((0,Value.slice none 0 0)) (fun y=>[(0,ptr rb 0),(1,I ((off+y.1:Nat):Int)),(2,I ((n-y.1:Nat):Int)),(8,I 512),(9,ptr bb 0)]) (fun y w'=>y.1≤n∧BdM w' bb ((T.drop off).take y.1) y.2∧(y.1=0→y.2= .slice none 0 0)∧(∀g,y.2.ownBlock=some g→w.heap.size≤g)∧Sp Q txt K (fun b=>(X b∨b=rb)∨b=bb∨y.2.ownBlock=some b) w'∧Kp (fun b=>¬(X b∨b=rb)) w w') (fun y=>n-y.1) ?hI ?hround)))
 case hI=>exact⟨Nat.zero_le _,Db,fun _=>rfl,fun g hg=>(by cases hg),hP.ext ad (fun b e=>e.imp id fun e=>e.elim (fun e=>by omega) (fun e=>by cases e)),ad.kp⟩
 case hround=>
  rintro⟨m,v⟩ w2 ⟨hm,qd,Fr,ey,ek,am⟩ ih;dsimp only at hm qd Fr ey ek ih⊢;have ak:=am.KD hB (fun e=>e (.inr rfl));have hg:=Ext.L4 w2;have z2:=am.size;have lbb:bb<w2.heap.size:=by obtain⟨⟨p,hp,hb⟩,-,-⟩:=qd;exact hb.lt
  have o4:∀b,((X b∨b=rb)∨b=bb∨v.ownBlock=some b)→b<w2.heap.size:=fun b hb=>by
   rcases hb with(e|e)|e| e
   ·have:=hX b e;omega
   ·omega
   ·omega
   ·exact qd.2.1.lt e
  try dsimp only
  refine run_seq (qN rfl (An rfl (qV (LH rfl rfl) (py (KQ rfl (fun h0=>?_) (fun h0=>?_))))))
  ·obtain⟨q,hq⟩:∃q,min (n-m) (512-(off+m)%512)=q:=⟨_,rfl⟩;have en:=ek.VV (x:=((st+(off+m) / 512:Nat):Int)) (by omega) (by omega);have kq:=hL.piece (off:=off+m) (n:=q) (by omega) (by omega);have dX:=(ek.ext' hg).read (fun b hb=>by have:=o4 b hb;have:=hg.size;omega) hK (no:=((st+(off+m) / 512:Nat):Int)) (by omega) (by omega);obtain⟨t,ht⟩:∃t,txt ((st+(off+m) / 512:Nat):Int)=t:=⟨_,rfl⟩;rw[ht] at en kq dX;refine It (KB (run_seq (KN (fun w'=>Kp (fun b=>¬((X b∨b=rb)∨b=bb∨v.ownBlock=some b)) w2 w') (by kernel_rfl) rfl (KH 0 rfl (KM rfl) (hg.kp) (KH 1 rfl (KZ rfl) (hg.kp) (KH 2 rfl (KK Sn rfl) (hg.kp) (KH 3 rfl (KK PI rfl) (hg.kp) (qT 4 rfl (fun _ hS=>KJ RR rfl rfl (hS.KD ak (fun e=>e (.inl (.inr rfl)))) rfl) (hg.kp) (KH 5 rfl (KM rfl) (hg.kp) (KH 6 rfl (KZ rfl) (hg.kp) (KH 7 rfl (KK Sn rfl) (hg.kp) (KH 8 rfl (KK OQ rfl) (hg.kp) (KH 9 rfl (KK Pk rfl) (hg.kp) ?_)))))))))))));refine qT 10 rfl (fun _ hS=>KJ U3 rfl rfl (hS.KD ak (fun e=>e (.inl (.inr rfl)))) rfl) (hg.kp) (KH 11 rfl (KM rfl) (hg.kp) (KH 12 rfl (KM rfl) (hg.kp) (KH 13 rfl (Ra rfl rfl (by omega)) (hg.kp) (KH 14 rfl (PW rfl rfl (by omega)) (hg.kp) ?_))));rw[show(st:Int)+((off+m:Nat):Int) / 512=((st+(off+m) / 512:Nat):Int) by omega];refine OJ 15 [.tmp 53,.tmp 63] rfl z6W rfl (dX) ?_;rintro _ w3 ⟨rfl,ff,ax⟩;refine⟨hg.kp.trans ax,?_⟩;have dm:=hg.kp.trans ax;have Dc:=qd.kp dm (fun e=>e (.inr (.inl rfl))) (fun g hg e=>e (.inr (.inr hg)));refine KH 16 rfl (KM rfl) (hg.kp.trans ax) (KH 17 rfl (Ll rfl rfl) (hg.kp.trans ax) (KH 18 rfl (Ll rfl rfl) (hg.kp.trans ax) (KH 19 rfl (ML rfl) (hg.kp.trans ax) (KH 20 rfl (ML rfl) (hg.kp.trans ax) (qE (run_seq (qN rfl (An rfl (qV (LQ rfl rfl) (py (Kx rfl (It (qN rfl ?_)))))))))))));refine An rfl (An rfl (An rfl (qV (yre rfl rfl (by omega)) ?_)));rw[show((off+m:Nat):Int)%512=(((off+m)%512:Nat):Int) by omega];refine qV (UR U9 rfl rfl (by omega)) (KE rfl (qM rfl (An rfl (An rfl (An rfl (qV (QE U9 rfl) (qV (ymi rfl rfl) ?_)))))));rw[show min ((n-m:Nat):Int) ((t.drop ((off+m)%512)).length:Int)=((q:Nat):Int) by rw[List.length_drop];omega];refine qV (Zu (m:=q) U9 rfl rfl (by rw[List.length_drop];omega)) ?_;rw[kq];have Bs:((T.drop (off+m)).take q).length=q:=by rw[List.length_take,List.length_drop];omega
   have gL:((T.drop off).take m).length≤m:=by rw[List.length_take];omega
   refine KE rfl (qM rfl (An rfl (L2 [.tmp 9,.tmp 81] zcd rfl (z5i Dc ((T.drop (off+m)).take q) (by omega)) ?_)));rintro _ w4 ⟨v4,Dd,av,ti⟩;have z3:=dm.size;refine qM rfl (An rfl (An rfl (qV (QE U9 rfl) ?_)));rw[Bs];refine Lz rfl rfl (KE rfl (py (KF rfl (An rfl (An rfl (qV (QE U9 rfl) ?_))))));rw[Bs];refine qV (M8 rfl rfl (by omega)) (KE rfl (py (KC ?_)));rw[show((off+m:Nat):Int)+(q:Int)=((off+(m+q):Nat):Int) by omega,show((n-m:Nat):Int)-(q:Int)=((n-(m+q):Nat):Int) by omega];refine(ih (m+q,v4) _ ⟨by dsimp only;omega,?_,fun e=>by dsimp only at e;omega,fun g hg=>(ti g hg).elim (ey g) (fun e=>by omega),?_,?_⟩ (by dsimp only;omega)).qb
   ·dsimp only;rw[List.take_add,List.drop_drop];exact Dd
   ·exact ff.step av (fun b e=> .inr e) (fun b e=>by
     rcases e with e|e| e
     ·exact .inl (.inl e)
     ·exact .inl (.inr (.inl e))
     ·exact(ti b e).imp (fun e=> .inr (.inr e)) id)
   ·refine(am.trans (dm.KT fun b e e2=>e (.inl e2))).Kz av fun b e=> .inl ?_;rcases e with e| e
    ·omega
    ·exact ey b e
  ·have IL:m=n:=by omega
   subst IL;refine KO rfl (qN rfl (L2 [.tmp 9] zds rfl (z2A qd (fun e=>Fr (by have:=congrArg List.length e;rw[List.length_take,List.length_drop,List.length_nil] at this;omega)) (by rw[List.length_take,List.length_drop];omega)) ?_));rintro _ w3 ⟨rfl,ax⟩;refine KE rfl (KE rfl (py (KG Tryz.func262 rfl ?_)));have cm:Kp (fun b=>¬(X b∨b=rb)) w w3:=am.Kz ax (fun b e=> .inl (ey b e));exact⟨_,rfl,rfl,ek.step ax (fun b e=> .inr (.inr e)) (fun b e=> .inl (.inl e)),cm.KD hB (fun e=>e (.inr rfl)),cm.KT fun b e e2=>e (.inl e2)⟩
end
section
variable {t:TypeId}{u:Value}{p:LJ}{g:List (List Nat)}{E:List (Nat×Nat)}{R:Src t u (S1 p g E)}{k x:Nat}{X Y S:Nat→Prop}{w w':World}
theorem z0w (k v:Nat)(w:World):Le Tryz.prog 62 [ptr k 0,I (v:Int)] w fun r w'=>∃bk bi,r= .func (.func 93) #[] #[ptr bk 0,ptr bi 0]∧KP w' bk [ptr k 0] 28∧KP w' bi [I (v:Int)] 3∧w.heap.size≤bk∧w.heap.size≤bi∧Ext w w':=by
 refine KA (e:=[(0,_),(1,_)]) Tryz.func62 rfl Tryz.ntmps62 rfl rfl (qN rfl (KL rfl rfl (Mz rfl (cs:=[ptr k 0]) rfl) ?_))
 rintro _ w1 ⟨bk,rfl,fU,ad,tA⟩
 refine KL rfl rfl (Mz rfl (cs:=[I (v:Int)]) rfl) ?_
 rintro _ w2 ⟨bi,rfl,tN,af,De⟩
 refine KE rfl (qM rfl (qV (Zw (first:=[]) (caps:=[.tmp 2,.tmp 3]) rfl rfl) (KE rfl (py (KG Tryz.func62 rfl ?_)))))
 have:=ad.size
 exact⟨_,rfl,bk,bi,rfl,af.KD tA,De,by omega,by omega,ad.trans af⟩
theorem z0a {l bk bi v:Nat}(iB:g.length<50)(hv:v<g.length)(h:Pu R k x X w)(fU:KP w bk [ptr k 0] 28)(tN:KP w bi [I (v:Int)] 3)(Z:Nat→Prop)(hZ:∀j,Z j→X j)(J:(Nat→Prop)→Nat→World→Prop)(F:World→Prop)
  (h0:∀(Y:Nat→Prop) (w':World),(∀j,X j→Y j)→(∀j,Y j→X j∨w.heap.size≤j)→Pu R k x Y w'→Kp (fun j=>¬X j) w w'→J Y 0 w')
  (hround:∀(Y:Nat→Prop) (i s:Nat) (w':World),(∀j,X j→Y j)→(∀j,Y j→X j∨w.heap.size≤j)→(KW g v)[i]? =some s→J Y i w'→WW Tryz.prog l [Lg s,I 0] w' fun r w''=>(r= .bool true∧J Y (i+1) w''∧Kp (fun j=>¬Y j∨Z j) w' w'')∨(r= .bool false∧F w'')):
  Le Tryz.prog 93 [.func (.yield l) #[] #[],ptr bk 0,ptr bi 0] w fun r w'=>r= .tuple #[]∧((∃Y,(∀j,X j→Y j)∧(∀j,Y j→X j∨w.heap.size≤j)∧J Y (KW g v).length w')∨F w'):=by
 have aQ:=h.lt
 have gl:(KW g v).length≤g.length:=by
  unfold KW;rw[List.getElem?_eq_getElem hv];exact h.ok.gr.len (List.getElem_mem hv)
 refine KA (e:=[(0,_),(1,_),(2,_)]) Tryz.func93 rfl Tryz.ntmps93 rfl rfl (qN rfl (qV ((by first|exact KJ Z0 rfl rfl fU rfl|exact KJ Z0 rfl rfl tN rfl)) ?_))
 refine qV ((by first|exact KJ U3 rfl rfl fU rfl|exact KJ U3 rfl rfl tN rfl)) ?_
 refine L2 [.tmp 9,.tmp 10] zdl rfl (z0B iB hv h) ?_
 rintro _ w1 ⟨vv,rfl,j7,ie,h1,aN⟩
 have dX:=j7.rd
 obtain⟨a,c,rfl,ha⟩:=dX.shape
 refine An rfl (qV (Ll (v:= .slice a (KW g v).length c) rfl rfl) (qV (Ll (v:=I 0) rfl rfl) (KE rfl (KE rfl (py (run_seq (qN rfl (An rfl (qV (LQ rfl rfl) (py (Kx rfl (It (qN rfl ?_)))))))))))))
 refine An rfl (qV (LG L9 rfl) (An rfl (py (KB ?_))))
 obtain⟨Y,hY⟩:∃Y:Nat→Prop,(fun j=>X j∨(Value.slice a (KW g v).length c).ownBlock=some j)=Y:=⟨_,rfl⟩
 rw[hY] at h1
 have bD:∀j,X j→Y j:=fun j hj=>by rw[←hY];exact .inl hj
 have nj:∀j,Y j→X j∨w.heap.size≤j:=fun j hj=>by
  rw[←hY] at hj;exact hj.imp id (ie j)
 have Fs:∀j,(Value.slice a (KW g v).length c).ownBlock=some j→Y j∧¬Z j:=fun j hj=>⟨by rw[←hY];exact .inr hj,fun e=>by have h2:=ie j hj;have h3:=aQ j (hZ j e);omega⟩
 refine MQ (α:=Nat) (0) (fun i=>[(0,.func (.yield l) #[] #[]),(19,.slice a (KW g v).length c),(20,I ((KW g v).length:Int)),(21,I (i:Int))]) (fun i w'=>i≤(KW g v).length∧J Y i w'∧Rd w' (.slice a (KW g v).length c) 1 (KW g v).length ((KW g v).map Lg)) (fun i=>(KW g v).length-i) ?hI ?hround
 case hI=>exact⟨Nat.zero_le _,h0 Y w1 bD nj h1 aN,dX⟩
 case hround=>
  rintro i w2 ⟨hi,hJ,xA⟩ ih
  try dsimp only
  refine qN rfl (qV (LW rfl rfl) (py (run_seq (KQ rfl (fun hq=>?_) (fun hq=>?_)))))
  ·obtain⟨s,hs⟩:∃s,(KW g v)[i]? =some s:=⟨_,List.getElem?_eq_getElem (by omega)⟩;rcases xA.2 with⟨⟨ca,cc⟩,io,tG⟩|⟨b,off,cap,io,hc⟩
   ·omega
   cases io;have bh:w2.cell? ⟨b,off+i*1,none⟩=some (Lg s):=hc (i*1) _ (by rw[Nat.mul_one,List.getElem?_map,hs];rfl);refine It (run_seq (KB (qN rfl (qV (Lt L9 KY rfl rfl (by omega)) (qV (Lb Mg rfl rfl bh) (KE rfl (qM rfl (An rfl (An rfl (z0A rfl rfl (yy (args:=[.tmp 26,.const (Value.int .i64 0)]) rfl rfl) (hround Y i s w2 bD nj hs hJ) ?_))))))))));rintro r w3 fT;rcases fT with⟨rfl,IM,ax⟩|⟨rfl,hF⟩
   ·refine qV ((by first|exact LP rfl|exact Nq rfl)) ?_;refine py (Kx rfl (It (KC (KF rfl (Lz rfl rfl (An rfl (py ?_)))))));exact(ih (i+1) _ ⟨by omega,IM,xA.kp ax (fun j hj e=>e.elim (fun e=>e (Fs j hj).1) (Fs j hj).2)⟩ (by omega)).qb
   ·refine qV ((by first|exact LP rfl|exact Nq rfl)) ?_;refine py (KS rfl (KG Tryz.func93 rfl ?_));exact⟨_,rfl,rfl,.inr hF⟩
  ·have cL:i=(KW g v).length:=by omega
   subst cL;refine KO rfl (LZ Tryz.func93 rfl ?_);exact⟨_,rfl,rfl,.inl ⟨Y,bD,nj,hJ⟩⟩
end
structure StO (Q:MP)(txt:Int→Bytes)(K st len:Nat)(T:Bytes):Prop where
 k:K<1000000000000
 fit:st+len≤Q.L.length
 laid:Laid txt st T
 len:T.length≤len*512
def z3C {Q:MP}{txt:Int→Bytes}{K st len:Nat}{T:Bytes}(o:StO Q txt K st len T)(rb sum:Nat):Src 121 (ptr rb 0) T where
 inv X w:=Sp Q txt K (fun b=>X b∨b=rb) w∧KP w rb (srC Q.s st len T.length sum) 179∧¬X rb
 fl:=261
 fr:=262
 cl:=z9O
 cr:=zav
 ml:=by kernel_rfl
 mr:=by kernel_rfl
 ext:=fun h hx hY=>⟨h.1.ext hx fun b e=>e.elim (fun e=>(hY b e).elim (fun e=> .inl (.inl e)) .inr) (fun e=> .inl (.inr e)),hx.KD h.2.1,fun e=>(hY _ e).elim h.2.2 (fun e=>by have:=h.2.1.lt;omega)⟩
 step:=fun h hk hS hY=>⟨h.1.step hk (fun b e=> .inl (hS b e)) fun b e=>e.elim (fun e=>(hY b e).elim (fun e=> .inl (.inl e)) .inr) (fun e=> .inl (.inr e)),hk.KD h.2.1 (fun e=>h.2.2 (hS _ e)),fun e=>(hY _ e).elim h.2.2 (fun e=>by have:=h.2.1.lt;omega)⟩
 len:=fun h=>(z3G (Q:=Q) h.2.1).mono fun v w' ⟨hv,hw⟩=>⟨hv,by rw[hw];exact Ext.refl _⟩
 rd:=fun off n h hX yP=>(z5q h.1 hX h.2.2 o.k o.fit o.laid h.2.1 o.len off n yP).mono fun v w' ⟨hv,h1,h2,h3⟩=>⟨hv,⟨h1,h2,h.2.2⟩,h3⟩
section
variable {t:TypeId}{u:Value}{p:LJ}{g:List (List Nat)}{E:List (Nat×Nat)}{k x:Nat}{X Y S:Nat→Prop}{w w':World}
theorem Pu.re {R R':Src t u (S1 p g E)}(h:Pu R k x X w)(hk:Kp S w w')(hS:∀j,S j→j≠k∧j≠x∧j≠1∧j≠2)(hI:R'.inv X w'):Pu R' k x X w':=
 ⟨h.ok,hk.KD h.KD (fun e=>(hS _ e).1 rfl),hk.KD h.ix (fun e=>(hS _ e).2.1 rfl),h.xk,h.xx,hI,fun j hj=>by have:=h.lt j hj;have:=hk.size;omega,h.x1,h.x2,hk.KD h.gam (fun e=>(hS _ e).2.2.1 rfl),hk.KD h.una (fun e=>(hS _ e).2.2.2 rfl)⟩
theorem z0h {Q:MP}{txt:Int→Bytes}{K st len rb sum:Nat}(hp:NK p g E)(o:StO Q txt K st len (S1 p g E))(hI:(z3C o rb sum).inv X w)(hX:∀j,X j→j<w.heap.size)(x1:X 1)(x2:X 2)(hG:KP w 1 (Nu .gamma) 298)(hU:KP w 2 (Nu .unary) 298):
  Le Tryz.prog 50 [ptr rb 0] w fun v w'=>∃k x,v= .tuple #[ptr k 0,I 0]∧w.heap.size≤k∧w.heap.size≤x∧Pu (z3C o rb sum) k x (fun j=>X j∨j=x∨j=k) w'∧Kp (fun j=>¬X j) w w':=by
 refine KA (e:=[(0,_)]) Tryz.func50 rfl Tryz.ntmps50 rfl rfl (qN rfl (KE rfl (KE rfl (py (run_seq (qN rfl (An rfl (qV (LO z6Y rfl rfl) (py (Kx rfl (It (qN rfl (An rfl ?_)))))))))))))
 refine qV (z9C z6Y (fun _ h=>by cases h) rfl) ?_
 refine L2 [.tmp 7] zdc rfl (ZN hp (z3C o rb sum) hI hX) ?_
 rintro _ w1 ⟨k,x,rfl,ai,ak,hx,hk,bE,kY,aN⟩
 refine qV (Ll rfl rfl) (qV (Ll rfl rfl) (KE rfl (KE rfl (py (KG Tryz.func50 rfl ?_)))))
 have z1:=aN.size
 have l1:=ai.lt
 have l2:=ak.lt
 refine⟨_,rfl,k,x,rfl,hk,hx,⟨hp,ai,ak,.inr (.inr rfl),.inr (.inl rfl),kY,fun j hj=>?_,.inl x1,.inl x2,aN.KD hG (fun e=>e x1),aN.KD hU (fun e=>e x2)⟩,aN⟩
 rcases hj with e|e| e
 ·have:=hX j e;omega
 ·omega
 ·omega
end
theorem z64 {n each:Nat}(he:1≤each):max (1:Int) (((n:Int)+(each:Int)-1) / (each:Int))=((RD n each:Nat):Int):=by
 unfold RD
 rw[show(n:Int)+(each:Int)-1=((n+each-1:Nat):Int) by omega]
 have h:((n+each-1:Nat):Int) / (each:Int)=(((n+each-1) / each:Nat):Int):=rfl
 rw[h]
 generalize (n+each-1) / each=q
 omega
section
variable {w w':World}{Q:MP}{txt:Int→Bytes}{K:Nat}{X:Nat→Prop}{vb width st each n:Nat}{xs:List Nat}
abbrev shV (n width each:Nat):Value:= .agg #[I (n:Int),I (width:Int),I (each:Int)]
theorem T0 (n width each:Nat)(he:1≤each∧each≤512)(hn:n≤4194304)(w:World):Le Tryz.prog 51 [shV n width each] w fun v w'=>v=I (RD n each:Int)∧Ext w w':=by
 refine KA (e:=[(0,_)]) Tryz.func51 rfl Tryz.ntmps51 rfl rfl (qN rfl (KL rfl rfl (Mz rfl (cs:=[I (n:Int),I (width:Int),I (each:Int)]) rfl) ?_))
 rintro _ w1 ⟨b1,rfl,bT,ad,ai⟩
 refine KE rfl (qM rfl (qV (KK Xe rfl) (qV (KJ U3 rfl rfl ai rfl) (qV (KK SE rfl) (qV (KJ U3 rfl rfl ai rfl) (Lz rfl rfl (qV (M8 rfl rfl (by omega)) (qV (KK SE rfl) (qV (KJ U3 rfl rfl ai rfl) (qV (Ra rfl rfl (by omega)) (qV (yma rfl rfl) (KE rfl (py ?_)))))))))))))
 rw[z64 he.1]
 refine KG Tryz.func51 rfl ?_
 exact⟨_,rfl,rfl,ad⟩
theorem VC (n width each x:Nat)(hw:width=1∨width=2∨width=4∨width=8)(hx:x<2^(8*width))(w:World):Le Tryz.prog 54 [shV n width each,KV x] w fun v w'=>v= .bool true∧Ext w w':=by
 refine KA (e:=[(0,_),(1,_)]) Tryz.func54 rfl Tryz.ntmps54 rfl rfl (qN rfl (KL rfl rfl (Mz rfl (cs:=[I (n:Int),I (width:Int),I (each:Int)]) rfl) ?_))
 rintro _ w1 ⟨b1,rfl,bT,ad,ai⟩
 refine KE rfl (qM rfl (qV (KK Qe rfl) (qV (KJ U3 rfl rfl ai rfl) ?_)))
 by_cases h8:width=8
 ·refine qV (Mc rfl rfl) (MC (An rfl (qS (qS (qS (qS (qS (qS (qV (LK rfl rfl) (KE rfl (py (KG Tryz.func54 rfl ?_))))))))))));exact⟨_,rfl,rfl,ad⟩
 ·have IN:8*width≤32:=by omega
  have hp:1*2^(8*width)%18446744073709551616=2^(8*width):=by
   have:=Nat.pow_le_pow_right (show 0<2 by decide) IN;rw[Nat.one_mul,Nat.mod_eq_of_lt (by omega)]
  refine qV (Mc rfl rfl) (Lq (An rfl (An rfl (qV (KK Qe rfl) (qV (KJ U3 rfl rfl ai rfl) (qV (SD rfl rfl (by omega)) ?_))))));rw[show(8:Int)*(width:Int)=((8*width:Nat):Int) by omega];refine qV (Mq (8*width) (2^(8*width)) rfl rfl (by omega) rfl) ?_;rw[hp]
  generalize 2^(8*width)=P at hx⊢
  refine qV (LW rfl rfl) (MC (qV (Lk rfl rfl) (KE rfl (py (KG Tryz.func54 rfl ?_)))));exact⟨_,rfl,rfl,ad⟩
theorem RX (n width each x:Nat)(hw:width≤8)(hx:x<18446744073709551616)(w:World):Le Tryz.prog 56 [shV n width each,KV x] w fun v w'=>v=S (PQ width x)∧Ext w w':=by
 have eJ:maxLen=9223372036854775807:=rfl
 refine KA (e:=[(0,_),(1,_)]) Tryz.func56 rfl Tryz.ntmps56 rfl rfl (qN rfl (KL rfl rfl (Mz rfl (cs:=[I (n:Int),I (width:Int),I (each:Int)]) rfl) ?_))
 rintro _ w0 ⟨b0,rfl,oX,j5,iV⟩
 refine KE rfl (qM rfl (qV (KK Qe rfl) (qV (KJ U3 rfl rfl iV rfl) (KL rfl rfl (pmk (c:=width) (n:=width) LU Sf rfl rfl rfl (by omega) (by omega) (by omega)) ?_))))
 rintro _ w1 ⟨b1,rfl,⟨bT,ad,ai⟩,-⟩
 refine KE rfl (py (run_seq (qN rfl (An rfl (qV (LG LU rfl) (An rfl (py (KB ?_))))))))
 rw[←Wp x width] at ai
 have l0:=iV.lt
 refine MQ (α:=Nat) (0) (fun k=>[(1,KV x),(2,ptr b0 0),(5,.slice (some ⟨b1,0,none⟩) width width),(11,I (width:Int)),(12,I (k:Int))]) (fun k w'=>k≤width∧KP w' b1 (UQ x width k) 5∧KP w' b0 [I (n:Int),I (width:Int),I (each:Int)] 135∧Ext w0 w') (fun k=>width-k) ?hI ?hround
 case hI=>exact⟨by omega,ai,ad.KD iV,ad⟩
 case hround=>
  rintro k w2 ⟨hk,ak,xB,af⟩ ih
  try dsimp only
  refine qN rfl (qV (LW rfl rfl) (py (run_seq (KQ rfl (fun aQ=>?_) (fun aQ=>?_)))))
  ·have CX:k<width:=by omega
   refine It (run_seq (KB (qN rfl (An rfl (KE rfl (py (KF rfl (An rfl (An rfl (An rfl (qV (KK Qe rfl) (qV (KJ U3 rfl rfl xB rfl) (qV (M8 rfl rfl (by omega)) ?_)))))))))))));refine An rfl (qV (M8 rfl rfl (by omega)) (qV (SD rfl rfl (by omega)) ?_));rw[show(8:Int)*(((width:Int)-1)-(k:Int))=((8*(width-1-k):Nat):Int) from by omega];refine qV (Ps (8*(width-1-k)) (2^(8*(width-1-k))) rfl rfl (by simp only[IntKind.bits];omega) rfl) ?_;refine qV (z6r rfl M3 U5) (qV (Lt LU Sf rfl rfl (by omega)) (KR rfl (Mn Sf rfl rfl rfl ak (by simp;omega)) ?_));rintro w3 ⟨ar,ax⟩;rw[Zi x width k CX] at ar;refine py (KC (KF rfl (Lz rfl rfl (An rfl (py ?_)))));exact(ih (k+1) w3 ⟨by omega,ar,ax.KD xB (by omega),af.Kz ax (fun i hi=>by rw[hi,bT];exact Nat.le_refl _)⟩ (by omega)).qb
  ·have:k=width:=by omega
   subst this;rw[Zo] at ak;refine KO rfl (qN rfl (An rfl (qV (z2g (l:=PQ k x) LU U5 U9 rfl ak (by rw[List.drop_zero];exact List.take_of_length_le (by rw[List.length_map,LB];omega)) (by simp[PQ])) ?_)));refine KE rfl (py (KG Tryz.func56 rfl ?_));exact⟨_,rfl,rfl,j5.trans af⟩
theorem QL (h:Tm Q txt vb width st xs w):Le Tryz.prog 53 [ptr vb 0] w fun v w'=>v=I 0∧w'=w:=by
 have hB:=h.cells
 refine KA (e:=[(0,_)]) Tryz.func53 rfl Tryz.ntmps53 rfl rfl (qN rfl (KE rfl (py (run_seq (KB (qN rfl (An rfl (qV (LO U80 rfl rfl) (KE rfl (py (Kx rfl (qN rfl (An rfl ?_)))))))))))))
 refine qV (KZ rfl) (qV (KK z62 rfl) (qV (KJ U4 rfl rfl hB rfl) (KE rfl (py (Kx rfl (It (KC (qN rfl (KE rfl (py (KG Tryz.func53 rfl ?_)))))))))))
 exact⟨_,rfl,rfl,rfl⟩
theorem XZ (h:Tm Q txt vb width st xs w){i:Nat}(hi:i<xs.length)(hn:Q.L.length≤4096):Le Tryz.prog 59 [ptr vb 0,I (i:Int)] w fun v w'=>v= .tuple #[I ((st+i / (512 / width):Nat):Int),I ((i%(512 / width)*width:Nat):Int)]∧Ext w w':=by
 have hB:=h.cells
 have hg:=Ext.L4 w
 obtain⟨e1,e2,e3,e4,e5⟩:=h.e
 obtain⟨a1,a2,a3⟩:=h.at_ hi
 have ly:=h.n
 have hd:((i:Nat):Int) / ((512 / width:Nat):Int)=((i / (512 / width):Nat):Int):=rfl
 have hm:((i:Nat):Int)%((512 / width:Nat):Int)=((i%(512 / width):Nat):Int):=rfl
 have CA:((i%(512 / width):Nat):Int)*(width:Int)=((i%(512 / width)*width:Nat):Int):=by rw[Int.natCast_mul]
 have ki:(st:Int)+((i / (512 / width):Nat):Int)=((st+i / (512 / width):Nat):Int):=by rw[Int.natCast_add]
 generalize i / (512 / width)=q at*
 generalize i%(512 / width)=r at*
 generalize 512 / width=each at*
 refine KA (e:=[(0,_),(1,_)]) Tryz.func59 rfl Tryz.ntmps59 rfl rfl (qN rfl (KE rfl (KE rfl (py (run_seq (KN (fun w'=>Ext w w') (by kernel_rfl) rfl (KH 0 rfl (KM rfl) hg (KH 1 rfl (KZ rfl) hg (KH 2 rfl (KK Xf rfl) hg (KH 3 rfl (KK Pk rfl) hg (qT 4 rfl (fun _ h=>KJ U3 rfl rfl (h.KD hB) rfl) hg (KH 5 rfl (KM rfl) hg (KH 6 rfl (KM rfl) hg ?_)))))))))))))
 refine KH 7 rfl (KZ rfl) hg (KH 8 rfl (KK N3 rfl) hg (KH 9 rfl (KK SE rfl) hg (qT 10 rfl (fun _ h=>KJ U3 rfl rfl (h.KD hB) rfl) hg (KH 13 rfl (KM rfl) hg (KH 14 rfl (KM rfl) hg (KH 15 rfl (KZ rfl) hg (KH 16 rfl (KK N3 rfl) hg (KH 17 rfl (KK SE rfl) hg (qT 18 rfl (fun _ h=>KJ U3 rfl rfl (h.KD hB) rfl) hg (KH 20 rfl (KM rfl) hg (KH 21 rfl (KZ rfl) hg (KH 22 rfl (KK N3 rfl) hg (KH 23 rfl (KK Qe rfl) hg ?_)))))))))))))
 refine qT 24 rfl (fun _ h=>KJ U3 rfl rfl (h.KD hB) rfl) hg (KH 11 rfl (Ra rfl rfl (by omega)) hg ?_)
 rw[hd]
 refine KH 12 rfl (PW rfl rfl (by omega)) hg (KH 26 rfl (ML rfl) hg ?_)
 rw[ki]
 refine KH 19 rfl (yre rfl rfl (by omega)) hg ?_
 rw[hm]
 refine KH 25 rfl (SD rfl rfl (by rw[CA];omega)) hg ?_
 rw[CA]
 refine KH 27 rfl (ML rfl) hg (qE (Lc.qb (e:=[(4,_),(5,_)]) ?_))
 refine KG Tryz.func59 rfl ?_
 exact⟨_,rfl,rfl,hg⟩
end
section
variable {w w':World}{Q:MP}{txt:Int→Bytes}{K:Nat}{X:Nat→Prop}{vb width st each n:Nat}{xs:List Nat}
theorem Tm.zb9 (h:Tm Q txt vb width st xs w){i x:Nat}(hi:xs[i]? =some x):x<2^(8*width)∧x<18446744073709551616:=by
 have h1:=(h.t i x hi).2
 have:=Nat.pow_le_pow_right (show 0<2 by decide) (show 8*width≤64 by have:=h.e;omega)
 exact⟨h1,by omega⟩
theorem Td (hP:Sp Q txt K X w)(hX:∀b,X b→b<w.heap.size)(hK:K<1000000000000)(hv:Tm Q txt vb width st xs w)(fd:X vb){i x:Nat}(hi:xs[i]? =some x):
  Le Tryz.prog 34 [ptr vb 0,I (i:Int)] w fun v w'=>v= .tuple #[KV x,I 0]∧Sp Q txt K X w'∧Kp (fun b=>¬X b) w w':=by
 have dR:=hP.n
 have aZ:i<xs.length:=by
  rcases Nat.lt_or_ge i xs.length with h| h
  ·exact h
  ·rw[List.getElem?_eq_none h] at hi;cases hi
 have yZ:=XZ hv aZ dR
 obtain⟨a1,a2,a3⟩:=hv.at_ aZ
 have sH:=(hv.t i x hi).1
 have lz:=(hv.zb9 hi).1
 have en:=hP.VV (x:=((st+i / (512 / width):Nat):Int)) (Int.natCast_nonneg _) (Int.ofNat_lt.2 a1)
 have ly:=hv.n
 have Ke:=hv.e.2.2.2.2
 have nl:∀w1,Ext w w1→Le Tryz.prog 60 [ptr Q.s 0,I ((st+i / (512 / width):Nat):Int)] w1 fun v w'=>v= .tuple #[S (txt ((st+i / (512 / width):Nat):Int)),I 0]∧Sp Q txt K X w'∧Kp (fun b=>¬X b) w1 w':=fun w1 ad=>(hP.ext' ad).read (fun b hb=>by have:=hX b hb;have:=ad.size;omega) hK (Int.natCast_nonneg _) (Int.ofNat_lt.2 a1)
 generalize i / (512 / width)=q at*
 generalize i%(512 / width)=r at*
 generalize ho:r*width=o at*
 obtain⟨t,ht⟩:∃t,txt ((st+q:Nat):Int)=t:=⟨_,rfl⟩
 rw[ht] at sH en nl
 have hB:=hv.cells
 refine KA (e:=[(0,_),(1,_)]) Tryz.func34 rfl Tryz.ntmps34 rfl rfl (qN rfl (KE rfl (KE rfl (py (run_seq (qN rfl (An rfl (L2 [.tmp 14] z83 rfl (QL hv) ?_))))))))
 rintro _ w ⟨rfl,rfl⟩
 refine KE rfl (qM rfl (An rfl (qV (LQ rfl rfl) (py (Kx rfl (It (run_seq (qN rfl (An rfl (qV (LW rfl rfl) (Lq (An rfl (An rfl ?_)))))))))))))
 refine An rfl (qV (KZ rfl) (qV (KK N3 rfl) (qV (KK Xe rfl) (qV (KJ U3 rfl rfl hB rfl) (qV (OL rfl rfl) (Lq (qV (Lk rfl rfl) (py (Kx rfl (It (qN rfl (An rfl (An rfl ?_)))))))))))))
 refine L2 [.tmp 31,.tmp 32] z9Z rfl (yZ) ?_
 rintro _ w1 ⟨rfl,ad⟩
 have ai:=ad.KD hB
 refine An rfl (qV (Ll rfl rfl) (qV (Ll rfl rfl) (KE rfl (KE rfl (py (Lc.qb (e:=[(0,_),(4,_),(5,_),(7,_),(8,_)]) ?_))))))
 refine qN rfl (An rfl (qV (KZ rfl) (qV (KK T7 rfl) (qV (KJ RR rfl rfl ai rfl) (An rfl (L2 [.tmp 40,.tmp 41] z6W rfl (nl w1 ad) ?_))))))
 rintro _ w2 ⟨rfl,ek,am⟩
 have ak:=am.KD ai (fun e=>e fd)
 refine An rfl (qV (Ll rfl rfl) (qV (Ll rfl rfl) (KE rfl (KE rfl (py (run_seq (qN rfl (An rfl (qV (LQ rfl rfl) (py (Kx rfl (It (qN rfl ?_)))))))))))))
 refine KE rfl (py (run_seq (qN rfl (An rfl (An rfl (An rfl (An rfl (qV (KZ rfl) (qV (KK N3 rfl) (qV (KK Qe rfl) (qV (KJ U3 rfl rfl ak rfl) (Lz rfl rfl ?_))))))))))))
 rw[show(o:Int)+(width:Int)=((o+width:Nat):Int) by omega]
 refine qV (zcU (m:=o) (n:=o+width) U9 rfl rfl rfl (by omega)) ?_
 rw[show o+width-o=width by omega,sH]
 have g8:=LB width x
 obtain⟨s,hs⟩:∃s,PQ width x=s:=⟨_,rfl⟩
 have mt:valB (L0 s)=x:=by rw[←hs];exact Xo lz
 rw[hs] at g8⊢
 refine KL rfl rfl (z4H U9 LU U5 rfl) ?_
 rintro _ w3 ⟨b7,c7,rest,rfl,⟨kr,ah,ar⟩,Bj⟩
 refine qV (LG LU rfl) (An rfl (py (Lc.qb (e:=[(4,_),(5,_),(11,_),(58,_),(59,_),(60,_)]) ?_)))
 refine KB (MQ (α:=Nat) (0) (fun i=>[(11,KV (valB (L0 (s.take i)))),(58,.slice (some ⟨b7,0,none⟩) s.length c7),(59,I (s.length:Int)),(60,I (i:Int))]) (fun i w'=>w'=w3∧i≤s.length) (fun i=>s.length-i) ?hI ?hround)
 case hI=>exact⟨rfl,Nat.zero_le _⟩
 case hround=>
  rintro i w4 ⟨rfl,hi⟩ ih
  try dsimp only
  refine qN rfl (qV (LW rfl rfl) (py (run_seq (KQ rfl (fun h0=>?_) (fun h0=>?_)))))
  ·obtain⟨c,hc⟩:∃c,s[i]? =some c:=⟨_,List.getElem?_eq_getElem (by omega)⟩;have fY:=c.toNat_lt;have ki:=Vr hc
   have aQ:valB (L0 (s.take i))<72057594037927936:=by
    have h1:=Mk (L0 (s.take i));rw[bitsT_length,List.length_take] at h1;have h2:2^(8*min i s.length)≤2^56:=Nat.pow_le_pow_right (by decide) (by omega);omega
   have bh:w4.cell? ⟨b7,0+i*1,none⟩=some (Od c):=by
    rw[ar.cell,Nat.zero_add,Nat.mul_one,List.getElem?_append_left (by rw[List.length_map];omega),List.getElem?_map,hc];rfl
   refine It (run_seq (KB (qN rfl (qV (Lt LU Sf rfl rfl (by omega)) (qV (Lb U5 rfl rfl bh) ?_)))))
   generalize valB (L0 (s.take i))=q at ki aQ
   refine KE rfl (py (KF rfl (An rfl (qV (Mq 8 256 rfl rfl (by decide) rfl) (An rfl (qV ((by first|exact z2t rfl U5 M3 (by decide)|exact Lw rfl U5 M3 (by omega))) ?_))))));refine qV (Vu rfl rfl (by omega) (by omega)) ?_
   have nC:(q*256%18446744073709551616 |||c.toNat)=valB (L0 (s.take (i+1))):=by
    rw[ki,Nat.mod_eq_of_lt (by omega),Nat.mul_comm q];exact(Nat.two_pow_add_eq_or_of_lt (i:=8) fY q).symm
   rw[nC];refine KE rfl (py (KC (KF rfl (Lz rfl rfl (An rfl (py ?_))))));exact(ih (i+1) _ ⟨rfl,by omega⟩ (by omega)).qb
  ·have cL:i=s.length:=by omega
   subst cL;rw[List.take_length,mt];refine KO rfl (qN rfl (An rfl (KE rfl (KE rfl (py (KG Tryz.func34 rfl ?_))))));exact⟨_,rfl,rfl,ek.ext' ah,(ad.kp.trans am).trans ah.kp⟩
theorem WL (hP:Sp Q txt K X w)(hX:∀b,X b→b<w.heap.size)(hK:K<1000000000000)(hv:Tm Q txt vb width st xs w)(fd:X vb){i x:Nat}(hi:i<xs.length)(hx:x<2^(8*width)):
  Le Tryz.prog 30 [ptr vb 0,I (i:Int),KV x] w fun v w'=>v=I 0∧VcW Q txt (K+1) X vb width st (xs.set i x) w w':=by
 have dR:=hP.n
 have yZ:∀w1,Ext w w1→Le Tryz.prog 59 [ptr vb 0,I (i:Int)] w1 fun v w'=>v= .tuple #[I ((st+i / (512 / width):Nat):Int),I ((i%(512 / width)*width:Nat):Int)]∧Ext w1 w':=fun w1 ad=>XZ (hv.ext ad) hi dR
 obtain⟨a1,a2,a3⟩:=hv.at_ hi
 obtain⟨e1,e2,e3,e4,e5⟩:=hv.e
 have lz:x<18446744073709551616:=by
  have:=Nat.pow_le_pow_right (show 0<2 by decide) (show 8*width≤64 by omega);omega
 have en:=hP.VV (x:=((st+i / (512 / width):Nat):Int)) (Int.natCast_nonneg _) (Int.ofNat_lt.2 a1)
 have ly:=hv.n
 obtain⟨t,ht⟩:∃t,txt ((st+i / (512 / width):Nat):Int)=t:=⟨_,rfl⟩
 have dT:=hv.t.set (by omega) hx hi ht (by rw[ht] at en;omega)
 have nl:∀w1,Ext w w1→Le Tryz.prog 60 [ptr Q.s 0,I ((st+i / (512 / width):Nat):Int)] w1 fun v w'=>v= .tuple #[S (txt ((st+i / (512 / width):Nat):Int)),I 0]∧Sp Q txt K X w'∧Kp (fun b=>¬X b) w1 w':=fun w1 ad=>(hP.ext' ad).read (fun b hb=>by have:=hX b hb;have:=ad.size;omega) hK (Int.natCast_nonneg _) (Int.ofNat_lt.2 a1)
 have iW:(xs.set i x).length=xs.length:=by simp
 have hB:=hv.cells
 have nX:=hv.wd
 have cK:=hv.fit
 rw[ht] at en nl
 have Df:∀w',KP w' vb [I (xs.length:Int),I (width:Int),I ((512 / width:Nat):Int),I (st:Int),I (RD xs.length (512 / width):Int),ptr Q.s 0,.bool false] 137→Tm Q (Th txt ((st+i / (512 / width):Nat):Int) (some (t.take (i%(512 / width)*width)++PQ width x++t.drop (i%(512 / width)*width+width)))) vb width st (xs.set i x) w':=fun w' hb=>⟨by rw[iW];exact hb,nX,dT,by rw[iW];exact ly,by rw[iW];exact cK⟩
 clear dT
 have lR:st+i / (512 / width)<Q.L.length:=a1
 generalize i / (512 / width)=q at*
 generalize i%(512 / width)=r at*
 generalize ho:r*width=o at*
 have g8:=LB width x
 have oT:(t.take o++PQ width x++t.drop (o+width)).length=512:=by rw[List.length_append,List.length_append,List.length_take,List.length_drop,g8];omega
 refine KA (e:=[(0,_),(1,_),(2,_)]) Tryz.func30 rfl Tryz.ntmps30 rfl rfl (qN rfl (KE rfl (py (run_seq (qN rfl (An rfl (L2 [.tmp 12] z83 rfl (QL hv) ?_)))))))
 rintro _ w ⟨rfl,rfl⟩
 refine KE rfl (qM rfl (An rfl (qV (LQ rfl rfl) (py (Kx rfl (It (run_seq (qN rfl (An rfl (qV (LW rfl rfl) (Lq (An rfl (An rfl ?_)))))))))))))
 refine An rfl (qV (KZ rfl) (qV (KK N3 rfl) (qV (KK Xe rfl) (qV (KJ U3 rfl rfl hB rfl) (qV (OL rfl rfl) (Lq (qV (Lk rfl rfl) (An rfl (An rfl (qV (KZ rfl) (qV (KK N3 rfl) (qV (La z3b rfl SH rfl (KP.cells (n:=3) hB (news:=[_,_,_]) rfl) rfl) (An rfl ?_)))))))))))))
 refine L2 [.tmp 32,.tmp 33] zaQ rfl (VC xs.length width (512 / width) x nX hx w) ?_
 rintro _ w1 ⟨rfl,ad⟩
 have ai:=ad.KD hB
 refine qV ((by first|exact LP rfl|exact Nq rfl)) ?_
 refine qV (Lk rfl rfl) (py (Lc.qb (e:=[(0,_),(1,_),(2,_),(6,_),(36,_)]) ?_))
 refine Kx rfl (It (qN rfl (An rfl (An rfl (L2 [.tmp 38,.tmp 39] z9Z rfl (yZ w1 ad) ?_)))))
 rintro _ w2 ⟨rfl,af⟩
 have ak:=af.KD ai
 refine An rfl (qV (Ll rfl rfl) (qV (Ll rfl rfl) (KE rfl (KE rfl (qM rfl (An rfl (qV (KZ rfl) (qV (KK T7 rfl) (qV (KJ RR rfl rfl ak rfl) (An rfl (L2 [.tmp 47,.tmp 48] z6W rfl (nl w2 (ad.trans af)) ?_)))))))))))
 rintro _ w3 ⟨rfl,ff,ax⟩
 have ar:=ax.KD ak (fun e=>e fd)
 have ag:=Ext.L4 w3
 have cm:Kp (fun b=>¬X b) w w3:=(ad.trans af).kp.trans ax
 have aQ:(t.take o).length=o:=by rw[List.length_take];omega
 have IP:(t.drop (o+width)).length=512-(o+width):=by rw[List.length_drop];omega
 refine An rfl (qV (Ll rfl rfl) (qV (Ll rfl rfl) (KE rfl (KE rfl (py (run_seq (qN rfl (An rfl (qV (LQ rfl rfl) (py (Lc.qb (e:=[(0,_),(2,_),(6,_),(8,_),(9,_),(10,_),(11,_),(53,_)]) ?_)))))))))))
 refine Kx rfl (It (run_seq (KN (fun w'=>Kp (fun b=>¬X b) w3 w') (by kernel_rfl) rfl (KH 0 rfl (KM rfl) (ag.kp) (KH 1 rfl (KZ rfl) (ag.kp) (KH 2 rfl (KK T7 rfl) (ag.kp) (qT 3 rfl (fun _ h=>KJ RR rfl rfl (h.KD ar (fun e=>e fd)) rfl) (ag.kp) (KH 4 rfl (KM rfl) (ag.kp) (KH 5 rfl (KM rfl) (ag.kp) (KH 6 rfl (KM rfl) (ag.kp) (KH 7 rfl (Zu U9 rfl rfl (by omega)) (ag.kp) (KH 8 rfl (KM rfl) (ag.kp) (KH 9 rfl (KZ rfl) (ag.kp) ?_)))))))))))))
 refine KH 10 rfl (KK N3 rfl) (ag.kp) (qT 11 rfl (fun _ hS=>La z3b rfl SH rfl (KP.cells (n:=3) (hS.KD ar (fun e=>e fd)) (news:=[_,_,_]) rfl) rfl) (ag.kp) (KH 12 rfl (KM rfl) (ag.kp) (KH 15 rfl (KM rfl) (ag.kp) (KH 16 rfl (KM rfl) (ag.kp) (KH 17 rfl (KM rfl) (ag.kp) (KH 18 rfl (KZ rfl) (ag.kp) (KH 19 rfl (KK N3 rfl) (ag.kp) (KH 20 rfl (KK Qe rfl) (ag.kp) (qT 21 rfl (fun _ h=>KJ U3 rfl rfl (h.KD ar (fun e=>e fd)) rfl) (ag.kp) (KH 22 rfl (PW rfl rfl (by omega)) (ag.kp) ?_))))))))))
 rw[show(o:Int)+(width:Int)=((o+width:Nat):Int) by omega]
 refine KH 23 rfl (UR U9 rfl rfl (by omega)) (ag.kp) (OJ 13 [.tmp 66,.tmp 67] rfl z8i rfl (RX _ _ _ x e5 lz _) ?_)
 rintro _ w4 ⟨rfl,aB⟩
 refine⟨ag.kp.trans aB.kp,?_⟩
 have cR:=ag.trans aB
 refine KH 14 rfl (SN rfl rfl (by first|omega|(simp;done)|(simp;omega))) (ag.kp.trans aB.kp) ?_
 refine KH 24 rfl (SN rfl rfl (by rw[List.length_append,aQ,g8,IP];omega)) (ag.kp.trans aB.kp) ?_
 refine OJ 25 [.tmp 58,.tmp 59,.tmp 79] rfl z8O rfl ((ff.ext' cR).write (fun b hb=>by have:=hX b hb;have:=cm.size;have:=cR.size;omega) hK (no:=((st+q:Nat):Int)) (by omega) (by omega) _ oT) ?_
 rintro _ w5 ⟨rfl,gB,aj⟩
 refine⟨cR.kp.trans aj,?_⟩
 have iM:Kp (fun b=>¬X b) w3 w5:=cR.kp.trans aj
 refine KH 26 rfl (ML rfl) (cR.kp.trans aj) (qE (Lc.qb (e:=[(6,_)]) ?_))
 refine KG Tryz.func30 rfl ?_
 exact⟨_,rfl,rfl,_,gB,Df w5 (iM.KD ar (fun e=>e fd)),fun y hy=>Mv _ _ (by rw[iW] at hy;omega),cm.trans iM⟩
end
section
variable {w w':World}{Q:MP}{txt:Int→Bytes}{K:Nat}{X:Nat→Prop}{vb width st each n:Nat}{xs:List Nat}
theorem Zd (hP:Sp Q txt K X w)(hX:∀b,X b→b<w.heap.size)(hK:K≤900000000000)(hv:Tm Q txt vb width st xs w)(fd:X vb){f:Nat}(o5:CF Tryz.prog f)(caps:List Value)(KD:Nat→Bytes)(aD:∀b,(KD b).length≤512)
  (hf:∀(b:Nat) (w1:World),b<RD xs.length (512 / width)→Kp (fun b=>¬X b) w w1→Le Tryz.prog f ([I (b:Int)]++caps) w1 fun v w2=>v=S (KD b)∧Ext w1 w2):
  Le Tryz.prog 57 [ptr vb 0,.func (.func f) #[] caps.toArray] w fun v w'=>v=I 0∧∃txt',Sp Q txt' (K+RD xs.length (512 / width)) X w'∧Kp (fun b=>¬X b) w w'∧(∀b,b<RD xs.length (512 / width)→txt' ((st+b:Nat):Int)=KD b++zeros (512-(KD b).length))∧(∀y:Int,y<(st:Int)∨(st:Int)+(RD xs.length (512 / width):Int)≤y→txt' y=txt y):=by
 have eJ:maxLen=9223372036854775807:=rfl
 have dR:=hP.n
 have hB:=hv.cells
 have cK:=hv.fit
 have ly:=hv.n
 obtain⟨e1,e2,e3,e4,e5⟩:=hv.e
 have vp:=T0 xs.length width (512 / width) ⟨by omega,e2⟩ ly w
 obtain⟨N,hN⟩:∃N,RD xs.length (512 / width)=N:=⟨_,rfl⟩
 rw[hN] at hB cK vp hf⊢
 refine KA (e:=[(0,_),(1,_)]) Tryz.func57 rfl Tryz.ntmps57 rfl rfl (qN rfl (KE rfl (py (run_seq (qN rfl (An rfl (qV (KZ rfl) (qV (KK N3 rfl) (qV (La z3b rfl SH rfl (KP.cells (n:=3) hB (news:=[_,_,_]) rfl) rfl) (L2 [.tmp 11] z9o rfl (vp) ?_))))))))))
 rintro _ w1 ⟨rfl,ad⟩
 refine An rfl (py (KB (MQ (α:=Nat) (0) (fun k=>[(0,ptr vb 0),(1,.func (.func f) #[] caps.toArray),(12,I (N:Int)),(13,I (k:Int))]) (fun k w'=>k≤N∧Kp (fun b=>¬X b) w w'∧∃txt',Sp Q txt' (K+k) X w'∧(∀b,b<k→txt' ((st+b:Nat):Int)=KD b++zeros (512-(KD b).length))∧(∀y:Int,y<(st:Int)∨(st:Int)+(k:Int)≤y→txt' y=txt y)) (fun k=>N-k) ?hI ?hround)))
 case hI=>exact⟨Nat.zero_le _,ad.kp,txt,hP.ext' ad,fun b hb=>by omega,fun y _=>rfl⟩
 case hround=>
  rintro k w2 ⟨hk,am,txt2,ek,Ft,pT⟩ ih;have ak:=am.KD hB (fun e=>e fd)
  try dsimp only
  refine qN rfl (qV (LW rfl rfl) (py (run_seq (KQ rfl (fun h0=>?_) (fun h0=>?_)))))
  ·have Dg:k<N:=by omega
   refine It (run_seq (KB (qN rfl (An rfl (KE rfl (qM rfl (An rfl (An rfl (Mb rfl rfl (N6 (args:=[.tmp 17]) o5 rfl rfl) (hf k w2 Dg am) ?_)))))))));rintro _ w3 ⟨rfl,ah⟩;have ar:=ah.KD ak;have ff:=ek.ext' ah;have ag:=Ext.L4 w3;have hl:=aD k;have cm:=am.trans ah.kp;obtain⟨t,ht⟩:∃t,KD k=t:=⟨_,rfl⟩;rw[ht] at hl⊢;have hz:(zeros (512-t.length)).length=512-t.length:=by simp[zeros]
   have cn:=ff.size;have xa:∀w4,Ext w3 w4→Le Tryz.prog 44 [ptr Q.s 0] w4 fun v w'=>v=I 512∧w'=w4:=fun w4 hx=>(ff.ext' hx).size;refine KE rfl (py (run_seq (KN (fun w'=>Kp (fun b=>¬X b) w3 w') (by kernel_rfl) rfl (KH 0 rfl (KM rfl) (ag.kp) (KH 1 rfl (KZ rfl) (ag.kp) (KH 2 rfl (KK T7 rfl) (ag.kp) (qT 3 rfl (fun _ h=>KJ RR rfl rfl (h.KD ar (fun e=>e fd)) rfl) (ag.kp) (KH 4 rfl (KM rfl) (ag.kp) (KH 5 rfl (KZ rfl) (ag.kp) (KH 6 rfl (KK Xf rfl) (ag.kp) (KH 7 rfl (KK Pk rfl) (ag.kp) (qT 8 rfl (fun _ h=>KJ U3 rfl rfl (h.KD ar (fun e=>e fd)) rfl) (ag.kp) (KH 9 rfl (KM rfl) (ag.kp) ?_)))))))))))));refine KH 10 rfl (PW rfl rfl (by omega)) (ag.kp) (KH 11 rfl (KM rfl) (ag.kp) (KH 12 rfl (KM rfl) (ag.kp) (KH 13 rfl (KZ rfl) (ag.kp) (KH 14 rfl (KK T7 rfl) (ag.kp) (qT 15 rfl (fun _ h=>KJ RR rfl rfl (h.KD ar (fun e=>e fd)) rfl) (ag.kp) (KH 17 rfl (KM rfl) (ag.kp) (KH 18 rfl (QE U9 rfl) (ag.kp) (OJ 16 [.tmp 34] rfl YG rfl (xa _ ag) ?_))))))));rintro _ w4 ⟨rfl,rfl⟩;refine⟨ag.kp,?_⟩;refine KH 19 rfl (M8 rfl rfl (by omega)) (ag.kp) ?_;rw[show(512:Int)-(t.length:Int)=((512-t.length:Nat):Int) by omega];refine qO 20 (VK (i:=20) rfl rfl rfl (pmk (c:=512-t.length) (n:=512-t.length) LU Sf rfl rfl rfl (by omega) (by omega) (by omega)) ?_);rintro _ w4 ⟨b4,rfl,⟨gA,aB,aI⟩,-⟩;refine⟨ag.kp.trans aB.kp,?_⟩;have cR:=ag.trans aB;refine qO 21 (z9Q (i:=21) rfl rfl rfl (z2g (l:=zeros (512-t.length)) LU U5 U9 rfl aI (TW _) hz) (cR.kp) (KH 22 rfl (SN rfl rfl (by rw[hz];omega)) (cR.kp) ?_));have oT:(t++zeros (512-t.length)).length=512:=by rw[List.length_append,hz];omega
   rw[show(st:Int)+(k:Int)=((st+k:Nat):Int) by omega];refine OJ 23 [.tmp 22,.tmp 29,.tmp 41] rfl z8O rfl ((ff.ext' cR).write (fun b hb=>by have:=hX b hb;have:=cm.size;have:=cR.size;omega) (by omega) (no:=((st+k:Nat):Int)) (by omega) (by omega) _ oT) ?_;rintro _ w5 ⟨rfl,gB,aj⟩;refine⟨cR.kp.trans aj,?_⟩;have iM:Kp (fun b=>¬X b) w3 w5:=cR.kp.trans aj;refine KH 24 rfl (ML rfl) (cR.kp.trans aj) (qE (qN rfl (An rfl (qV (LQ rfl rfl) (py (Kx rfl (It (KC (KF rfl (Lz rfl rfl (An rfl (py ((ih (k+1) w5 ⟨by omega,cm.trans iM,_,gB,fun b hb=>?_,fun y hy=>?_⟩ (by omega)).qb)))))))))))))
   ·by_cases e:b=k
    ·subst e;rw[MZ,ht];rfl
    ·rw[Mv _ _ (by omega)];exact Ft b (by omega)
   ·rw[Mv _ _ (by omega)];exact pT y (by omega)
  ·have Dg:k=N:=by omega
   subst Dg;refine KO rfl (qN rfl (KE rfl (py (KG Tryz.func57 rfl ?_))));exact⟨_,rfl,rfl,txt2,ek,am,Ft,pT⟩
theorem Ya (l:Bytes):∀n,((List.replicate n l).flatten).length=n*l.length
 |0=>by simp
 |n+1=>by rw[List.replicate_succ,List.flatten_cons,List.length_append,Ya l n,Nat.add_mul];omega
theorem Z6 {bf:Nat}{s:Bytes}(b:Nat)(hB:KP w bf [S s] 9):Le Tryz.prog 58 ([I (b:Int)]++[ptr bf 0]) w fun v w2=>v=S s∧Ext w w2:=by
 show Le _ _ [I (b:Int),ptr bf 0] _ _
 refine KA (e:=[(0,_),(1,_)]) Tryz.func58 rfl Tryz.ntmps58 rfl rfl (qN rfl (KE rfl (qM rfl (qV (KJ U9 rfl rfl hB rfl) (KE rfl (py (KG Tryz.func58 rfl ?_)))))))
 exact⟨_,rfl,rfl,Ext.refl _⟩
theorem Vz (hP:Sp Q txt K X w)(hX:∀b,X b→b<w.heap.size)(hK:K≤900000000000)(hv:Tm Q txt vb width st xs w)(fd:X vb){x:Nat}(hx:x<2^(8*width)):
  Le Tryz.prog 29 [ptr vb 0,KV x] w fun v w'=>v=I 0∧VcW Q txt (K+RD xs.length (512 / width)) X vb width st (List.replicate xs.length x) w w':=by
 have hB:=hv.cells
 have ly:=hv.n
 obtain⟨e1,e2,e3,e4,e5⟩:=hv.e
 have lz:x<18446744073709551616:=by
  have:=Nat.pow_le_pow_right (show 0<2 by decide) (show 8*width≤64 by omega);omega
 have g8:=LB width x
 have kH:(List.replicate (512 / width) (PQ width x)).flatten.length=512:=by
  rw[Ya,g8];exact e3
 refine KA (e:=[(0,_),(1,_)]) Tryz.func29 rfl Tryz.ntmps29 rfl rfl (qN rfl (KE rfl (py (run_seq (qN rfl (An rfl (L2 [.tmp 7] z83 rfl (QL hv) ?_)))))))
 rintro _ w ⟨rfl,rfl⟩
 refine KE rfl (qM rfl (An rfl (qV (LQ rfl rfl) (py (Kx rfl (It (run_seq (qN rfl (An rfl (qV (KZ rfl) (qV (KK N3 rfl) (qV (La z3b rfl SH rfl (KP.cells (n:=3) hB (news:=[_,_,_]) rfl) rfl) (An rfl ?_)))))))))))))
 refine L2 [.tmp 15,.tmp 16] zaQ rfl (VC xs.length width (512 / width) x hv.wd hx w) ?_
 rintro _ w1 ⟨rfl,ad⟩
 have ai:=ad.KD hB
 have aP:=Ext.L4 w1
 refine qV ((by first|exact LP rfl|exact Nq rfl)) ?_
 refine py (Kx rfl (It (run_seq (Lp (fun e' w'=>∃bf,e'=[(0,ptr vb 0),(6,ptr bf 0)]∧KP w' bf [S (List.replicate (512 / width) (PQ width x)).flatten] 9∧Ext w1 w'∧w1.heap.size≤bf) ?cD (fun cD=>?cQ)))))
 case cD=>
  rintro e' w2 ⟨bf,rfl,cP,af,Dh⟩;have aL:=ad.trans af;have lV:=ad.size;have ek:Sp Q txt K (fun b=>X b∨b=bf) w2:=hP.ext aL (fun b e=>e.imp id fun e=>by omega);have lbf:=cP.lt;have hw:=Zd ek (fun b hb=>by rcases hb with e|e;(have:=hX b e;have:=aL.size;omega);omega) hK (hv.ext aL) (.inl fd) zdk [ptr bf 0] (fun _=>(List.replicate (512 / width) (PQ width x)).flatten) (fun _=>by rw[kH];omega) (fun b w3 _ ax=>Z6 b (ax.KD cP (fun e=>e (.inr rfl))));refine qN rfl (An rfl (qV (Zw (first:=[]) (caps:=[.tmp 6]) rfl rfl) (L2 [.tmp 31,.tmp 32] zcw rfl (hw) ?_)));rintro _ w3 ⟨rfl,txt3,ff,ax,oH,xC⟩;refine KE rfl (py (KG Tryz.func29 rfl ?_));have ck:Kp (fun b=>¬X b) w1 w3:=af.kp.trans (ax.KT fun b e e2=>e (.inl e2));have iW:(List.replicate xs.length x).length=xs.length:=List.length_replicate;refine⟨_,rfl,rfl,txt3,ff.less (fun b e=> .inl e),⟨?_,hv.wd,VcT.fill hx (by omega) (fun i hi=>?_),by rw[iW];exact ly,by rw[iW];exact hv.fit⟩,fun y hy=>xC y (by rw[iW] at hy;exact hy),ad.kp.trans ck⟩
  ·rw[iW];exact(ad.kp.trans ck).KD hB (fun e=>e fd)
  ·have sr:=z0E (each:=512 / width) (by omega) hi;exact⟨_,oH _ sr⟩
 case cQ=>
  have ao:=aP;have bK:=ao.size;refine L5 [13] (fun w'=>Ext w1 w') (by kernel_rfl) rfl (qL [1,2,3,5,11,13] 0 rfl (fun _ h=>KM rfl) ao (qL [2,3,5,11,13] 1 rfl (fun _ h=>KZ rfl) ao (qL [3,5,11,13] 2 rfl (fun _ h=>KK N3 rfl) ao (qL [5,11,13] 3 rfl (fun _ h=>La z3b rfl SH rfl (KP.cells (n:=3) (h.KD ai) (news:=[_,_,_]) rfl) rfl) ao (qL [5,11,13] 4 rfl (fun _ h=>KM rfl) ao (qL [7,8,9,10,11,13] 6 rfl (fun _ h=>KM rfl) ao (qL [8,9,10,11,13] 7 rfl (fun _ h=>KZ rfl) ao (qL [9,10,11,13] 8 rfl (fun _ h=>KK N3 rfl) ao (qL [10,11,13] 9 rfl (fun _ h=>KK SE rfl) ao (qL [11,13] 10 rfl (fun _ h=>KJ U3 rfl rfl (h.KD ai) rfl) ao (RK (i:=5) (j:=12) (by kernel_rfl) ?_ ?_)))))))))))
  ·refine MU (i:=5) rfl rfl rfl (yc (args:=[.tmp 22,.tmp 23]) z8i rfl) (RX _ _ _ x e5 lz _) ?_;rintro _ w5 ⟨rfl,aR⟩;refine⟨ao.trans aR,?_⟩;have ao:=ao.trans aR
   try have ba:=aR.KD ba
   have bK:=Nat.le_trans bK aR.size;refine RK (i:=11) (j:=12) (by kernel_rfl) ?_ ?_
   ·refine MU (i:=11) rfl rfl rfl (yc (args:=[.tmp 24,.tmp 29]) z8r rfl) (Tr (PQ width x) (512 / width) (by omega) (by omega) _) ?_;rintro _ w11 ⟨rfl,aT⟩;refine⟨ao.trans aT,?_⟩;have ao:=ao.trans aT
    try have ba:=aT.KD ba
    have bK:=Nat.le_trans bK aT.size;refine Mp (i:=12) (by kernel_rfl) (LM (i:=12) rfl rfl rfl (MN (cs:=[_]) WH rfl) ?_);rintro _ w12 ⟨bf,rfl,Dh,aC,ba⟩;refine⟨ao.trans aC,?_⟩;have ao:=ao.trans aC;have nn:w1.heap.size≤bf:=by omega
    have bK:=Nat.le_trans bK aC.size;refine Lu [13] (by kernel_rfl) (by kernel_rfl) (qO 13 (Lm (i:=13) rfl rfl (Mn WH rfl rfl rfl ba (by simp)) ?_));rintro w13 ⟨cU,ck⟩;refine⟨trivial,?_⟩;refine qE (Lc.qb (e:=[(0,_),(4,_),(6,_)]) ?_);exact(cD _ _ ⟨bf,rfl,cU,ao.Kz ck (fun j e=>by omega),nn⟩).qb
   ·refine LM (i:=12) rfl rfl rfl (MN (cs:=[_]) WH rfl) ?_;rintro _ w12 ⟨bf,rfl,Dh,aC,ba⟩;refine⟨ao.trans aC,?_⟩;have ao:=ao.trans aC;have nn:w1.heap.size≤bf:=by omega
    have bK:=Nat.le_trans bK aC.size;refine Mp (i:=11) (by kernel_rfl) (MU (i:=11) rfl rfl rfl (yc (args:=[.tmp 24,.tmp 29]) z8r rfl) (Tr (PQ width x) (512 / width) (by omega) (by omega) _) ?_);rintro _ w11 ⟨rfl,aT⟩;refine⟨ao.trans aT,?_⟩;have ao:=ao.trans aT
    try have ba:=aT.KD ba
    have bK:=Nat.le_trans bK aT.size;refine Lu [13] (by kernel_rfl) (by kernel_rfl) (qO 13 (Lm (i:=13) rfl rfl (Mn WH rfl rfl rfl ba (by simp)) ?_));rintro w13 ⟨cU,ck⟩;refine⟨trivial,?_⟩;refine qE (Lc.qb (e:=[(0,_),(4,_),(6,_)]) ?_);exact(cD _ _ ⟨bf,rfl,cU,ao.Kz ck (fun j e=>by omega),nn⟩).qb
  ·refine LM (i:=12) rfl rfl rfl (MN (cs:=[_]) WH rfl) ?_;rintro _ w12 ⟨bf,rfl,Dh,aC,ba⟩;refine⟨ao.trans aC,?_⟩;have ao:=ao.trans aC;have nn:w1.heap.size≤bf:=by omega
   have bK:=Nat.le_trans bK aC.size;refine Mp (i:=5) (by kernel_rfl) (MU (i:=5) rfl rfl rfl (yc (args:=[.tmp 22,.tmp 23]) z8i rfl) (RX _ _ _ x e5 lz _) ?_);rintro _ w5 ⟨rfl,aR⟩;refine⟨ao.trans aR,?_⟩;have ao:=ao.trans aR
   try have ba:=aR.KD ba
   have bK:=Nat.le_trans bK aR.size;refine Mp (i:=11) (by kernel_rfl) (MU (i:=11) rfl rfl rfl (yc (args:=[.tmp 24,.tmp 29]) z8r rfl) (Tr (PQ width x) (512 / width) (by omega) (by omega) _) ?_);rintro _ w11 ⟨rfl,aT⟩;refine⟨ao.trans aT,?_⟩;have ao:=ao.trans aT
   try have ba:=aT.KD ba
   have bK:=Nat.le_trans bK aT.size;refine Lu [13] (by kernel_rfl) (by kernel_rfl) (qO 13 (Lm (i:=13) rfl rfl (Mn WH rfl rfl rfl ba (by simp)) ?_));rintro w13 ⟨cU,ck⟩;refine⟨trivial,?_⟩;refine qE (Lc.qb (e:=[(0,_),(4,_),(6,_)]) ?_);exact(cD _ _ ⟨bf,rfl,cU,ao.Kz ck (fun j e=>by omega),nn⟩).qb
end
section
variable {w w':World}{Q:MP}{txt:Int→Bytes}{K:Nat}{X:Nat→Prop}{vb width st each n:Nat}{xs:List Nat}
end
section
variable {w w':World}{Q:MP}{txt:Int→Bytes}{K:Nat}{X:Nat→Prop}{vb width st each n:Nat}{xs:List Nat}
theorem VcT.any {txt:Int→Bytes}{st width each n:Nat}(he:1≤each)(hw:each*width≤512)(h:∀i,i<n→(txt ((st+i / each:Nat):Int)).length=512):∃xs:List Nat,xs.length=n∧VcT txt st width each xs:=by
 refine⟨(List.range n).map fun i=>valB (L0 (((txt ((st+i / each:Nat):Int)).drop (i%each*width)).take width)),by simp,fun i x hx=>?_⟩
 rw[List.getElem?_map] at hx
 by_cases hi:i<n
 ·rw[List.getElem?_range hi] at hx;cases hx;have hl:=h i hi;have hm:(i%each+1)*width≤each*width:=Nat.mul_le_mul_right _ (Nat.mod_lt _ he);rw[Nat.add_mul,Nat.one_mul] at hm
  have aD:(((txt ((st+i / each:Nat):Int)).drop (i%each*width)).take width).length=width:=by
   rw[List.length_take,List.length_drop,hl];omega
  refine⟨?_,?_⟩
  ·have hb:=z6D (((txt ((st+i / each:Nat):Int)).drop (i%each*width)).take width);rw[aD] at hb;exact hb.symm
  ·have h1:=Mk (L0 (((txt ((st+i / each:Nat):Int)).drop (i%each*width)).take width));rw[bitsT_length,aD] at h1;exact h1
 ·rw[List.getElem?_eq_none (by simpa using hi)] at hx;cases hx
theorem z3r (hP:Sp Q txt K X w)(hX:∀b,X b→b<w.heap.size)(hK:K≤800000000000){a:Nat}(hp:Pre Q.L a)(n width:Nat)(hn:n≤4194304)(nX:width=1∨width=2∨width=4∨width=8)(cK:a+RD n (512 / width)≤Q.L.length):
  Le Tryz.prog 28 [ptr Q.s 0,I (n:Int),I (width:Int)] w fun v w'=>∃vb txt',v= .tuple #[ptr vb 0,I 0]∧w.heap.size≤vb∧Sp (Q.Mi (MV Q.L a (RD n (512 / width)) true)) txt' (K+RD n (512 / width)) (fun b=>X b∨b=vb) w'∧Tm (Q.Mi (MV Q.L a (RD n (512 / width)) true)) txt' vb width a (List.replicate n 0) w'∧(∀y:Int,y<(a:Int)∨(a:Int)+(RD n (512 / width):Int)≤y→txt' y=txt y)∧Kp (fun b=>¬X b) w w':=by
 have ls:1≤RD n (512 / width):=Nat.le_max_left _ _
 have dR:=hP.n
 obtain⟨e1,e2,e3,e4,e5⟩:64≤512 / width∧512 / width≤512∧512 / width*width=512∧1≤width∧width≤8:=by
  rcases nX with e|e|e|e<;>subst e<;>decide
 have eM:(MV Q.L a (RD n (512 / width)) true).length=Q.L.length:=MJ cK
 refine KA (e:=[(0,_),(1,_),(2,_)]) Tryz.func28 rfl Tryz.ntmps28 rfl rfl (qN rfl (KE rfl (KE rfl (py (run_seq (KB (qN rfl (An rfl (qV (LO RR rfl rfl) (KE rfl (py (Kx rfl (run_seq ?_)))))))))))))
 refine Lp (fun e' w'=>w'=w∧e'=[(0,ptr Q.s 0),(1,I (n:Int)),(2,I (width:Int)),(15,.bool false)]) ?aq (fun aq=>?dD)
 case aq=>
  rintro e' w' ⟨rfl,rfl⟩;refine Kx rfl (It (KC (qN rfl (An rfl (An rfl (An rfl (L2 [.tmp 40] YG rfl (hP.size) ?_)))))));rintro _ w' ⟨rfl,rfl⟩;refine An rfl (qV (Ra rfl rfl (by omega)) ?_);rw[show(512:Int) / (width:Int)=((512 / width:Nat):Int) from rfl];refine qV (Nc (parts:=[(0,.tmp 38),(1,.tmp 39),(2,.tmp 43)]) (cs:=[_,_,_]) SH rfl zay rfl rfl) (An rfl (qV (Nc (parts:=[(0,.tmp 44),(2,.tmp 45)]) (cs:=[_,_,_,_,_,_,_]) zaw rfl zbi rfl rfl) (KL rfl rfl (Mz rfl (cs:=[I (n:Int),I (width:Int),I ((512 / width:Nat):Int),I 0,I 0,ptr Q.s 0,.bool false]) rfl) ?_)));rintro _ w1 ⟨vb,rfl,fd,ad,ai⟩;refine KE rfl (qM rfl (An rfl (An rfl (qV (KZ rfl) (qV (KK N3 rfl) (qV (La z3b rfl SH rfl (KP.cells (n:=3) ai (news:=[_,_,_]) rfl) rfl) (L2 [.tmp 53] z9o rfl (T0 n width (512 / width) ⟨by omega,e2⟩ hn _) ?_)))))));rintro _ w2 ⟨rfl,af⟩;have aL:=ad.trans af;have ak:=af.KD ai;have z1:=ad.size;have z2:=af.size;have l1:=ai.lt;have ek:Sp Q txt K (fun b=>X b∨b=vb) w2:=hP.ext aL (fun b e=>e.imp id fun e=>by omega)
  have fW:∀b,(X b∨b=vb)→b<w2.heap.size:=fun b hb=>by
   rcases hb with e| e
   ·have:=hX b e;have:=aL.size;omega
   ·omega
  obtain⟨N,hN⟩:∃N,RD n (512 / width)=N:=⟨_,rfl⟩;rw[hN] at ls cK eM⊢;refine L2 [.tmp 49,.tmp 54] zby rfl (ek.take fW hp ls cK) ?_;rintro _ w3 ⟨rfl,ff,ax⟩;have ar:=ax.KD ak (fun e=>e (.inr rfl));have z3:=ax.size;refine An rfl (qV (Ll rfl rfl) (qV (Ll rfl rfl) (KL rfl rfl (MN (cs:=[_,_]) NL rfl) ?_)));rintro _ w4 ⟨b9,rfl,nK,aB,aI⟩;refine KR rfl (Lo (news:=[I (a:Int),I (N:Int)]) NL rfl rfl rfl rfl aI (by simp)) ?_;rintro w5 ⟨aG,aj⟩;replace aG:KP w5 b9 [I (a:Int),I (N:Int)] 97:=aG;have cb:Ext w3 w5:=aB.Kz aj (fun j e=>by omega);have ci:=cb.KD ar;have gB:=ff.ext' cb;refine KE rfl (py (Lc.qb (e:=[(0,_),(8,_),(9,_),(10,_)]) ?_));refine run_seq (qN rfl (An rfl (qV (LQ rfl rfl) (py (Kx rfl (It (qN rfl (An rfl (qV (La U97 rfl NL rfl (KP.cells (n:=2) aG (news:=[_,_]) rfl) rfl) (qV (KZ rfl) (qV (KK Xf rfl) (KR rfl (Lo (news:=[I (a:Int),I (N:Int)]) NL rfl rfl rfl rfl ci (by simp)) ?_))))))))))));rintro w6 ⟨aW,aS⟩;replace aW:KP w6 vb [I (n:Int),I (width:Int),I ((512 / width:Nat):Int),I (a:Int),I (N:Int),ptr Q.s 0,.bool false] 137:=aW;have pj:=gB.own aS (fun b e=> .inr e);have aD:(Q.Mi (MV Q.L a N true)).L.length=Q.L.length:=eM
  obtain⟨xs,eU,sH⟩:=VcT.any (txt:=txt) (st:=a) (width:=width) (each:=512 / width) (n:=n) (by omega) (by omega) (fun i hi=>by
   have sr:=z0E (each:=512 / width) (by omega) hi;rw[hN] at sr
   generalize i / (512 / width)=q at sr⊢
   exact pj.VV (by omega) (by rw[aD];omega))
  have IQ:Tm (Q.Mi (MV Q.L a N true)) txt vb width a xs w6:=⟨by rw[eU,hN];exact aW,nX,sH,by omega,by rw[eU,hN,aD];exact cK⟩
  have lw:∀b,(X b∨b=vb)→b<w6.heap.size:=fun b hb=>by
   have:=fW b hb;have:=cb.size;have:=aS.size;omega
  have iN:=Vz pj lw (by omega) IQ (.inr rfl) (x:=0) (Nat.two_pow_pos _);rw[eU,hN] at iN;refine py (run_seq (qN rfl (An rfl (L2 [.tmp 65,.const (Value.int .u64 0)] zba rfl (iN) ?_))));rintro _ w7 ⟨rfl,hW⟩;obtain⟨txt7,xy,yH,IR,aA⟩:=hW;refine KE rfl (qM rfl (An rfl (qV (LQ rfl rfl) (py (Kx rfl (It (qN rfl (An rfl (KE rfl (KE rfl (py (KG Tryz.func28 rfl ?_))))))))))));have iW:(List.replicate n 0).length=n:=List.length_replicate;refine⟨_,rfl,vb,txt7,rfl,by omega,xy,yH,fun y hy=>IR y (by rw[iW,hN];exact hy),?_⟩;have cm:Kp (fun b=>¬X b) w' w3:=aL.kp.trans (ax.KT fun b e e2=>e (.inl e2));exact((cm.trans cb.kp).Kz aS (fun b e=> .inl (by omega))).trans (aA.KT fun b e e2=>e (.inl e2))
 case dD=>
  rcases nX with rfl|rfl|rfl|rfl
  ·refine KF rfl (An rfl (qV (LW rfl rfl) (Lq (An rfl (An rfl (qV (LH rfl rfl) (Lq (qV (Lk rfl rfl) (An rfl (An rfl (qV (LQ rfl rfl) (Lq (An rfl ?_)))))))))))));refine qS (qS (qV (Lk rfl rfl) (An rfl (qS (qS (qV (Lk rfl rfl) (An rfl (qS (qS (qV (Lk rfl rfl) (qV (Lk rfl rfl) (KE rfl (py ?_)))))))))))));refine Lc.qb (e:=[(0,_),(1,_),(2,_),(6,_),(7,_),(15,_)]) ?_;exact(aq _ _ ⟨rfl,rfl⟩).qb
  ·refine KF rfl (An rfl (qV (LW rfl rfl) (Lq (An rfl (An rfl (qV (LH rfl rfl) (Lq (qV (Lk rfl rfl) (An rfl (An rfl (qV (LQ rfl rfl) (MC (An rfl ?_)))))))))))));refine An rfl (qV (LQ rfl rfl) (Lq (qV (LK rfl rfl) (An rfl (qS (qS (qV (Lk rfl rfl) (An rfl (qS (qS (qV (Lk rfl rfl) (qV (Lk rfl rfl) (KE rfl ?_)))))))))))));refine py (Lc.qb (e:=[(0,_),(1,_),(2,_),(6,_),(7,_),(15,_)]) ?_);exact(aq _ _ ⟨rfl,rfl⟩).qb
  ·refine KF rfl (An rfl (qV (LW rfl rfl) (Lq (An rfl (An rfl (qV (LH rfl rfl) (Lq (qV (Lk rfl rfl) (An rfl (An rfl (qV (LQ rfl rfl) (MC (An rfl ?_)))))))))))));refine An rfl (qV (LQ rfl rfl) (MC (qV (LK rfl rfl) (An rfl (An rfl (qV (LQ rfl rfl) (Lq (qV (LK rfl rfl) (An rfl (qS (qS (qV (Lk rfl rfl) (qV (Lk rfl rfl) ?_)))))))))))));refine KE rfl (py (Lc.qb (e:=[(0,_),(1,_),(2,_),(6,_),(7,_),(15,_)]) ?_));exact(aq _ _ ⟨rfl,rfl⟩).qb
  ·refine KF rfl (An rfl (qV (LW rfl rfl) (Lq (An rfl (An rfl (qV (LH rfl rfl) (Lq (qV (Lk rfl rfl) (An rfl (An rfl (qV (LQ rfl rfl) (MC (An rfl ?_)))))))))))));refine An rfl (qV (LQ rfl rfl) (MC (qV (LK rfl rfl) (An rfl (An rfl (qV (LQ rfl rfl) (MC (qV (LK rfl rfl) (An rfl (An rfl (qV (LQ rfl rfl) (Lq (qV (LK rfl rfl) ?_)))))))))))));refine qV (Lk rfl rfl) (KE rfl (py (Lc.qb (e:=[(0,_),(1,_),(2,_),(6,_),(7,_),(15,_)]) ?_)));exact(aq _ _ ⟨rfl,rfl⟩).qb
end
structure Gr where
 n:Nat
 succ:Nat→List Nat
 lt:∀v u,u∈succ v→u<n
inductive Way (G:Gr) (r:Nat):Nat→Nat→Prop
 |root:Way G r 0 r
 |step {k v u:Nat}:Way G r k v→u∈G.succ v→Way G r (k+1) u
def Oe (G:Gr)(r k u:Nat):Prop:=Way G r k u∧∀j,j<k→¬Way G r j u
theorem Oe.uniq {G:Gr}{r j k u:Nat}(h:Oe G r j u)(h':Oe G r k u):j=k:=by
 rcases Nat.lt_trichotomy j k with e|e| e
 ·exact absurd h.1 (h'.2 j e)
 ·exact e
 ·exact absurd h'.1 (h.2 k e)
theorem Way.zcs {G:Gr}{r:Nat}:∀{k u:Nat},Way G r k u→∃j,j≤k∧Oe G r j u:=by
 intro k
 induction k using Nat.strongRecOn with
 | ind k ih =>
   intro u h;by_cases hm:∃j,j<k∧Way G r j u
   ·obtain⟨j,hj,hw⟩:=hm;obtain⟨i,hi,hd⟩:=ih j hj hw;exact⟨i,by omega,hd⟩
   ·exact⟨k,Nat.le_refl _,h,fun j hj hw=>hm ⟨j,hj,hw⟩⟩
theorem Oe.pred {G:Gr}{r k u:Nat}(h:Oe G r (k+1) u):∃v,Oe G r k v∧u∈G.succ v:=by
 obtain⟨h1,h2⟩:=h
 cases h1 with
 | step hv hu =>
   rename_i v
   refine⟨v,⟨hv,fun j hj hw=>?_⟩,hu⟩;exact h2 (j+1) (by omega) (.step hw hu)
theorem Oe.zbo {G:Gr}{r k v u:Nat}(h:Oe G r k v)(hu:u∈G.succ v):∃j,j≤k+1∧Oe G r j u:=(Way.step h.1 hu).zcs
theorem Oe.root {G:Gr}{r:Nat}:Oe G r 0 r:=⟨.root,fun j hj=>by omega⟩
theorem Oe.zero {G:Gr}{r u:Nat}(h:Oe G r 0 u):u=r:=by
 cases h.1 with
 |root=>rfl
structure Lev (G:Gr)(r t:Nat)(d:Nat→Option Nat):Prop where
 has:∀u k,d u=some k→Oe G r k u∧k≤t
 all:∀u k,Oe G r k u→k≤t→d u=some k
theorem zcQ (G:Gr)(r:Nat):Lev G r 0 (fun u=>if u=r then some 0 else none):=by
 constructor
 ·intro u k h

  split at h
  ·rename_i e;cases h;subst e;exact⟨.root,Nat.le_refl _⟩
  ·cases h
 ·intro u k h hk;have:k=0:=by omega
  subst this;rw[h.zero];simp
structure R3 (G:Gr)(r t:Nat)(d0 d:Nat→Option Nat)(A:Nat→Nat→Prop):Prop where
 old:∀u k,d0 u=some k→d u=some k
 new:∀u,d0 u=none→(d u=some (t+1)∧∃v,d0 v=some t∧A v u∧u∈G.succ v)∨(d u=none∧∀v,d0 v=some t→u∈G.succ v→¬A v u)
theorem R3.fin {G:Gr}{r t:Nat}{d0 d:Nat→Option Nat}(h0:Lev G r t d0)(h:R3 G r t d0 d fun _ _=>True):Lev G r (t+1) d:=by
 constructor
 ·intro u k hk
  cases e:d0 u with
  | some j =>
    have:=h.old u j e;rw[hk] at this;cases this;have:=h0.has u k e
    exact⟨this.1,by omega⟩
  | none =>
    rcases h.new u e with⟨h1,v,hv,-,hu⟩|⟨h1,-⟩
    ·rw[hk] at h1;cases h1;obtain⟨j,hj,hd⟩:=(h0.has v t hv).1.zbo hu;have:¬j≤t:=fun hjt=>by rw[h0.all u j hd hjt] at e;cases e
     have:j=t+1:=by omega
     subst this;exact⟨hd,Nat.le_refl _⟩
    ·rw[hk] at h1;cases h1
 ·intro u k hd hk;by_cases hkt:k≤t
  ·exact h.old u k (h0.all u k hd hkt)
  ·have:k=t+1:=by omega
   subst this
   have e:d0 u=none:=by
    cases e:d0 u with
    |none=>rfl
    |some j=>have:=h0.has u j e;have:=hd.uniq this.1;omega
   obtain⟨v,hv,hu⟩:=hd.pred;rcases h.new u e with⟨h1,-⟩|⟨-,h2⟩
   ·exact h1
   ·exact absurd trivial (h2 v (h0.all v t hv (Nat.le_refl _)) hu)
theorem Lev.last {G:Gr}{r t:Nat}{d:Nat→Option Nat}(h:Lev G r t d)(h0:∀u,d u≠some t):∀u k,Oe G r k u→d u=some k:=by
 have key:∀k u,Oe G r k u→k<t:=by
  intro k
  induction k with
  | zero =>
    intro u hu;by_cases ht:0<t
    ·exact ht
    ·have:t=0:=by omega
     subst this
     exact absurd (h.all u 0 hu (Nat.le_refl _)) (h0 u)
  | succ k ih =>
    intro u hu;obtain⟨v,hv,-⟩:=hu.pred;have:=ih v hv;by_cases e:k+1<t
    ·exact e
    ·have:k+1=t:=by omega
     subst this;exact absurd (h.all u _ hu (Nat.le_refl _)) (h0 u)
 intro u k hd
 have:=key k u hd
 exact h.all u k hd (by omega)
theorem Pc {g:List (List Nat)}(h:N1 g)(v u:Nat)(hu:u∈KW g v):u<g.length:=by
 unfold KW at hu
 cases e:g[v]? with
 |none=>rw[e] at hu;cases hu
 |some l=>rw[e] at hu;exact h.lt l (List.mem_of_getElem? e) u hu
def VD {g:List (List Nat)}(h:N1 g):Gr:=⟨g.length,KW g,Pc h⟩
abbrev Ds:=List (Option Nat)
def dF (d:Ds)(u:Nat):Option Nat:=(d[u]?).getD none
def Qz (t:Nat)(d:Ds)(u:Nat):Ds:=if d[u]? =some none then d.set u (some (t+1)) else d
def W7 (t:Nat)(g:List (List Nat))(d:Ds)(v:Nat):Ds:=if dF d v=some t then(KW g v).foldl (Qz t) d else d
def lvl (t:Nat)(g:List (List Nat))(d:Ds):Ds:=(List.range g.length).foldl (W7 t g) d
theorem SY (t:Nat)(d:Ds)(u:Nat):(Qz t d u).length=d.length:=by
 unfold Qz
 split<;>simp
theorem QX (t:Nat):∀(l:List Nat) (d:Ds),(l.foldl (Qz t) d).length=d.length
 |[],d=>rfl
 |u::l,d=>by rw[List.foldl_cons,QX t l,SY]
theorem Y8 (t:Nat)(g:List (List Nat))(d:Ds)(v:Nat):(W7 t g d v).length=d.length:=by
 unfold W7
 split
 ·exact QX t _ d
 ·rfl
theorem QR (t:Nat)(g:List (List Nat)):∀(l:List Nat) (d:Ds),(l.foldl (W7 t g) d).length=d.length
 |[],d=>rfl
 |v::l,d=>by rw[List.foldl_cons,QR t g l,Y8]
theorem z0T (t:Nat)(g:List (List Nat))(d:Ds):(lvl t g d).length=d.length:=QR t g _ d
theorem z4q {t:Nat}{d:Ds}{u:Nat}(hu:u<d.length)(x:Nat):dF (Qz t d u) x=if x=u∧dF d u=none then some (t+1) else dF d x:=by
 unfold Qz dF
 have e:d[u]? =some d[u]:=List.getElem?_eq_getElem hu
 rw[e]
 by_cases h:d[u]=none
 ·rw[if_pos (by rw[h])];by_cases hx:x=u
  ·subst hx;rw[List.getElem?_set_self hu,if_pos ⟨rfl,h⟩];rfl
  ·rw[List.getElem?_set_ne (fun e=>hx e.symm),if_neg (fun e=>hx e.1)]
 ·rw[if_neg (fun e=>h (Option.some.inj e)),if_neg (fun e=>h e.2)]
section
variable {G:Gr}{r t:Nat}{d0 d:Nat→Option Nat}{A B:Nat→Nat→Prop}
theorem R3.step {v u:Nat}(h:R3 G r t d0 d A)(hv:d0 v=some t)(hu:u∈G.succ v){d':Nat→Option Nat}(hd':∀x,d' x=if x=u∧d u=none then some (t+1) else d x):R3 G r t d0 d' (fun v' u'=>A v' u'∨(v'=v∧u'=u)):=by
 constructor
 ·intro x k hx;rw[hd',if_neg]
  ·exact h.old x k hx
  ·rintro⟨rfl,e⟩;rw[h.old _ _ hx] at e;cases e
 ·intro x hx;rw[hd'];rcases h.new x hx with⟨h1,w,h2,h3,h4⟩|⟨h1,h2⟩
  ·left
   rw[if_neg (by rintro⟨rfl,e⟩;rw[h1] at e;cases e)];exact⟨h1,w,h2,.inl h3,h4⟩
  ·by_cases e:x=u
   ·subst e;left;rw[if_pos ⟨rfl,h1⟩];exact⟨rfl,v,hv,.inr ⟨rfl,rfl⟩,hu⟩
   ·right
    rw[if_neg (fun e2=>e e2.1)];refine⟨h1,fun w hw hu'=>?_⟩;rintro(e2|⟨_,e2⟩)
    ·exact h2 w hw hu' e2
    ·exact e e2
theorem R3.X9 (h:R3 G r t d0 d A)(hAB:∀v u,d0 v=some t→u∈G.succ v→(A v u↔B v u)):R3 G r t d0 d B:=by
 refine⟨h.old,fun u hu=>?_⟩
 rcases h.new u hu with⟨h1,v,h2,h3,h4⟩|⟨h1,h2⟩
 ·exact .inl ⟨h1,v,h2,(hAB v u h2 h4).1 h3,h4⟩
 ·exact .inr ⟨h1,fun v hv hu hB=>h2 v hv hu ((hAB v u hv hu).2 hB)⟩
theorem R3.zero (G:Gr)(r t:Nat)(d0:Nat→Option Nat):R3 G r t d0 d0 fun _ _=>False:=⟨fun _ _ h=>h,fun u h=> .inr ⟨h,fun _ _ _=>id⟩⟩
theorem R3.at_ (h:R3 G r t d0 d A)(v:Nat):d v=some t↔d0 v=some t:=by
 constructor
 ·intro e
  cases e0:d0 v with
  |some k=>have:=h.old v k e0;rw[this] at e;exact e
  | none =>
    rcases h.new v e0 with⟨h1,-⟩|⟨h1,-⟩
    ·rw[h1] at e;have:=Option.some.inj e;omega
    ·rw[h1] at e;cases e
 ·exact fun e=>h.old v t e
end
section
variable {g:List (List Nat)}{r t:Nat}
theorem TR (h:N1 g){d0:Nat→Option Nat}{A:Nat→Nat→Prop}{v:Nat}(hv:d0 v=some t):∀(p l:List Nat) (d:Ds),p++l=KW g v→d.length=g.length→R3 (VD h) r t d0 (dF d) (fun v' u'=>A v' u'∨(v'=v∧u'∈p))→R3 (VD h) r t d0 (dF (l.foldl (Qz t) d)) (fun v' u'=>A v' u'∨(v'=v∧u'∈KW g v))
 |p,[],d,e,hd,hm=>by rw[←e,List.append_nil];exact hm
 | p, u :: l, d, e, hd, hm => by
   have hu:u∈KW g v:=by rw[←e];simp
   have hul:u<d.length:=by rw[hd];exact Pc h v u hu
   rw[List.foldl_cons];refine TR h hv (p++[u]) l _ (by rw[←e];simp) (by rw[SY,hd]) ?_;refine(hm.step hv hu (z4q hul)).X9 fun v' u' _ _=>?_;rw[List.mem_append,List.mem_singleton];constructor
   ·rintro((a|⟨a,b⟩)|⟨a,b⟩)
    ·exact .inl a
    ·exact .inr ⟨a,.inl b⟩
    ·exact .inr ⟨a,.inr b⟩
   ·rintro(a|⟨a,b|b⟩)
    ·exact .inl (.inl a)
    ·exact .inl (.inr ⟨a,b⟩)
    ·exact .inr ⟨a,b⟩
theorem Vd (h:N1 g){d0:Nat→Option Nat}:∀(n:Nat) (d:Ds),d.length=g.length→dF d=d0→R3 (VD h) r t d0 (dF ((List.range n).foldl (W7 t g) d)) (fun v' _=>v'<n)
 |0,d,hd,e=>by rw[←e];exact(R3.zero _ _ _ _).X9 fun v u _ _=>by simp
 | n + 1, d, hd, e => by
   have ih:=Vd h n d hd e;rw[List.range_succ,List.foldl_append,List.foldl_cons,List.foldl_nil];have hlen:=QR t g (List.range n) d
   generalize (List.range n).foldl (W7 t g) d=d1 at ih hlen
   unfold W7;by_cases hn:dF d1 n=some t
   ·rw[if_pos hn];have hv:=(ih.at_ n).1 hn;refine(TR h (A:=fun v' _=>v'<n) hv [] _ d1 rfl (by omega) (ih.X9 fun v' u' _ _=>by simp)).X9 fun v' u' _ hu'=>?_;constructor
    ·rintro(a|⟨a,b⟩)<;>omega
    ·intro a;by_cases e2:v'=n
     ·subst e2;exact .inr ⟨rfl,hu'⟩
     ·exact .inl (by omega)
   ·rw[if_neg hn];refine ih.X9 fun v' u' hv' hu'=>?_;have:v'≠n:=fun e2=>hn (by rw[←e2];exact(ih.at_ v').2 hv');omega
theorem z6A (h:N1 g){d:Ds}(hd:d.length=g.length)(hL:Lev (VD h) r t (dF d)):Lev (VD h) r (t+1) (dF (lvl t g d)):=by
 refine R3.fin hL ((Vd h g.length d hd rfl).X9 fun v u hv hu=>?_)
 constructor
 ·intro _;trivial
 ·intro _;by_cases hvg:v<g.length
  ·exact hvg
  ·have:dF d v=none:=by unfold dF;rw[List.getElem?_eq_none (by omega)];rfl
   rw[this] at hv;cases hv
end
/-! ### The same with a flag: whether there were some -/
def O4 (t:Nat)(p:Ds×Bool)(u:Nat):Ds×Bool:=if p.1[u]? =some none then(p.1.set u (some (t+1)),true) else p
def PU (t:Nat)(g:List (List Nat))(p:Ds×Bool)(v:Nat):Ds×Bool:=if dF p.1 v=some t then(KW g v).foldl (O4 t) p else p
def W2 (t:Nat)(g:List (List Nat))(d:Ds):Ds×Bool:=(List.range g.length).foldl (PU t g) (d,false)
theorem z4z (t:Nat)(p:Ds×Bool)(u:Nat):(O4 t p u).1=Qz t p.1 u:=by
 unfold O4 Qz
 split<;>rfl
theorem WS (t:Nat):∀(l:List Nat) (p:Ds×Bool),(l.foldl (O4 t) p).1=l.foldl (Qz t) p.1
 |[],p=>rfl
 |u::l,p=>by rw[List.foldl_cons,List.foldl_cons,WS t l,z4z]
theorem z6J (t:Nat)(g:List (List Nat))(p:Ds×Bool)(v:Nat):(PU t g p v).1=W7 t g p.1 v:=by
 unfold PU W7
 split
 ·exact WS t _ p
 ·rfl
theorem z25 (t:Nat)(g:List (List Nat)):∀(l:List Nat) (p:Ds×Bool),(l.foldl (PU t g) p).1=l.foldl (W7 t g) p.1
 |[],p=>rfl
 |v::l,p=>by rw[List.foldl_cons,List.foldl_cons,z25 t g l,z6J]
theorem z89 (t:Nat)(g:List (List Nat))(d:Ds):(W2 t g d).1=lvl t g d:=z25 t g _ _
def Flg (t:Nat)(d0:Ds)(p:Ds×Bool):Prop:=(p.2=false→p.1=d0)∧(p.2=true→∃u,dF p.1 u=some (t+1))
theorem Flg.Qz {t:Nat}{d0:Ds}{p:Ds×Bool}(h:Flg t d0 p)(u:Nat):Flg t d0 (O4 t p u):=by
 unfold O4
 by_cases e:p.1[u]? =some none
 ·rw[if_pos e];refine⟨fun e2=>(by cases e2),fun _=>⟨u,?_⟩⟩
  have hu:u<p.1.length:=by
   rcases Nat.lt_or_ge u p.1.length with h| h
   ·exact h
   ·rw[List.getElem?_eq_none h] at e;cases e
  unfold dF;rw[List.getElem?_set_self hu];rfl
 ·rw[if_neg e];exact h
theorem Flg.z4x {t:Nat}{d0:Ds}:∀(l:List Nat) {p:Ds×Bool},Flg t d0 p→Flg t d0 (l.foldl (O4 t) p)
 |[],_,h=>h
 |u::l,_,h=>by rw[List.foldl_cons];exact Flg.z4x l (h.Qz u)
theorem Flg.z9r {t:Nat}{d0:Ds}{g:List (List Nat)}:∀(l:List Nat) {p:Ds×Bool},Flg t d0 p→Flg t d0 (l.foldl (PU t g) p)
 |[],_,h=>h
 | v :: l, p, h => by
   rw[List.foldl_cons];refine Flg.z9r l ?_;unfold PU;split
   ·exact Flg.z4x _ h
   ·exact h
theorem z5l (t:Nat)(g:List (List Nat))(d:Ds):Flg t d (W2 t g d):=Flg.z9r _ ⟨fun _=>rfl,fun e=>by cases e⟩
/-! ### A run -/
structure T9 where
 t:Nat
 done:Bool
 d:Ds
def T9.new (n root:Nat):T9:=⟨0,false,(List.replicate n none).set root (some 0)⟩
def T9.step (g:List (List Nat))(s:T9):T9:=⟨s.t+1,!(W2 s.t g s.d).2,(W2 s.t g s.d).1⟩
structure BfI (g:List (List Nat))(h:N1 g)(r:Nat)(s:T9):Prop where
 len:s.d.length=g.length
 lev:Lev (VD h) r s.t (dF s.d)
 run:s.done=false→∃u,dF s.d u=some s.t
 fin:s.done=true→(∀u,dF s.d u≠some s.t)∧∃u k,dF s.d u=some k∧k+1=s.t
section
variable {g:List (List Nat)}{h:N1 g}{r:Nat}{s:T9}
theorem BfI.new (h:N1 g)(hr:r<g.length):BfI g h r (T9.new g.length r):=by
 have e:dF (T9.new g.length r).d=fun u=>if u=r then some 0 else none:=by
  funext u
  unfold dF T9.new;dsimp only;by_cases hu:u=r
  ·subst hu;rw[List.getElem?_set_self (by simpa using hr),if_pos rfl];rfl
  ·rw[List.getElem?_set_ne (fun e=>hu e.symm),if_neg hu,List.getElem?_replicate];split<;>rfl
 refine⟨by simp[T9.new],by rw[e];exact zcQ _ r,fun _=>⟨r,by rw[e];simp[T9.new]⟩,fun e=>by cases e⟩
theorem BfI.step (hI:BfI g h r s)(hd:s.done=false):BfI g h r (s.step g):=by
 have hF:=z5l s.t g s.d
 have h1:=z89 s.t g s.d
 have hl:=z6A h hI.len hI.lev
 rw[←h1] at hl
 refine⟨?_,hl,fun e=>?_,fun e=>?_⟩
 ·show(W2 s.t g s.d).1.length=_;rw[h1,z0T];exact hI.len
 ·have e2:(W2 s.t g s.d).2=true:=by simpa[T9.step] using e
  exact hF.2 e2
 ·have e2:(W2 s.t g s.d).2=false:=by simpa[T9.step] using e
  have e3:=hF.1 e2;refine⟨fun u hu=>?_,?_⟩
  ·have hu':dF s.d u=some (s.t+1):=by rw[←e3];exact hu
   have:=(hI.lev.has u _ hu').2;omega
  ·obtain⟨u,hu⟩:=hI.run hd;exact⟨u,s.t,by show dF (W2 s.t g s.d).1 u=_;rw[e3];exact hu,rfl⟩
theorem ZV:∀(n k:Nat) (f:Nat→Nat),(∀i,i<k→f i<n)→(∀i j,i<k→j<k→f i=f j→i=j)→k≤n
 | 0, k, f, h, _ => by
   by_cases e:k=0
   ·omega
   ·have:=h 0 (by omega);omega
 | n + 1, k, f, h, hi => by
   by_cases e:∃i,i<k∧f i=n
   ·obtain⟨i0,h0,e0⟩:=e;have:=ZV n (k-1) (fun i=>if i<i0 then f i else f (i+1)) (fun i hik=>?_) (fun i j hik hjk e=>?_)
    ·omega
    ·try dsimp only
     split
     ·have h1:=h i (by omega);have:f i≠n:=fun e=>by have:=hi i i0 (by omega) h0 (by rw[e,e0]);omega
      omega
     ·have h1:=h (i+1) (by omega);have:f (i+1)≠n:=fun e=>by have:=hi (i+1) i0 (by omega) h0 (by rw[e,e0]);omega
      omega
    ·try dsimp only at e
     split at e<;>split at e
     ·exact hi i j (by omega) (by omega) e
     ·have:=hi i (j+1) (by omega) (by omega) e;omega
     ·have:=hi (i+1) j (by omega) (by omega) e;omega
     ·have:=hi (i+1) (j+1) (by omega) (by omega) e;omega
   ·have:=ZV n k f (fun i hik=>by have h1:=h i hik;have:f i≠n:=fun e2=>e ⟨i,hik,e2⟩;omega) hi;omega
theorem Oe.below {G:Gr}{r:Nat}:∀{k u:Nat},Oe G r k u→∀j,j≤k→∃v,Oe G r j v
 |0,u,h,j,hj=>⟨u,by rw[show j=0 by omega];exact h⟩
 | k + 1, u, h, j, hj => by
   by_cases e:j=k+1
   ·rw[e];exact⟨u,h⟩
   ·obtain⟨v,hv,-⟩:=h.pred;exact hv.below j (by omega)
theorem Oe.z6Q (h:N1 g)(hr:r<g.length){k u:Nat}(hd:Oe (VD h) r k u):k<g.length:=by
 have hex:∀j,∃v,j≤k→Oe (VD h) r j v:=fun j=>by
  by_cases hj:j≤k
  ·obtain⟨v,hv⟩:=hd.below j hj;exact⟨v,fun _=>hv⟩
  ·exact⟨0,fun e=>absurd e hj⟩
 have hlt:∀{j v:Nat},Oe (VD h) r j v→v<g.length:=fun {j v} hv=>by
  cases hv.1 with
  |root=>exact hr
  |step _ hu=>exact Pc h _ _ hu
 have:=ZV g.length (k+1) (fun j=>Classical.choose (hex j)) (fun i hi=>hlt (Classical.choose_spec (hex i) (by omega))) (fun i j hi hj e=>by
  have h1:=Classical.choose_spec (hex i) (by omega);have h2:=Classical.choose_spec (hex j) (by omega)
  try dsimp only at e
  rw[e] at h1
  exact h1.uniq h2)
 omega
theorem BfI.zc7 (hI:BfI g h r s)(hr:r<g.length)(hd:s.done=false):s.t<g.length:=by
 obtain⟨u,hu⟩:=hI.run hd
 exact(hI.lev.has u _ hu).1.z6Q h hr
theorem BfI.all (hI:BfI g h r s)(hd:s.done=true)(u:Nat):(∀k,dF s.d u=some k↔Oe (VD h) r k u):=fun k=>
 ⟨fun e=>(hI.lev.has u k e).1,fun e=>hI.lev.last (hI.fin hd).1 u k e⟩
end
theorem z1s {v:Nat}(h:v≤200000):Nat.log2 (v+1)≤17:=by
 have h1:=Nat.log2_self_le (n:=v+1) (by omega)
 have h3:2^Nat.log2 (v+1)<2^18:=by
  have:(2:Nat)^18=262144:=by decide
  omega
 have:=(Nat.pow_lt_pow_iff_right (by decide:1<2)).1 h3
 omega
theorem RO.z6X {k:Nat}{q:Cd×Nat}(h:RO k q)(hk:1≤k∧k≤3):(q.1.enc q.2).length≤40:=by
 rw[Rh]
 rcases h with⟨e,h⟩|⟨e,h⟩|⟨e,h⟩
 ·rw[e];show q.2+1+0≤_;omega
 ·have:=z1s h;rw[e];show Nat.log2 (q.2+1)+1+Nat.log2 (q.2+1)≤_;omega
 ·have h3:=z1s h;have h4:Nat.log2 (q.2+1) / k≤Nat.log2 (q.2+1):=Nat.div_le_self _ _;have hm:Nat.log2 (q.2+1) / k*k≤Nat.log2 (q.2+1):=Nat.div_mul_le_self _ _
  have h5:(MB (q.2+1-2^(Nat.log2 (q.2+1) / k*k)) (2^(Nat.log2 (q.2+1) / k*k)*2^k-2^(Nat.log2 (q.2+1) / k*k))).2≤20:=by
   have h6:Lr (2^(Nat.log2 (q.2+1) / k*k)*2^k-2^(Nat.log2 (q.2+1) / k*k)-1)≤20:=by
    refine Mj ?_;have h7:=Nat.pow_le_pow_right (show 0<2 by decide) (show Nat.log2 (q.2+1) / k*k+k≤20 by omega);rw[Nat.pow_add] at h7;have:=Nat.two_pow_pos (Nat.log2 (q.2+1) / k*k);omega
   unfold MB;dsimp only;split
   ·show Lr _-1≤20;omega
   ·exact h6
  rw[e];show Nat.log2 (q.2+1) / k+1+(MB _ _).2≤_;omega
theorem z0r {p:MX}(hp:p.LS)(hz:p.zeta≤3){x:Nat}(hx:x<65536){succ ref:List Nat}(hs:Lj succ)(hr:Lj ref){r:Nat}(iz:r≤p.L6)(He:succ.length≤40)(yh:ref.length≤40):(L3 (My p x succ ref r)).length≤6600:=by
 have aw:Lj (leftOf succ ref):=hs.sub List.filter_sublist
 have eM:(leftOf succ ref).length≤succ.length:=List.length_filter_le _ _
 have h1:=(NT succ ref).Vy
 rw[List.length_map] at h1
 have h2:=Ww p.interval aw
 have h3:=(Pa p.interval (leftOf succ ref)).length_le
 have aD:(My p x succ ref r).length≤165:=by
  unfold My;rw[List.length_cons];split
  ·simp
  rw[List.length_append,List.length_append];have e1:(if 0<p.L6 then [(Cd.unary,r)] else []).length≤1:=by split<;>simp
  have e2:(if 0<r then(Cd.gamma,(Mm succ ref).length-1)::runNums 0 (Mm succ ref).dropLast else []).length≤42:=by
   split
   ·rw[List.length_cons,NQ,List.length_dropLast];omega
   ·simp
  have e3:(if leftOf succ ref=[] then [] else(if 0<p.interval then(Cd.gamma,(rowsN p.interval (leftOf succ ref)).1.length)::longNums x p.interval none (rowsN p.interval (leftOf succ ref)).1 else [])++restNums x p.zeta none (rowsN p.interval (leftOf succ ref)).2).length≤121:=by
   split
   ·simp
   ·rw[List.length_append,NZ];split
    ·rw[List.length_cons,Nk];omega
    ·simp;omega
  omega
 have:=Wn (n:=40) (L:=My p x succ ref r) (fun q hq=>(Us hp hx hs hr iz q hq).z6X ⟨hp.2.2.1,hz⟩)
 omega
section
variable {p:LJ}{g:List (List Nat)}{E:List (Nat×Nat)}
theorem z8w (h:NK p g E)(tO:g.length≤40)(hz:p.zeta≤3){i:Nat}(hi:i<g.length):(S2 p g E i).length≤6600:=by
 unfold S2
 have rR:g[i]? =some g[i]:=List.getElem?_eq_getElem hi
 have pS:i<E.length:=by have:=h.pk.el;omega
 have Fu:E[i]? =some E[i]:=List.getElem?_eq_getElem pS
 have gq:=h.pk.ok.ent i _ Fu
 rw[rR,Fu]
 rw[rR] at gq
 show(L3 (My p.list i g[i] (M0 g i E[i].1) E[i].1)).length≤6600
 have h2:Lj (M0 g i E[i].1)∧(M0 g i E[i].1).length≤40:=by
  rcases RA g i E[i].1 with e| e
  ·rw[e];exact⟨⟨List.Pairwise.nil,fun y h=>(by cases h)⟩,Nat.zero_le _⟩
  ·exact⟨h.gr.ok _ e,by have:=h.gr.len e;omega⟩
 have iz:E[i].1≤p.list.L6:=by
  rcases gq with e|⟨-,h3,-⟩
  ·rw[e];exact Nat.zero_le _
  ·exact h3
 have hm:g[i]∈g:=List.getElem_mem hi
 exact z0r h.LS.1 hz (by omega) (h.gr.ok _ hm) h2.1 iz (by have:=h.gr.len hm;omega) h2.2
theorem z48 (h:NK p g E)(tO:g.length≤40)(hz:p.zeta≤3):∀n,n≤g.length→(LY p g E n).length≤n*6600
 |0,_=>by simp[LY]
 | n + 1, hn => by
   have:=z48 h tO hz n (by omega);have:=z8w h tO hz (i:=n) (by omega);rw[NM,List.length_append,Nat.add_mul];omega
theorem z6p {n u:Nat}(hn:1≤n):(OG n u).bits≤3*n:=by
 show(u-1) / 2^Sg n u+n≤_
 have h:u<2*n*2^Sg n u:=by
  unfold Sg;split
  ·rename_i e
   have:=(Nat.div_eq_zero_iff).1 e;omega
  ·rename_i e
   have h1:=Ry (v:=u / n);have h2:=(Nat.div_lt_iff_lt_mul (by omega)).1 h1;have h3:1≤Lr (u / n):=by unfold Lr;rw[if_neg e];omega
   rw[show Lr (u / n)=Lr (u / n)-1+1 by omega,Nat.pow_succ,Nat.mul_comm _ n,Nat.mul_comm _ 2,←Nat.mul_assoc,Nat.mul_comm n 2] at h2;exact h2
 have h4:(u-1) / 2^Sg n u<2*n:=(Nat.div_lt_iff_lt_mul (Nat.two_pow_pos _)).2 (by omega)
 omega
theorem z5x (h:NK p g E)(tO:g.length≤40)(hz:p.zeta≤3):(S1 p g E).length≤36000:=by
 have h1:=z48 h tO hz g.length (Nat.le_refl _)
 have h2:g.length*6600≤40*6600:=Nat.mul_le_mul_right _ tO
 have h3:(Wc p g E).size≤2900:=by
  have hw:Sg (g.length+1) ((LY p g E g.length).length+1)≤30:=Ts (by omega);have hb:=z6p (n:=g.length+1) (u:=(LY p g E g.length).length+1) (by omega);have hm:(g.length+1)*Sg (g.length+1) ((LY p g E g.length).length+1)≤41*30:=Nat.mul_le_mul (by omega) hw;show 12+((g.length+1)*Sg (g.length+1) ((LY p g E g.length).length+1)+7) / 8+((OG (g.length+1) ((LY p g E g.length).length+1)).bits+7) / 8+4*((g.length+1+63) / 64)≤2900;omega
 rw[h.len]
 unfold QF
 omega
end
structure GwP where
 p:LJ
 g:List (List Nat)
 E:List (Nat×Nat)
 st:Nat
 len:Nat
 rb:Nat
 sum:Nat
 k:Nat
 x:Nat
def NU (G:GwP)(Q:MP)(txt:Int→Bytes)(K:Nat)(X:Nat→Prop)(w:World):Prop:=∃o:StO Q txt K G.st G.len (S1 G.p G.g G.E),Pu (z3C o G.rb G.sum) G.k G.x X w
section
variable {G:GwP}{w w':World}{Q Q':MP}{txt txt':Int→Bytes}{K K':Nat}{X Y S':Nat→Prop}
theorem NU.sp (h:NU G Q txt K X w):Sp Q txt K (fun b=>X b∨b=G.rb) w:=by obtain⟨o,h⟩:=h;exact h.inv.1
theorem NU.rbB (h:NU G Q txt K X w):KP w G.rb (srC Q.s G.st G.len (S1 G.p G.g G.E).length G.sum) 179:=by obtain⟨o,h⟩:=h;exact h.inv.2.1
theorem NU.rbX (h:NU G Q txt K X w):¬X G.rb:=by obtain⟨o,h⟩:=h;exact h.inv.2.2
theorem NU.lt (h:NU G Q txt K X w):∀b,X b→b<w.heap.size:=by obtain⟨o,h⟩:=h;exact h.lt
theorem NU.lt1 (h:NU G Q txt K X w):∀b,(X b∨b=G.rb)→b<w.heap.size:=fun b hb=>hb.elim (h.lt b) (fun e=>by rw[e];exact h.rbB.lt)
theorem NU.z2U (h:NU G Q txt K X w):K<1000000000000:=by obtain⟨o,h⟩:=h;exact o.k
theorem NU.xk (h:NU G Q txt K X w):X G.k∧X G.x∧X 1∧X 2:=by obtain⟨o,h⟩:=h;exact⟨h.xk,h.xx,h.x1,h.x2⟩
theorem NU.ok (h:NU G Q txt K X w):NK G.p G.g G.E:=by obtain⟨o,h⟩:=h;exact h.ok
theorem NU.VX (h:NU G Q txt K X w)(hk:Kp S' w w')(hS:∀b,S' b→¬(X b∨b=G.rb)∨(X b∧b≠G.k∧b≠G.x∧b≠1∧b≠2))(hP:Sp Q' txt' K' (fun b=>X b∨b=G.rb) w')(hs:Q'.s=Q.s)(hl:Q'.L.length=Q.L.length)(hK:K'<1000000000000)(ht:∀y:Int,(G.st:Int)≤y→y<(G.st:Int)+(G.len:Int)→txt' y=txt y):NU G Q' txt' K' X w':=by
 have pn:=h.rbX
 have zf:=h.rbB
 obtain⟨o,h⟩:=h
 have aD:=o.len
 refine⟨⟨hK,by rw[hl];exact o.fit,o.laid.X9 fun k hk=>ht _ (by omega) (by omega),o.len⟩,h.re hk (fun j hj=>?_) ⟨hP,?_,pn⟩⟩
 ·rcases hS j hj with e| e
  ·exact⟨fun e2=>e (.inl (e2▸h.xk)),fun e2=>e (.inl (e2▸h.xx)),fun e2=>e (.inl (e2▸h.x1)),fun e2=>e (.inl (e2▸h.x2))⟩
  ·exact e.2
 ·rw[hs];exact hk.KD zf (fun e=>(hS _ e).elim (fun e=>e (.inr rfl)) (fun e=>pn e.1))
theorem NU.zab (h:NU G Q txt K X w)(hk:Kp S' w w')(hS:∀b,S' b→¬(X b∨b=G.rb))(bD:∀j,X j→Y j)(hY:∀j,Y j→X j∨(w.heap.size≤j∧j<w'.heap.size))(hP:Sp Q' txt' K' (fun b=>Y b∨b=G.rb) w')(hs:Q'.s=Q.s)(hl:Q'.L.length=Q.L.length)(hK:K'<1000000000000)(ht:∀y:Int,(G.st:Int)≤y→y<(G.st:Int)+(G.len:Int)→txt' y=txt y):NU G Q' txt' K' Y w':=by
 have pn:=h.rbX
 have zf:=h.rbB
 obtain⟨o,h⟩:=h
 have aD:=o.len
 have hI:(z3C (⟨hK,by rw[hl];exact o.fit,o.laid.X9 fun k hk=>ht _ (by omega) (by omega),o.len⟩:StO Q' txt' K' G.st G.len (S1 G.p G.g G.E)) G.rb G.sum).inv Y w':=⟨hP,by rw[hs];exact hk.KD zf (fun e=>hS _ e (.inr rfl)),fun e=>(hY _ e).elim pn (fun e=>by have:=zf.lt;omega)⟩
 refine⟨_,⟨h.ok,hk.KD h.KD (fun e=>hS _ e (.inl h.xk)),hk.KD h.ix (fun e=>hS _ e (.inl h.xx)),bD _ h.xk,bD _ h.xx,hI,fun j hj=>?_,bD _ h.x1,bD _ h.x2,hk.KD h.gam (fun e=>hS _ e (.inl h.x1)),hk.KD h.una (fun e=>hS _ e (.inl h.x2))⟩⟩
 rcases hY j hj with e| e
 ·have:=h.lt j e;have:=hk.size;omega
 ·exact e.2
theorem NU.grow (h:NU G Q txt K X w)(hx:Ext w w')(hY:∀j,Y j→X j∨(w.heap.size≤j∧j<w'.heap.size))(bD:∀j,X j→Y j):NU G Q txt K Y w':=by
 obtain⟨o,h⟩:=h
 exact⟨o,h.grow hx hY bD⟩
theorem NU.ext (h:NU G Q txt K X w)(hx:Ext w w'):NU G Q txt K X w':=h.grow hx (fun j hj=> .inl hj) fun j hj=>hj
theorem NU.own (h:NU G Q txt K X w)(hk:Kp S' w w')(hS:∀j,S' j→X j∧j≠G.k∧j≠G.x∧j≠1∧j≠2):NU G Q txt K X w':=by
 obtain⟨o,h⟩:=h
 exact⟨o,h.own hk hS⟩
theorem NU.step (h:NU G Q txt K X w)(hk:Kp S' w w')(hS:∀j,S' j→X j∧j≠G.k∧j≠G.x∧j≠1∧j≠2)(hY:∀j,Y j→X j∨(w.heap.size≤j∧j<w'.heap.size))(bD:∀j,X j→Y j):NU G Q txt K Y w':=by
 obtain⟨o,h⟩:=h
 exact⟨o,h.step hk hS hY bD⟩
theorem NU.less (h:NU G Q txt K Y w)(bD:∀j,X j→Y j)(hx:X G.k∧X G.x∧X 1∧X 2):NU G Q txt K X w:=by
 obtain⟨o,h⟩:=h
 exact⟨o,h.less bD hx.1 hx.2.1 hx.2.2.1 hx.2.2.2⟩
theorem NU.more (h:NU G Q txt K X w)(hK:K≤K')(xD:K'<1000000000000):NU G Q txt K' X w:=h.VX (S':=fun _=>False) (Kp.refl _ w) (fun _ e=>e.elim) (h.sp.more hK) rfl rfl xD fun _ _ _=>rfl
theorem X4 (h:NU G Q txt K X w):Le Tryz.prog 27 [ptr G.k 0] w fun v w'=>v=I (G.g.length:Int)∧w'=w:=by
 obtain⟨o,h⟩:=h
 exact z5L h
theorem z0p {l bk bi v:Nat}(iB:G.g.length<50)(hv:v<G.g.length)(h:NU G Q txt K X w)(fU:KP w bk [ptr G.k 0] 28)(tN:KP w bi [I (v:Int)] 3)(Z:Nat→Prop)(hZ:∀j,Z j→X j)(J:(Nat→Prop)→Nat→World→Prop)(F:World→Prop)
  (h0:∀(Y:Nat→Prop) (w':World),(∀j,X j→Y j)→(∀j,Y j→X j∨w.heap.size≤j)→NU G Q txt K Y w'→Kp (fun j=>¬X j) w w'→J Y 0 w')
  (hround:∀(Y:Nat→Prop) (i s:Nat) (w':World),(∀j,X j→Y j)→(∀j,Y j→X j∨w.heap.size≤j)→(KW G.g v)[i]? =some s→J Y i w'→WW Tryz.prog l [Lg s,I 0] w' fun r w''=>(r= .bool true∧J Y (i+1) w''∧Kp (fun j=>¬Y j∨Z j) w' w'')∨(r= .bool false∧F w'')):
  Le Tryz.prog 93 [.func (.yield l) #[] #[],ptr bk 0,ptr bi 0] w fun r w'=>r= .tuple #[]∧((∃Y,(∀j,X j→Y j)∧(∀j,Y j→X j∨w.heap.size≤j)∧J Y (KW G.g v).length w')∨F w'):=by
 obtain⟨o,h⟩:=h
 exact z0a iB hv h fU tN Z hZ J F (fun Y w' h1 h2 h3 h4=>h0 Y w' h1 h2 ⟨o,h3⟩ h4) hround
end
def bfC (t:Nat)(dn:Bool)(k vb:Nat)(br:Bool):List Value:=[I (t:Int),.bool dn,ptr k 0,ptr vb 0,.bool br]
structure PR (G:GwP)(Q:MP)(txt:Int→Bytes)(K:Nat)(X:Nat→Prop)(rr vb sv:Nat)(t:Nat)(dn:Bool)(xs:List Nat)(w:World):Prop where
 g:NU G Q txt K X w
 run:KP w rr (bfC t dn G.k vb false) 88
 vec:Tm Q txt vb 4 sv xs w
 xr:X rr∧X vb
 ne:rr≠vb∧rr≠G.k∧rr≠G.x∧rr≠1∧rr≠2∧vb≠G.k∧vb≠G.x∧vb≠1∧vb≠2
 Qu:G.st+G.len≤sv
 len:xs.length=G.g.length
 n:G.g.length≤40
 t:t≤1000000
section
variable {G:GwP}{w w':World}{Q Q':MP}{txt txt':Int→Bytes}{K K':Nat}{X Y S':Nat→Prop}{rr vb sv t:Nat}{dn:Bool}{xs ys:List Nat}
theorem PR.cells (h:PR G Q txt K X rr vb sv t dn xs w):KP w rr [I (t:Int),.bool dn,ptr G.k 0,ptr vb 0,.bool false] 88:=h.run
theorem PR.ext (h:PR G Q txt K X rr vb sv t dn xs w)(hx:Ext w w'):PR G Q txt K X rr vb sv t dn xs w':=⟨h.g.ext hx,hx.KD h.run,h.vec.ext hx,h.xr,h.ne,h.Qu,h.len,h.n,h.t⟩
theorem PR.grow (h:PR G Q txt K X rr vb sv t dn xs w)(hx:Ext w w')(hY:∀j,Y j→X j∨(w.heap.size≤j∧j<w'.heap.size))(bD:∀j,X j→Y j):PR G Q txt K Y rr vb sv t dn xs w':=⟨h.g.grow hx hY bD,hx.KD h.run,h.vec.ext hx,⟨bD _ h.xr.1,bD _ h.xr.2⟩,h.ne,h.Qu,h.len,h.n,h.t⟩
theorem PR.less (h:PR G Q txt K Y rr vb sv t dn xs w)(bD:∀j,X j→Y j)(hx:X G.k∧X G.x∧X 1∧X 2)(hr:X rr∧X vb):PR G Q txt K X rr vb sv t dn xs w:=⟨h.g.less bD hx,h.run,h.vec,hr,h.ne,h.Qu,h.len,h.n,h.t⟩
theorem PR.more (h:PR G Q txt K X rr vb sv t dn xs w)(hK:K≤K')(xD:K'<1000000000000):PR G Q txt K' X rr vb sv t dn xs w:=⟨h.g.more hK xD,h.run,h.vec,h.xr,h.ne,h.Qu,h.len,h.n,h.t⟩
theorem PR.own (h:PR G Q txt K X rr vb sv t dn xs w)(hk:Kp S' w w')(hS:∀j,S' j→X j∧j≠G.k∧j≠G.x∧j≠1∧j≠2∧j≠rr∧j≠vb):PR G Q txt K X rr vb sv t dn xs w':=
 ⟨h.g.own hk (fun j e=>⟨(hS j e).1,(hS j e).2.1,(hS j e).2.2.1,(hS j e).2.2.2.1,(hS j e).2.2.2.2.1⟩),hk.KD h.run (fun e=>(hS _ e).2.2.2.2.2.1 rfl),h.vec.kp hk (fun e=>(hS _ e).2.2.2.2.2.2 rfl),h.xr,h.ne,h.Qu,h.len,h.n,h.t⟩
theorem PR.read (h:PR G Q txt K X rr vb sv t dn xs w)(hk:Kp (fun b=>¬(X b∨b=G.rb)) w w')(hP:Sp Q txt K (fun b=>X b∨b=G.rb) w'):PR G Q txt K X rr vb sv t dn xs w':=
 ⟨h.g.VX hk (fun b e=> .inl e) hP rfl rfl h.g.z2U (fun _ _ _=>rfl),hk.KD h.run (fun e=>e (.inl h.xr.1)),h.vec.kp hk (fun e=>e (.inl h.xr.2)),h.xr,h.ne,h.Qu,h.len,h.n,h.t⟩
theorem PR.wrote (h:PR G Q txt K X rr vb sv t dn xs w)(hK:K'<1000000000000)(hl:ys.length=xs.length)(hW:VcW Q txt K' (fun b=>X b∨b=G.rb) vb 4 sv ys w w'):∃txt',PR G Q txt' K' X rr vb sv t dn ys w'∧(∀y:Int,y<(sv:Int)∨(sv:Int)+(RD xs.length 128:Int)≤y→txt' y=txt y)∧Kp (fun b=>¬(X b∨b=G.rb)) w w':=by
 obtain⟨txt',hP,hv,ht,hk⟩:=hW
 have hd:=h.Qu
 exact⟨txt',⟨h.g.VX hk (fun b e=> .inl e) hP rfl rfl hK (fun y h1 h2=>ht y (.inl (by omega))),hk.KD h.run (fun e=>e (.inl h.xr.1)),hv,h.xr,h.ne,h.Qu,by rw[hl];exact h.len,h.n,h.t⟩,fun y hy=>ht y (by rw[hl];exact hy),hk⟩
theorem U6 (h:PR G Q txt K X rr vb sv t dn xs w):Le Tryz.prog 32 [ptr rr 0] w fun v w'=>v=I 0∧w'=w:=by
 have hB:=h.cells
 refine KA (e:=[(0,_)]) Tryz.func32 rfl Tryz.ntmps32 rfl rfl (qN rfl (KE rfl (py (run_seq (KB (qN rfl (An rfl (qV (LO ZL rfl rfl) (KE rfl (py (Kx rfl (qN rfl (An rfl ?_)))))))))))))
 refine qV (KZ rfl) (qV (KK z86 rfl) (qV (KJ U4 rfl rfl hB rfl) (KE rfl (py (Kx rfl (It (KC (qN rfl (KE rfl (py (KG Tryz.func32 rfl ?_)))))))))))
 exact⟨_,rfl,rfl,rfl⟩
theorem WI (h:PR G Q txt K X rr vb sv t true xs w){i x:Nat}(hi:xs[i]? =some x):Le Tryz.prog 12 [ptr rr 0,I (i:Int)] w fun v w'=>v= .tuple #[KV (if x=4294967295 then 18446744073709551615 else x),I 0]∧PR G Q txt K X rr vb sv t true xs w'∧Kp (fun b=>¬(X b∨b=G.rb)) w w':=by
 have hB:=h.cells
 have hx:=(h.vec.zb9 hi).2
 refine KA (e:=[(0,_),(1,_)]) Tryz.func12 rfl Tryz.ntmps12 rfl rfl (qN rfl (KE rfl (KE rfl (py (run_seq (qN rfl (An rfl (L2 [.tmp 9] z94 rfl (U6 h) ?_))))))))
 rintro _ w ⟨rfl,rfl⟩
 refine KE rfl (qM rfl (An rfl (qV (LQ rfl rfl) (py (Kx rfl (It (run_seq (qN rfl (An rfl (qV (KZ rfl) (qV (KK QT rfl) (qV (KK WZ rfl) (qV (KJ U4 rfl rfl hB rfl) ?_)))))))))))))
 refine qV ((by first|exact LP rfl|exact Nq rfl)) ?_
 refine py (Kx rfl (It (qN rfl (An rfl (qV (KZ rfl) (qV (KK Xp rfl) (qV (KJ U80 rfl rfl hB rfl) (An rfl (L2 [.tmp 24,.tmp 25] z8o rfl (Td h.g.sp h.g.lt1 h.g.z2U h.vec (.inl h.xr.2) hi) ?_)))))))))
 rintro _ w1 ⟨rfl,o2,aN⟩
 have h1:=h.read aN o2
 refine An rfl (qV (Ll rfl rfl) (qV (Ll rfl rfl) (KE rfl (KE rfl (py (Lc.qb (e:=[(4,_),(5,_),(7,_),(8,_)]) ?_))))))
 refine run_seq (qN rfl (An rfl ?_))
 by_cases e:x=4294967295
 ·refine qV (Mc rfl rfl) (MC (py (KS rfl (qN rfl (An rfl (KE rfl (KE rfl (py (KG Tryz.func12 rfl ?_)))))))));rw[if_pos e];exact⟨_,rfl,rfl,h1,aN⟩
 ·refine qV (Mc rfl rfl) (Lq (py (Kx rfl (It (qN rfl (An rfl (An rfl (KE rfl (KE rfl (py (KG Tryz.func12 rfl ?_)))))))))));rw[if_neg e];exact⟨_,rfl,rfl,h1,aN⟩
end
theorem z3B {P:Program}{f:FuncId}{R:Value→World→Prop}{n:Nat}{rd:Option Nat}{ms:List Dfr}{dk:Bool}{k:List Item}{e:Env}{w:World}{α:Type}{c:Code}(x0:α)(M:α→List Dfr)(hM:M x0=ms)(E:α→Env)(I:α→World→Prop)(μ:α→Nat)(hE:Sub (E x0) e)(hI:I x0 w)
  (round:∀x w,I x w→(∀y w',I y w'→μ y<μ x→Lc ⟨P,f,R,n,rd,M y,dk⟩ (.inLoop c::k) (E y) w')→Lc ⟨P,f,R,n,rd,M x,dk⟩ (.code c:: .inLoop c::k) (E x) w):Lc ⟨P,f,R,n,rd,ms,dk⟩ (.code (.loop c)::k) e w:=by
 have key:∀m x w,μ x=m→I x w→Lc ⟨P,f,R,n,rd,M x,dk⟩ (.code c:: .inLoop c::k) (E x) w:=by
  intro m
  induction m using Nat.strongRecOn with
  | _ m ih =>
    intro x w hm hx;exact round x w hx fun y w' hy aQ=>UW (ih (μ y) (hm▸aQ) y w' rfl hy)
 subst hM
 exact fun a ha=>QD.step (fun _ _=>stepR_loop) (key _ x0 w rfl hI a (ha.sub hE))
theorem MT.kp {ms:List Dfr}{w w':World}{S:Nat→Prop}(h:MT ms w)(hk:Kp S w w')(hS:∀D,.mk D∈ms→¬S D):MT ms w':=fun d hd=>by
 obtain⟨D,rfl,hD⟩:=h d hd
 exact⟨D,rfl,hk.heap hD (hS D hd)⟩
theorem MT.nil (w:World):MT [] w:=fun d hd=>by cases hd
theorem MT.cons {ms:List Dfr}{w:World}{D:Nat}(h:MT ms w)(hD:w.heap[D]? =some (.deferred (some []))):MT (.mk D::ms) w:=fun d hd=>by
 rcases List.mem_cons.1 hd with rfl| e
 ·exact⟨D,rfl,hD⟩
 ·exact h d e
theorem VW:∀(ms:List Dfr) (w:World),Kp (fun k=> .mk k∈ms) w (Of ms w)
 |[],w=>Kp.refl _ w
 | .mk D::ms,w=>((M6 w D (.deferred none)).KT fun k e=>by rw[e];exact List.mem_cons_self).trans ((VW ms _).KT fun k e=>List.mem_cons_of_mem _ e)
 | .call f c a::ms,w=>(VW ms w).KT fun k e=>List.mem_cons_of_mem _ e
structure MkN (B:Nat)(ms:List Dfr)(w:World):Prop where
 nd:ms.Nodup
 m:MT ms w
 lo:∀D,.mk D∈ms→B≤D
 hi:∀D,.mk D∈ms→D<w.heap.size
theorem MkN.nil (B:Nat)(w:World):MkN B [] w:=⟨List.nodup_nil,.nil w,fun _ h=>(by cases h),fun _ h=>(by cases h)⟩
theorem MkN.kp {B:Nat}{ms:List Dfr}{w w':World}{S:Nat→Prop}(h:MkN B ms w)(hk:Kp S w w')(hS:∀D,.mk D∈ms→¬S D):MkN B ms w':=⟨h.nd,h.m.kp hk hS,h.lo,fun D hD=>by have:=h.hi D hD;have:=hk.size;omega⟩
theorem MkN.cons {B:Nat}{ms:List Dfr}{w w':World}(h:MkN B ms w)(hB:B≤w.heap.size)(h':MkN B ms w')(hD:w'.heap[w.heap.size]? =some (.deferred (some [])))(hz:w.heap.size<w'.heap.size):MkN B (.mk w.heap.size::ms) w':=
 ⟨List.nodup_cons.2 ⟨fun e=>by have:=h.hi _ e;omega,h.nd⟩,h'.m.cons hD,fun D e=>by
  rcases List.mem_cons.1 e with e| e
  ·cases e;exact hB
  ·exact h.lo D e,fun D e=>by
  rcases List.mem_cons.1 e with e| e
  ·cases e;exact hz
  ·exact h'.hi D e⟩
abbrev nv:Nat:=4294967295
def N8 (t:Nat)(p:List Nat×Bool)(u:Nat):List Nat×Bool:=if p.1[u]? =some nv then(p.1.set u (t+1),true) else p
def PD (t:Nat)(g:List (List Nat))(p:List Nat×Bool)(v:Nat):List Nat×Bool:=if p.1[v]? =some t then(KW g v).foldl (N8 t) p else p
def Wi (t:Nat)(g:List (List Nat))(xs:List Nat):List Nat×Bool:=(List.range g.length).foldl (PD t g) (xs,false)
theorem z0W (t:Nat)(p:List Nat×Bool)(u:Nat):(N8 t p u).1.length=p.1.length:=by
 unfold N8
 split<;>simp
theorem QO (t:Nat):∀(l:List Nat) (p:List Nat×Bool),(l.foldl (N8 t) p).1.length=p.1.length
 |[],p=>rfl
 |u::l,p=>by rw[List.foldl_cons,QO t l,z0W]
theorem z3d (t:Nat)(g:List (List Nat))(p:List Nat×Bool)(v:Nat):(PD t g p v).1.length=p.1.length:=by
 unfold PD
 split
 ·exact QO t _ p
 ·rfl
def dN:Option Nat→Nat
 |none=>nv
 |some k=>k
def O6 (d:Ds):List Nat:=d.map dN
def Up (d:Ds):Prop:=∀(u k:Nat),d[u]? =some (some k)→k<nv
theorem Tz (d:Ds)(u:Nat):(O6 d)[u]? =(d[u]?).map dN:=List.getElem?_map ..
theorem z0o {d:Ds}(h:Up d)(u:Nat):(O6 d)[u]? =some nv↔d[u]? =some none:=by
 rw[Tz]
 cases e:d[u]? with
 |none=>simp
 | some o =>
   cases o with
   |none=>simp[dN]
   | some k =>
     have:=h u k e;simp[dN];omega
theorem z08 {t:Nat}(ht:t+1<nv){p:Ds×Bool}(h:Up p.1)(u:Nat):N8 t (O6 p.1,p.2) u=(O6 (O4 t p u).1,(O4 t p u).2)∧Up (O4 t p u).1:=by
 unfold N8 O4
 have hn:=z0o h u
 by_cases e:p.1[u]? =some none
 ·rw [if_pos (hn.2 e), if_pos e]; refine ⟨?_, fun x k hx => ?_⟩
  ·dsimp only;unfold O6;rw[List.map_set]
   rfl
  ·dsimp only at hx;by_cases Fv:u=x
   ·subst Fv
    have hu:u<p.1.length:=by
     rcases Nat.lt_or_ge u p.1.length with h| h
     ·exact h
     ·rw[List.getElem?_eq_none h] at e;cases e
    rw[List.getElem?_set_self hu] at hx;cases hx;exact ht
   ·rw[List.getElem?_set_ne Fv] at hx;exact h x k hx
 ·rw[if_neg (fun e2=>e (hn.1 e2)),if_neg e];exact⟨rfl,h⟩
theorem TS {t:Nat}(ht:t+1<nv):∀(l:List Nat) {p:Ds×Bool},Up p.1→l.foldl (N8 t) (O6 p.1,p.2)=(O6 (l.foldl (O4 t) p).1,(l.foldl (O4 t) p).2)∧Up (l.foldl (O4 t) p).1
 |[],p,h=>⟨rfl,h⟩
 | u :: l, p, h => by
   obtain⟨h1,h2⟩:=z08 ht h u;rw[List.foldl_cons,List.foldl_cons,h1];exact TS ht l h2
theorem z55 {d:Ds}{t:Nat}(ht:t+1<nv)(v:Nat):(O6 d)[v]? =some t↔dF d v=some t:=by
 rw[Tz]
 unfold dF
 cases e:d[v]? with
 |none=>simp
 | some o =>
   cases o with
   |none=>simp[dN];omega
   |some k=>simp[dN]
theorem Zn {t:Nat}(ht:t+1<nv)(g:List (List Nat)):∀(l:List Nat) {p:Ds×Bool},Up p.1→l.foldl (PD t g) (O6 p.1,p.2)=(O6 (l.foldl (PU t g) p).1,(l.foldl (PU t g) p).2)∧Up (l.foldl (PU t g) p).1
 |[],p,h=>⟨rfl,h⟩
 | v :: l, p, h => by
   have h3:=z55 (d:=p.1) ht v;have h4:=TS ht (KW g v) h;rw[List.foldl_cons,List.foldl_cons]
   have e:PD t g (O6 p.1,p.2) v=(O6 (PU t g p v).1,(PU t g p v).2)∧Up (PU t g p v).1:=by
    unfold PD PU;by_cases e:dF p.1 v=some t
    ·rw[if_pos (h3.2 e),if_pos e];exact h4
    ·rw[if_neg (fun e2=>e (h3.1 e2)),if_neg e];exact⟨rfl,h⟩
   rw[e.1];exact Zn ht g l e.2
section
variable {G:GwP}{w w':World}{Q Q':MP}{txt txt':Int→Bytes}{K K':Nat}{X Y S':Nat→Prop}{rr vb sv t:Nat}{dn:Bool}{xs ys:List Nat}
structure LvI (G:GwP)(Q:MP)(txt:Int→Bytes)(K:Nat)(X Y:Nat→Prop)(rr vb sv t:Nat)(dn:Bool)(n0:Nat)(br b2 b3:Nat)(w:World)(p:List Nat×Bool)(w':World):Prop where
 ex:∃txt',PR G Q txt' K Y rr vb sv t dn p.1 w'∧∀y:Int,y<(sv:Int)∨(sv:Int)+(RD n0 128:Int)≤y→txt' y=txt y
 br:KP w' br [ptr rr 0] 34
 b2:KP w' b2 [.bool p.2] 4
 b3:KP w' b3 [I 0] 35
 k:Kp (fun b=>¬X b) w w'
theorem PR.list (h:PR G Q txt K X rr vb sv t dn xs w)(hg:NU G Q txt K Y w')(hk:Kp (fun j=>¬X j) w w')(bD:∀j,X j→Y j):PR G Q txt K Y rr vb sv t dn xs w':=
 ⟨hg,hk.KD h.run (fun e=>e h.xr.1),h.vec.kp hk (fun e=>e h.xr.2),⟨bD _ h.xr.1,bD _ h.xr.2⟩,h.ne,h.Qu,h.len,h.n,h.t⟩
theorem VcW.kp {vb width st:Nat}{ys:List Nat}(h:VcW Q txt K X vb width st ys w w'):Kp (fun b=>¬X b) w w':=by
 obtain⟨txt',-,-,-,hk⟩:=h
 exact hk
theorem LvI.own {n0 br b2 b3:Nat}{p:List Nat×Bool}{w0:World}(h:LvI G Q txt K X Y rr vb sv t dn n0 br b2 b3 w0 p w)(hk:Kp S' w w')(hS:∀j,S' j→Y j∧j≠G.k∧j≠G.x∧j≠1∧j≠2∧j≠rr∧j≠vb∧j≠br∧j≠b2∧j≠b3∧w0.heap.size≤j):LvI G Q txt K X Y rr vb sv t dn n0 br b2 b3 w0 p w':=by
 obtain⟨⟨txt',h1,h2⟩,h3,h4,h5,h6⟩:=h
 refine⟨⟨txt',h1.own hk (fun j e=>?_),h2⟩,hk.KD h3 (fun e=>?_),hk.KD h4 (fun e=>?_),hk.KD h5 (fun e=>?_),h6.Kz hk fun j e=> .inl ?_⟩
 ·obtain⟨a1,a2,a3,a4,a5,a6,a7,-⟩:=hS j e;exact⟨a1,a2,a3,a4,a5,a6,a7⟩
 ·exact(hS _ e).2.2.2.2.2.2.2.1 rfl
 ·exact(hS _ e).2.2.2.2.2.2.2.2.1 rfl
 ·exact(hS _ e).2.2.2.2.2.2.2.2.2.1 rfl
 ·exact(hS _ e).2.2.2.2.2.2.2.2.2.2
theorem LvI.more {n0 br b2 b3:Nat}{p:List Nat×Bool}{w0:World}(h:LvI G Q txt K X Y rr vb sv t dn n0 br b2 b3 w0 p w)(hK:K≤K')(xD:K'<1000000000000):LvI G Q txt K' X Y rr vb sv t dn n0 br b2 b3 w0 p w:=by
 obtain⟨⟨txt',h1,h2⟩,h3,h4,h5,h6⟩:=h
 exact⟨⟨txt',h1.more hK xD,h2⟩,h3,by assumption,by assumption,by assumption⟩
theorem YM (h : PR G Q txt K X rr vb sv t dn xs w)(hK : K ≤ 800000000000)(du : 1 ≤ G.g.length) : Le Tryz.prog 33 [ptr rr 0] w fun v w' => v = .tuple #[.bool (Wi t G.g xs).2, I 0] ∧ ∃ txt', PR G Q txt' (K + 3200) X rr vb sv t dn (Wi t G.g xs).1 w' ∧ (∀ y : Int, y < (sv : Int) ∨ (sv : Int) + (RD xs.length 128 : Int) ≤ y → txt' y = txt y) ∧ Kp (fun b => ¬ X b) w w' := by
 have xE:=h.n
 have tq:=h.t
 have xF:=h.g.ok.gr
 have aQ:=h.g.lt1
 refine KA (e:=[(0,_)]) Tryz.func33 rfl Tryz.ntmps33 rfl rfl (qN rfl (KL rfl rfl (Mz rfl (cs:=[ptr rr 0]) rfl) ?_))
 rintro _ w1 ⟨br,rfl,Bb,ad,ai⟩
 refine KL rfl rfl (MN (cs:=[_]) PS rfl) ?_
 rintro _ w2 ⟨b2,rfl,bM,af,ak⟩
 refine KL rfl rfl (MN (cs:=[_]) z3x rfl) ?_
 rintro _ w3 ⟨b3,rfl,eL,ah,ar⟩
 have c6:=(ad.trans af).trans ah
 have z1:=ad.size
 have z2:=af.size
 have z3:=ah.size
 have sI:=(af.trans ah).KD ai
 have co:=ah.KD ak
 have l1:=ai.lt
 have l2:=ak.lt
 have l3:=ar.lt
 obtain⟨X0,xG⟩:∃X0:Nat→Prop,(fun j=>X j∨j=br∨j=b2∨j=b3)=X0:=⟨_,rfl⟩
 have gy:∀j,X j→X0 j:=fun j hj=>by rw[←xG];exact .inl hj
 have IS:∀j,X0 j→X j∨w.heap.size≤j:=fun j hj=>by rw[←xG] at hj;exact hj.imp id fun e=>by omega
 have aZ:X0 br∧X0 b2∧X0 b3:=by rw[←xG];exact⟨.inr (.inl rfl),.inr (.inr (.inl rfl)),.inr (.inr (.inr rfl))⟩
 have h3:PR G Q txt K X0 rr vb sv t dn xs w3:=h.grow c6 (fun j hj=>by rw[←xG] at hj;exact hj.imp id fun e=>by omega) gy
 have Kf:=aQ rr (.inl h.xr.1)
 have Ea:=aQ vb (.inl h.xr.2)
 have xH:=aQ _ (.inl h.g.xk.1)
 have Kg:=aQ _ (.inl h.g.xk.2.1)
 have Kh:=aQ _ (.inl h.g.xk.2.2.1)
 have Ki:=aQ _ (.inl h.g.xk.2.2.2)
 have Ap:=aQ _ (.inr rfl)
 have xI:=h3.cells
 refine py (run_seq (qN rfl (qV ((by first|exact KJ ZL rfl rfl sI rfl|exact KJ ZL rfl rfl xI rfl)) ?_)))
 refine qV (KZ rfl) (qV (KK z5b rfl) (qV ((by first|exact KJ Z0 rfl rfl sI rfl|exact KJ Z0 rfl rfl xI rfl)) ?_))
 refine L2 [.tmp 15] z8b rfl (X4 h3.g) ?_
 rintro _ w3 ⟨rfl,rfl⟩
 refine An rfl (py (KB (z3B (α:=Nat×(List Nat×Bool)×List Dfr) ((0,(xs,false),[])) (fun y=>y.2.2) rfl (fun y=>[(1,ptr br 0),(2,ptr b2 0),(3,ptr b3 0),(16,I (G.g.length:Int)),(17,I (y.1:Int))]) (fun y w'=>y.1≤G.g.length∧y.2.1=(List.range y.1).foldl (PD t G.g) (xs,false)∧y.2.1.1.length=xs.length∧LvI G Q txt (K+64*y.1) X (fun j=>X0 j∨ .mk j∈y.2.2) rr vb sv t dn xs.length br b2 b3 w y.2.1 w'∧MkN w3.heap.size y.2.2 w'∧w3.heap.size≤w'.heap.size) (fun y=>G.g.length-y.1) (by repeat (first|exact Sub.nil|refine Sub.cons rfl ?_)) ?hI ?hround)))
 case hI=>exact⟨Nat.zero_le _,rfl,rfl,⟨⟨txt,h3.less (fun j hj=>hj.elim id (fun e=>by cases e)) ⟨.inl h3.g.xk.1,.inl h3.g.xk.2.1,.inl h3.g.xk.2.2.1,.inl h3.g.xk.2.2.2⟩ ⟨.inl h3.xr.1,.inl h3.xr.2⟩,fun y _=>rfl⟩,sI,co,ar,c6.kp⟩,MkN.nil _ _,Nat.le_refl _⟩
 case hround =>
  rintro⟨v,p,ms⟩ w4 ⟨hv,hp,dM,mL,j8,yN⟩ ih;dsimp only at hv hp dM mL j8 yN ih⊢;obtain⟨⟨txt4,h4,Di⟩,sJ,dW,cW,av⟩:=id mL;have xJ:=h4.cells
  have Dj:∀D,.mk D∈ms→¬X0 D:=fun D hD e=>by
   have:=j8.lo D hD;rw[←xG] at e;rcases e with e| e
   ·have:=aQ D (.inl e);omega
   ·omega
  try dsimp only
  refine qN rfl (qV (LW rfl rfl) (py (run_seq (KQ rfl (fun hq=>?_) (fun hq=>?_)))))
  ·have ey : v < G.g.length := by omega
   obtain⟨x,hx⟩:∃x,p.1[v]? =some x:=⟨_,List.getElem?_eq_getElem (by rw[dM,h.len];exact ey)⟩;have IT:=(h4.vec.t v x hx).2;refine It (run_seq (KB (qN rfl (An rfl (KE rfl (qM rfl (qV ((by first|exact KJ ZL rfl rfl sJ rfl|exact KJ ZL rfl rfl xJ rfl)) ?_)))))));refine qV (KZ rfl) (qV (KK Xp rfl) (qV ((by first|exact KJ U80 rfl rfl sJ rfl|exact KJ U80 rfl rfl xJ rfl)) ?_));refine An rfl (L2 [.tmp 24,.tmp 25] z8o rfl (Td h4.g.sp h4.g.lt1 h4.g.z2U h4.vec (.inl h4.xr.2) hx) ?_);rintro _ w5 ⟨rfl,gB,aj⟩;have h5:=h4.read aj gB;have lA:=aj.KD sJ (fun e=>e (.inl (.inl aZ.1)));have cx:=aj.KD dW (fun e=>e (.inl (.inl aZ.2.1)));have ci:=aj.KD cW (fun e=>e (.inl (.inl aZ.2.2)));have q9:=j8.kp aj (fun D hD e=>e (.inl (.inr hD)));have po:=h5.cells;have z5:=aj.size;have cq:Kp (fun b=>¬X b) w w5:=av.trans (aj.KT fun b e e2=>e (.inl (.inl (gy b e2))));have jq:LvI G Q txt (K+64*v) X (fun j=>X0 j∨ .mk j∈ms) rr vb sv t dn xs.length br b2 b3 w p w5:=⟨⟨txt4,h5,Di⟩,lA,cx,ci,cq⟩;have ir:(List.range (v+1)).foldl (PD t G.g) (xs,false)=PD t G.g p v:=by rw[List.range_succ,List.foldl_append,←hp];rfl
   refine An rfl (qV (Ll rfl rfl) (qV (Ll rfl rfl) (KE rfl (KE rfl (py (run_seq (qN rfl (An rfl (qV (LQ rfl rfl) (py (Kx rfl (It (run_seq ?_)))))))))))));refine qN rfl (An rfl (qV ((by first|exact KJ ZL rfl rfl lA rfl|exact KJ ZL rfl rfl po rfl)) ?_));refine qV (KZ rfl) (qV (KK QT rfl) (qV (KK Xx rfl) (qV ((by first|exact KJ U3 rfl rfl lA rfl|exact KJ U3 rfl rfl po rfl)) ?_)));refine qV ((by first|exact Lw rfl U3 M3 (by omega)|exact MI rfl U3 M3)) ?_;by_cases sH:x=t
   ·have gl : (KW G.g v).length ≤ G.g.length := by
     unfold KW;rw[List.getElem?_eq_getElem ey];exact xF.len (List.getElem_mem ey)
    have sK:PD t G.g p v=(KW G.g v).foldl (N8 t) p:=by
     unfold PD;rw[if_pos (by rw[hx,sH])]
    refine qV (LQ rfl rfl) (Lq (py (Kx rfl (It (qN rfl (qV ((by first|exact KJ ZL rfl rfl lA rfl|exact KJ ZL rfl rfl po rfl)) ?_))))));refine qV (KZ rfl) (qV (KK z5b rfl) (qV ((by first|exact KJ Z0 rfl rfl lA rfl|exact KJ Z0 rfl rfl po rfl)) ?_));refine An rfl (L2 [.tmp 43,.tmp 44] zcg rfl (z0w G.k v _) ?_);rintro _ w6 ⟨bk,bi,rfl,tA,De,fU,tN,aK⟩;have z6:=aK.size;refine py (KB (Ox (ps:=[46,47]) (p:=[]) (q:=[_,_]) rfl zd2 ?_));rintro l wl eU eM cn hD Rc cY eD;have zl:=eU.size;have rX:=aK.trans eU;obtain⟨X1,kj⟩:∃X1:Nat→Prop,(fun j=>(X0 j∨ .mk j∈ms)∨j=w6.heap.size∨j=l)=X1:=⟨_,rfl⟩;have km:∀j,(X0 j∨ .mk j∈ms)→X1 j:=fun j hj=>by rw[←kj];exact .inl hj
    have j6:X1 l∧X1 w6.heap.size:=by rw[←kj];exact⟨.inr (.inr rfl),.inr (.inl rfl)⟩
    have Fw:PR G Q txt4 (K+64*v) X1 rr vb sv t dn p.1 wl:=h5.grow rX (fun j hj=>by rw[←kj] at hj;exact hj.imp id fun e=>by omega) km;have pp:∀j,j=l∨j=w6.heap.size→j≠G.k∧j≠G.x∧j≠1∧j≠2∧j≠rr∧j≠vb∧j≠br∧j≠b2∧j≠b3∧w.heap.size≤j:=fun j hj=>by omega
    have pq:∀D,.mk D∈ms→D≠l:=fun D hD=>by have:=q9.hi D hD;omega
    have eR:b2≠l∧b2≠w6.heap.size:=by omega
    refine Le.mono (z0p (by omega) ey Fw.g (eU.KD tA) (eU.KD De) (fun j=>j=b2∨j=l) (fun j hj=>by rcases hj with e|e;exact km _ (.inl (e▸aZ.2.1));exact e▸j6.1)
     (fun Y i w'=>Rc .ready none w'∧LvI G Q txt (K+64*v+i) X Y rr vb sv t dn xs.length br b2 b3 w (((KW G.g v).take i).foldl (N8 t) p) w'∧MkN w3.heap.size ms w'∧w'.heap[w6.heap.size]? =some (.deferred (some [])))
     (fun _=>False) ?_ ?_) ?_
    ·intro Y w7 bD nj ql aA;have i9:Kp (fun j=>¬X1 j) w5 w7:=rX.kp.trans aA;refine⟨aA.rc cY eD (fun e=>e j6.1),⟨⟨txt4,?_,Di⟩,i9.KD lA (fun e=>e (km _ (.inl aZ.1))),i9.KD cx (fun e=>e (km _ (.inl aZ.2.1))),i9.KD ci (fun e=>e (km _ (.inl aZ.2.2))),cq.trans (i9.KT fun b e e2=>e (km _ (.inl (gy b e2))))⟩,q9.kp i9 (fun D hD e=>e (km _ (.inr hD))),aA.heap hD (fun e=>e j6.2)⟩;exact Fw.list ql aA bD
    ·rintro Y i s w7 bD nj hs ⟨Fx,j0,CB,IU⟩;have uq:s<G.g.length:=Pc xF v s (List.mem_of_getElem? hs)
     have cL:i<(KW G.g v).length:=by
      rcases Nat.lt_or_ge i (KW G.g v).length with h| h
      ·exact h
      ·rw[List.getElem?_eq_none h] at hs;cases hs
     have pu:=QO t ((KW G.g v).take i) p
     have ft:((KW G.g v).take (i+1)).foldl (N8 t) p=N8 t (((KW G.g v).take i).foldl (N8 t) p) s:=by
      rw[Ls hs,List.foldl_append];rfl
     obtain⟨q,hq⟩:∃q,((KW G.g v).take i).foldl (N8 t) p=q:=⟨_,rfl⟩;rw[hq] at j0 pu ft;rw[ft];obtain⟨x7,bL⟩:∃x7,q.1[s]? =some x7:=⟨_,List.getElem?_eq_getElem (by rw[pu,dM,h.len];exact uq)⟩;have fR:Y br∧Y b2∧Y b3:=⟨bD _ (km _ (.inl aZ.1)),bD _ (km _ (.inl aZ.2.1)),bD _ (km _ (.inl aZ.2.2))⟩;have sL:Y l∧Y w6.heap.size:=⟨bD _ j6.1,bD _ j6.2⟩;have Fy:∀D,.mk D∈ms→Y D:=fun D hD=>bD _ (km _ (.inr hD));have xK:∀j,X j→Y j:=fun j hj=>bD _ (km _ (.inl (gy j hj)));refine PB cY Fx rfl rfl (qN rfl (KE rfl (py (Lc.qb (e:=[(1,_),(2,_),(3,_),(7,_),(47,_)]) ?_))));refine KF rfl (KE rfl (py (run_beginRound rfl cY Fx ?_)));rintro w8 Cn bj;obtain⟨⟨txt8,h8,xL⟩,sM,uY,m7,m8⟩:=j0.own bj (fun j e=>⟨e▸sL.1,pp j (.inl e)⟩);have IV:=CB.kp bj (fun D hD e=>pq D hD e);have IW:=bj.heap IU (by omega);have xM:=h8.cells;have Fz:=(h8.vec.t s x7 bL).2;refine KB (run_seq (qN rfl (An rfl (qV (LQ rfl rfl) (py (Kx rfl (It (qN rfl (qV ((by first|exact KJ ZL rfl rfl sM rfl|exact KJ ZL rfl rfl xM rfl)) ?_)))))))));refine qV (KZ rfl) (qV (KK Xp rfl) (qV ((by first|exact KJ U80 rfl rfl sM rfl|exact KJ U80 rfl rfl xM rfl)) ?_));refine An rfl (qV (Ln rfl Mg U3 (by omega)) (L2 [.tmp 55,.tmp 57] z8o rfl (Td h8.g.sp h8.g.lt1 h8.g.z2U h8.vec (.inl h8.xr.2) bL) ?_));rintro _ w9 ⟨rfl,qj,aJ⟩;have h9:=h8.read aJ qj;have lB:=aJ.KD sM (fun e=>e (.inl fR.1));have jH:=aJ.KD uY (fun e=>e (.inl fR.2.1));have lq:=aJ.KD m7 (fun e=>e (.inl fR.2.2));have lS:=IV.kp aJ (fun D hD e=>e (.inl (Fy D hD)));have FA:=aJ.heap IW (fun e=>e (.inl sL.2));have FB:=aJ.rc cY Cn (fun e=>e (.inl sL.1));have lC:Kp (fun b=>¬X b) w w9:=m8.trans (aJ.KT fun b e e2=>e (.inl (xK b e2)));have xN:Kp (fun j=>¬Y j∨j=b2∨j=l) w7 w9:=(bj.KT fun j e=> .inr (.inr e)).trans (aJ.KT fun j e=> .inl fun e2=>e (.inl e2));have pw:=h9.cells;refine An rfl (qV (Ll rfl rfl) (qV (Ll rfl rfl) (KE rfl (KE rfl (py (run_seq (qN rfl (An rfl (qV (LQ rfl rfl) (py (Kx rfl (It (run_seq ?_)))))))))))));refine qN rfl (An rfl ?_);by_cases hn:x7=4294967295
     ·have sN:N8 t q s=(q.1.set s (t+1),true):=by
       unfold N8;rw[if_pos (by rw[bL,hn])]
      rw[sN];have cO:=Ext.L4 w9;refine qV (LQ rfl rfl) (Lq (py (Kx rfl (It (run_seq (run_seq (KN (fun w'=>Kp (fun j=>¬(Y j∨j=G.rb)) w9 w') (by kernel_rfl) rfl (qT 0 rfl (fun _ hS=>(by first|exact KJ ZL rfl rfl (hS.KD lB (fun e=>e (.inl fR.1))) rfl|exact KJ ZL rfl rfl (hS.KD pw (fun e=>e (.inl h9.xr.1))) rfl)) (cO.kp) ?_))))))));refine KH 1 rfl (KZ rfl) (cO.kp) (KH 2 rfl (KK Xp rfl) (cO.kp) (qT 3 rfl (fun _ hS=>(by first|exact KJ U80 rfl rfl (hS.KD lB (fun e=>e (.inl fR.1))) rfl|exact KJ U80 rfl rfl (hS.KD pw (fun e=>e (.inl h9.xr.1))) rfl)) (cO.kp) ?_));refine KH 4 rfl (KM rfl) (cO.kp) (KH 5 rfl (Ln rfl Mg U3 (by omega)) (cO.kp) (qT 6 rfl (fun _ hS=>(by first|exact KJ ZL rfl rfl (hS.KD lB (fun e=>e (.inl fR.1))) rfl|exact KJ ZL rfl rfl (hS.KD pw (fun e=>e (.inl h9.xr.1))) rfl)) (cO.kp) ?_));refine KH 7 rfl (KZ rfl) (cO.kp) (KH 8 rfl (KK QT rfl) (cO.kp) (KH 9 rfl (KK Xx rfl) (cO.kp) (qT 10 rfl (fun _ hS=>(by first|exact KJ U3 rfl rfl (hS.KD lB (fun e=>e (.inl fR.1))) rfl|exact KJ U3 rfl rfl (hS.KD pw (fun e=>e (.inl h9.xr.1))) rfl)) (cO.kp) ?_)));refine KH 11 rfl ((by first|exact Lw rfl U3 M3 (by omega)|exact MI rfl U3 M3)) (cO.kp) ?_;refine KH 12 rfl (OD rfl rfl) (cO.kp) ?_;rw[Nat.mod_eq_of_lt (show t+1<18446744073709551616 by omega)];refine OJ 13 [.tmp 69,.tmp 71,.tmp 78] rfl zb0 rfl (WL ((h9.ext cO).g.sp) (h9.ext cO).g.lt1 (h9.ext cO).g.z2U (h9.ext cO).vec (.inl h9.xr.2) (i:=s) (x:=t+1) (by rw[pu,dM,h.len];exact uq) (by omega)) ?_;rintro _ w10 ⟨rfl,hW⟩;refine⟨cO.kp.trans hW.kp,?_⟩;obtain⟨txt10,fg,xO,au⟩:=(h9.ext cO).wrote (K':=K+64*v+i+1) (by omega) (by simp) hW;have eQ:=cO.kp.trans au;have xP:=eQ.KD lB (fun e=>e (.inl fR.1));have mQ:=eQ.KD jH (fun e=>e (.inl fR.2.1));have xQ:=eQ.KD lq (fun e=>e (.inl fR.2.2));have Dk:=lS.kp eQ (fun D hD e=>e (.inl (Fy D hD)));have Dl:=eQ.heap FA (fun e=>e (.inl sL.2));have Dm:=eQ.rc cY FB (fun e=>e (.inl sL.1));refine KH 14 rfl (ML rfl) (cO.kp.trans hW.kp) (qE (Lc.qb (e:=[(2,_),(3,_),(11,_)]) ?_));refine qN rfl (An rfl (qV (LQ rfl rfl) (py (Kx rfl (It (KF rfl (KR rfl (Mn PS rfl rfl rfl mQ (by simp)) ?_)))))));rintro w11 ⟨mM,aM⟩;have Dn:∀D,.mk D∈ms→D≠b2:=fun D hD e=>Dj D hD (e▸aZ.2.1);have m4:=fg.own aM (fun j e=>by rw[e];exact⟨fR.2.1,by omega,by omega,by omega,by omega,by omega,by omega⟩);have Do:=aM.rc cY Dm (by omega);refine py (KC (OT cY Do ?_));intro w12 sO aU;refine .inl ⟨rfl,⟨sO,LvI.own ⟨⟨txt10,m4,fun y hy=>?_⟩,aM.KD xP (by omega),mM,aM.KD xQ (by omega),?_⟩ aU (fun j e=>⟨e▸sL.1,pp j (.inl e)⟩),(Dk.kp aM (fun D hD e=>Dn D hD e)).kp aU (fun D hD e=>pq D hD e),aU.heap (aM.heap Dl (by omega)) (by omega)⟩,?_⟩
      ·rw[xO y (by rw[pu,dM];exact hy)];exact xL y hy
      ·exact(lC.trans (eQ.KT fun b e e2=>e (.inl (xK b e2)))).Kz aM fun b e=> .inl (by omega)
      ·exact((xN.trans (eQ.KT fun j e=> .inl fun e2=>e (.inl e2))).trans (aM.KT fun j e=> .inr (.inl e))).trans (aU.KT fun j e=> .inr (.inr e))
     ·have sN:N8 t q s=q:=by
       unfold N8;rw[if_neg (fun e=>hn (by rw[bL] at e;exact MA e))]
      rw[sN];refine qV (LQ rfl rfl) (MC (py (KS rfl (KO rfl (OT cY FB ?_)))));intro w12 sO aU;exact .inl ⟨rfl,⟨sO,(LvI.own ⟨⟨txt8,h9,xL⟩,lB,jH,lq,lC⟩ aU (fun j e=>⟨e▸sL.1,pp j (.inl e)⟩)).more (by omega) (by omega),lS.kp aU (fun D hD e=>pq D hD e),aU.heap FA (by omega)⟩,xN.trans (aU.KT fun j e=> .inr (.inr e))⟩
    ·rintro v' wz ⟨rfl,⟨Y,bD,nj,IX,Dp,IY,IZ⟩|hF⟩
     ·refine⟨_,_,IX,by simp,fun wy ij=>?_⟩;have tP:=Dp.own ij (fun j e=>⟨e▸bD _ j6.1,pp j (.inl e)⟩);have J0:=IY.kp ij (fun D hD e=>pq D hD e);have wQ:=ij.heap IZ (by omega);have zy:w6.heap.size<wy.heap.size:=by have:=Dp.k.size;have:=ij.size;have qk:=Dp.ex.choose_spec.1.g.lt _ (bD _ j6.2);omega
      rw[List.take_length,←sK,←ir] at tP;refine KC (KC (KF rfl (Lz rfl rfl (An rfl (py ((ih (v+1,(List.range (v+1)).foldl (PD t G.g) (xs,false),.mk w6.heap.size::ms) wy ⟨by omega,rfl,?_,⟨?_,tP.br,tP.b2,tP.b3,tP.k⟩,(q9.kp (aK.kp (S:=fun _=>False)) (fun _ _=>id)).cons (by omega) J0 wQ zy,by omega⟩ (by omega)).qb))))))
      ·rw[ir,z3d];exact dM
      ·obtain⟨txty,hy,zd⟩:=tP.ex
       have zg:∀j,(X0 j∨ .mk j∈(.mk w6.heap.size::ms))→Y j:=fun j hj=>by
        rcases hj with e| e
        ·exact bD _ (km _ (.inl e))
        ·rcases List.mem_cons.1 e with e| e
         ·cases e;exact bD _ j6.2
         ·exact bD _ (km _ (.inr e))
       exact⟨txty,(hy.less zg ⟨.inl h3.g.xk.1,.inl h3.g.xk.2.1,.inl h3.g.xk.2.2.1,.inl h3.g.xk.2.2.2⟩ ⟨.inl h3.xr.1,.inl h3.xr.2⟩).more (by omega) (by omega),zd⟩
     ·exact hF.elim
   ·have sK:PD t G.g p v=p:=by
     unfold PD;rw[if_neg (fun e=>sH (by rw[hx] at e;exact MA e))]
    refine qV (LQ rfl rfl) (MC (py (KS rfl (KO rfl (KF rfl (Lz rfl rfl (An rfl (py ((ih (v+1,p,ms) w5 ⟨by omega,by rw[ir,sK],dM,jq.more (by omega) (by omega),q9,by omega⟩ (by omega)).qb)))))))))
  ·have ey:v=G.g.length:=by omega
   subst ey;refine KO rfl (qN rfl (qV ((by first|exact KJ U4 rfl rfl dW rfl|exact KJ U4 rfl rfl cW rfl)) ?_));refine KR rfl (Mn PS rfl rfl rfl dW (by simp)) ?_;rintro w5 ⟨cx,aj⟩;have ci:=aj.KD cW (by omega);refine KR rfl (Mn z3x rfl rfl rfl ci (by simp)) ?_;rintro w6 ⟨jk,aS⟩;have fj:=aS.KD cx (by omega);have zh:∀D,.mk D∈ms→D≠b2∧D≠b3:=fun D hD=>⟨fun e=>Dj D hD (e▸aZ.2.1),fun e=>Dj D hD (e▸aZ.2.2)⟩;have tM:=(j8.kp aj (fun D hD e=>(zh D hD).1 e)).kp aS (fun D hD e=>(zh D hD).2 e);have fV:=VW ms w6;have Dq:=fV.KD fj (fun e=>(zh _ e).1 rfl);have ip:=fV.KD jk (fun e=>(zh _ e).2 rfl);have h6:=(h4.own aj (fun j e=>by rw[e];exact⟨.inl aZ.2.1,by omega,by omega,by omega,by omega,by omega,by omega⟩)).own aS (fun j e=>by rw[e];exact⟨.inl aZ.2.2,by omega,by omega,by omega,by omega,by omega,by omega⟩);have h7:=h6.own fV (fun j e=>⟨.inr e,by have:=j8.lo j e;omega,by have:=j8.lo j e;omega,by have:=j8.lo j e;omega,by have:=j8.lo j e;omega,by have:=j8.lo j e;omega,by have:=j8.lo j e;omega⟩);refine py (Rq tM.nd tM.m Tryz.func33 (.cell1 U4 rfl rfl ((Dq).cell _) (.cell1 U35 rfl rfl ((ip).cell _) .nil)) ?_);subst hp;refine⟨_,rfl,rfl,txt4,(h7.less (fun j hj=> .inl (gy j hj)) h.g.xk h.xr).more (by omega) (by omega),Di,?_⟩;exact((av.Kz aj fun b e=> .inl (by omega)).Kz aS fun b e=> .inl (by omega)).Kz fV fun b e=> .inl (by have:=j8.lo b e;omega)
end
section
variable {G:GwP}{w w':World}{Q Q':MP}{txt txt':Int→Bytes}{K K':Nat}{X Y S':Nat→Prop}{rr vb sv t t':Nat}{dn dn':Bool}{xs ys:List Nat}
theorem PR.set (h:PR G Q txt K X rr vb sv t dn xs w)(hk:Kp (fun b=>b=rr) w w')(hB:KP w' rr (bfC t' dn' G.k vb false) 88)(ht:t'≤1000000):PR G Q txt K X rr vb sv t' dn' xs w':=
 ⟨h.g.own hk (fun j e=>by rw[e];exact⟨h.xr.1,h.ne.2.1,h.ne.2.2.1,h.ne.2.2.2.1,h.ne.2.2.2.2.1⟩),hB,h.vec.kp hk (fun e=>h.ne.1 e.symm),h.xr,h.ne,h.Qu,h.len,h.n,ht⟩
theorem Qo (h:PR G Q txt K X rr vb sv t false xs w)(hK:K≤800000000000)(du:1≤G.g.length)(ht:t<1000000):Le Tryz.prog 11 [ptr rr 0] w fun v w'=>v= .tuple #[.bool (!(Wi t G.g xs).2),I 0]∧∃txt',PR G Q txt' (K+3200) X rr vb sv (t+1) (!(Wi t G.g xs).2) (Wi t G.g xs).1 w'∧(∀y:Int,y<(sv:Int)∨(sv:Int)+(RD xs.length 128:Int)≤y→txt' y=txt y)∧Kp (fun b=>¬X b∨b=rr) w w':=by
 have hB:=h.cells
 have sK:=YM h hK du
 obtain⟨q,hq⟩:∃q,Wi t G.g xs=q:=⟨_,rfl⟩
 obtain⟨ys,sm⟩:=q
 rw[hq] at sK⊢
 dsimp only at sK⊢
 refine KA (e:=[(0,_)]) Tryz.func11 rfl Tryz.ntmps11 rfl rfl (qN rfl (KE rfl (KE rfl (py (run_seq (qN rfl (An rfl (L2 [.tmp 6] z94 rfl (U6 h) ?_))))))))
 rintro _ w ⟨rfl,rfl⟩
 refine KE rfl (qM rfl (An rfl (qV (LQ rfl rfl) (py (Kx rfl (It (run_seq (qN rfl (An rfl (qV (KZ rfl) (qV (KK QT rfl) (qV (KK WZ rfl) (qV (KJ U4 rfl rfl hB rfl) ?_)))))))))))))
 refine py (Kx rfl (It (qN rfl (An rfl (L2 [.tmp 17] zdm rfl (sK) ?_)))))
 rintro _ w1 ⟨rfl,txt1,h1,vt,aN⟩
 have ai:=h1.cells
 refine An rfl (qV (Ll rfl rfl) (qV (Ll rfl rfl) (KE rfl (KE rfl (py (run_seq (qN rfl (An rfl (qV (LQ rfl rfl) (py (Kx rfl (It (qN rfl ?_)))))))))))))
 refine An rfl (qV (KZ rfl) (qV (KK QT rfl) (qV (KK Xx rfl) (qV (KJ U3 rfl rfl ai rfl) (Lz rfl rfl (qV (KZ rfl) (qV (KK QT rfl) (qV (KK Xx rfl) ?_))))))))
 rw[show(t:Int)+1=((t+1:Nat):Int) by omega]
 refine KR rfl (Mn LC rfl rfl rfl ai (by simp)) ?_
 rintro w2 ⟨ak,am⟩
 have h2:=h1.set am (t':=t+1) (dn':=false) ak (by omega)
 have dx:=h2.cells
 refine py (Lc.qb (e:=[(0,_),(2,_),(3,_),(5,_)]) ?_)
 refine qN rfl (An rfl (An rfl (qV ((by first|exact LP rfl|exact Nq rfl)) ?_)))
 refine qV (KZ rfl) (qV (KK QT rfl) (qV (KK WZ rfl) (KR rfl (Mn PS rfl rfl rfl dx (by simp)) ?_)))
 rintro w3 ⟨ar,ax⟩
 have h3:=h2.set ax (t':=t+1) (dn':= !sm) ar (by omega)
 have fN:=h3.cells
 refine qM rfl (An rfl (qV (KZ rfl) (qV (KK QT rfl) (qV (KK WZ rfl) (qV (KJ U4 rfl rfl fN rfl) (KE rfl (KE rfl (py (KG Tryz.func11 rfl ?_)))))))))
 exact⟨_,rfl,rfl,txt1,h3,vt,((aN.KT fun b e=> .inl e).trans (am.KT fun b e=> .inr e)).trans (ax.KT fun b e=> .inr e)⟩
end
section
variable {G:GwP}{w w':World}{Q Q':MP}{txt txt':Int→Bytes}{K K':Nat}{X Y S':Nat→Prop}{rr vb sv t t':Nat}{dn dn':Bool}{xs ys:List Nat}
theorem WK (h:NU G Q txt K X w)(hK:K≤700000000000)(xE:G.g.length≤40){a:Nat}(hp:Pre Q.L a)(cK:a+1≤Q.L.length)(J1:G.st+G.len≤a){root:Nat}(hr:root<G.g.length):Le Tryz.prog 10 [ptr Q.s 0,ptr G.k 0,I (root:Int)] w fun v w'=>∃rr vb txt',v= .tuple #[ptr rr 0,I 0]∧w.heap.size≤rr∧w.heap.size≤vb∧PR G (Q.Mi (MV Q.L a 1 true)) txt' (K+3) (fun b=>X b∨b=rr∨b=vb) rr vb a 0 false ((List.replicate G.g.length nv).set root 0) w'∧(∀y:Int,y<(a:Int)∨(a:Int)+1≤y→txt' y=txt y)∧Kp (fun b=>¬X b) w w':=by
 have nq:RD G.g.length 128=1:=by
  unfold RD;omega
 have eM:(MV Q.L a 1 true).length=Q.L.length:=MJ cK
 have FC:=z3r h.sp h.lt1 (by omega) hp G.g.length 4 (by omega) (by omega) (by rw[show 512 / 4=128 from rfl,nq];exact cK)
 rw[show 512 / 4=128 from rfl,nq] at FC
 refine KA (e:=[(0,_),(1,_),(2,_)]) Tryz.func10 rfl Tryz.ntmps10 rfl rfl (qN rfl (KE rfl (KE rfl (py (run_seq (KB (qN rfl (An rfl (qV (LO RR rfl rfl) (An rfl (An rfl (qV (LO Z0 rfl rfl) (qV (Lk rfl rfl) ?_)))))))))))))
 refine KE rfl (py (Kx rfl (qN rfl (An rfl (qV (LW rfl rfl) (Lq (An rfl (An rfl (An rfl (L2 [.tmp 22] z8b rfl (X4 h) ?_))))))))))
 rintro _ w ⟨rfl,rfl⟩
 refine qV (OL rfl rfl) (Lq (qV (Lk rfl rfl) (KE rfl (py (Kx rfl (It (KC (qN rfl (An rfl (An rfl (L2 [.tmp 28] z8b rfl (X4 h) ?_)))))))))))
 rintro _ w ⟨rfl,rfl⟩
 refine L2 [.tmp 27,.tmp 29,.const (Value.int .i64 4)] zd5 rfl (FC) ?_
 rintro _ w1 ⟨vb,txt1,rfl,fd,o2,eT,vt,aN⟩
 have z1:=aN.size
 have lv:=eT.lt
 have bD:∀j,X j→(X j∨j=vb):=fun j hj=> .inl hj
 have aP:NU G (Q.Mi (MV Q.L a 1 true)) txt1 (K+1) (fun b=>X b∨b=vb) w1:=h.zab aN (fun b e=>e) bD (fun j hj=>hj.imp id fun e=>by omega) (o2.less fun b e=>by rcases e with(e|e)|e;exact .inl (.inl e);exact .inr e;exact .inl (.inr e)) rfl eM (by omega) (fun y h1 h2=>vt y (.inl (by omega)))
 have iW:(List.replicate G.g.length 0).length=G.g.length:=List.length_replicate
 have sP:(List.replicate G.g.length nv).length=G.g.length:=List.length_replicate
 have iN:=Vz aP.sp aP.lt1 (by omega) eT (.inl (.inr rfl)) (x:=nv) (by decide)
 rw[iW,show 512 / 4=128 from rfl,nq] at iN
 refine An rfl (qV (Ll rfl rfl) (qV (Ll rfl rfl) (KE rfl (KE rfl (py (Lc.qb (e:=[(1,_),(2,_),(6,_),(7,_),(8,_),(9,_)]) ?_))))))
 refine run_seq (qN rfl (An rfl (qV (LQ rfl rfl) (py (Kx rfl (It (run_seq (qN rfl (An rfl (L2 [.tmp 36,.const (Value.int .u64 4294967295)] zba rfl (iN) ?_))))))))))
 rintro _ w2 ⟨rfl,txt2,ek,jS,pT,am⟩
 rw[sP,show 512 / 4=128 from rfl,nq] at pT
 have aa:NU G (Q.Mi (MV Q.L a 1 true)) txt2 (K+1+1) (fun b=>X b∨b=vb) w2:=aP.VX am (fun b e=> .inl e) ek rfl rfl (by omega) (fun y h1 h2=>pT y (.inl (by omega)))
 have dT:=WL aa.sp aa.lt1 aa.z2U jS (.inl (.inr rfl)) (i:=root) (x:=0) (by rw[sP];exact hr) (by decide)
 refine KE rfl (qM rfl (An rfl (qV (Mc rfl rfl) (MC (py (KS rfl (KF rfl (An rfl (An rfl (L2 [.tmp 40,.tmp 41,.const (Value.int .u64 0)] zb0 rfl (dT) ?_))))))))))
 rintro _ w3 ⟨rfl,txt3,ff,A4,xC,ax⟩
 have xR:((List.replicate G.g.length nv).set root 0).length=G.g.length:=by rw[List.length_set,sP]
 rw[xR,show 512 / 4=128 from rfl,nq] at xC
 have ag:NU G (Q.Mi (MV Q.L a 1 true)) txt3 (K+1+1+1) (fun b=>X b∨b=vb) w3:=aa.VX ax (fun b e=> .inl e) ff rfl rfl (by omega) (fun y h1 h2=>xC y (.inl (by omega)))
 refine KE rfl (py (run_seq (qN rfl (An rfl (qV (LQ rfl rfl) (py (Kx rfl (It (qN rfl (An rfl (An rfl (qV (Nc (parts:=[(1,.tmp 48),(2,.tmp 49)]) (cs:=[_,_,_,_,_]) zcc rfl zcE rfl rfl) (KL rfl rfl (Mz rfl (cs:=bfC 0 false G.k vb false) rfl) ?_)))))))))))))
 rintro _ w4 ⟨rr,rfl,kG,aB,aI⟩
 refine KE rfl (KE rfl (py (KG Tryz.func10 rfl ?_)))
 have z2:=am.size
 have z3:=ax.size
 have lr:=aI.lt
 have ae:=ag.grow aB (Y:=fun b=>X b∨b=rr∨b=vb) (fun j hj=>by rcases hj with e|e|e;exact .inl (.inl e);exact .inr (by omega);exact .inl (.inr e)) (fun j hj=>hj.elim .inl fun e=> .inr (.inr e))
 have aQ:=h.lt
 have b1:=aQ _ h.xk.1
 have b2:=aQ _ h.xk.2.1
 have b3:=aQ _ h.xk.2.2.1
 have b4:=aQ _ h.xk.2.2.2
 refine⟨_,rfl,rr,vb,txt3,rfl,by omega,fd,⟨ae,aI,A4.ext aB,⟨.inr (.inl rfl),.inr (.inr rfl)⟩,⟨by omega,by omega,by omega,by omega,by omega,by omega,by omega,by omega,by omega⟩,J1,xR,xE,by omega⟩,fun y hy=>?_,?_⟩
 ·rw[xC y (by omega),pT y (by omega),vt y (by omega)]
 ·exact(((aN.KT fun b e e2=>e (.inl e2)).trans (am.KT fun b e e2=>e (.inl (.inl e2)))).trans (ax.KT fun b e e2=>e (.inl (.inl e2)))).trans aB.kp
end
def GrR (w:World)(gb go:Nat)(g:List (List Nat)):Prop:=∀(v:Nat) (l:List Nat),g[v]? =some l→∃(a:Option Addr) (c:Nat),w.cell? ⟨gb,go+v*1,none⟩=some (.slice a l.length c)∧∀(i x:Nat),l[i]? =some x→∃lb lo,a=some ⟨lb,lo,none⟩∧w.cell? ⟨lb,lo+i*1,none⟩=some (Lg x)
theorem Lv {w w':World}{a:Addr}{u:Value}(hx:Ext w w')(h:w.cell? a=some u):w'.cell? a=some u:=by
 unfold World.cell? at h⊢
 cases hh:w.heap[a.block]? with
 |none=>rw[hh] at h;simp at h
 |some o=>rw[hx.heap hh id];rw[hh] at h;exact h
theorem GrR.ext {w w':World}{gb go:Nat}{g:List (List Nat)}(h:GrR w gb go g)(hx:Ext w w'):GrR w' gb go g:=fun v l hl=>by
 obtain⟨a,c,h1,h2⟩:=h v l hl
 refine⟨a,c,Lv hx h1,fun i x hi=>?_⟩
 obtain⟨lb,lo,e,h3⟩:=h2 i x hi
 exact⟨lb,lo,e,Lv hx h3⟩
theorem GrM.r {w:World}{v:Value}{g:List (List Nat)}(h:GrM w v g)(h1:1≤g.length):∃gb go gc,v= .slice (some ⟨gb,go,none⟩) g.length gc∧GrR w gb go g:=by
 obtain⟨vs,hr,hv⟩:=h.ex
 rcases hr.2 with⟨c,-,h0⟩|⟨gb,go,gc,e,hc⟩
 ·omega
 ·refine⟨gb,go,gc,e,fun v l hl=>?_⟩;obtain⟨a,c,g1,g2,g3⟩:=hv v l hl;refine⟨a,c,by rw[Nat.mul_one];exact hc v _ g1,fun i x hi=>?_⟩;rcases g3.2 with⟨c',-,h0⟩|⟨lb,lo,lc,e2,eK⟩
  ·have:l=[]:=List.eq_nil_of_length_eq_zero h0;rw[this] at hi;cases hi
  ·cases e2;exact⟨lb,lo,rfl,by rw[Nat.mul_one];exact eK i _ (by rw[List.getElem?_map,hi];rfl)⟩
/-! ### Distances -/
structure WM (w:World)(bg B:Nat)(L:List (List Nat)):Prop where
 ex:∃vs:List Value,KP w bg vs 45∧vs.length=L.length∧∀(i:Nat) (l:List Nat),L[i]? =some l→∃(a:Option Addr) (c:Nat),vs[i]? =some (.slice a l.length c)∧l.length≤c∧Rd w (.slice a l.length c) 1 l.length (l.map Lg)∧∀b,(Value.slice a l.length c).ownBlock=some b→B≤b∧b≠bg
section
variable {w w':World}{bg B:Nat}{L:List (List Nat)}
theorem WM.ext (h:WM w bg B L)(hx:Ext w w'):WM w' bg B L:=by
 obtain⟨vs,h1,h2,h3⟩:=h.ex
 refine⟨vs,hx.KD h1,h2,fun i l hl=>?_⟩
 obtain⟨a,c,g1,g2,g3,g4⟩:=h3 i l hl
 exact⟨a,c,g1,g2,g3.ext hx,g4⟩
theorem WM.new {n:Nat}(h:KP w bg (List.replicate n (.slice none 0 0)) 45):WM w bg B (List.replicate n []):=
 ⟨_,h,by simp,fun i l hl=>by
  rw[List.getElem?_replicate] at hl;split at hl
  ·rename_i hi
   cases hl;exact⟨none,0,by rw[List.getElem?_replicate,if_pos hi];rfl,Nat.le_refl _,⟨rfl,.inl ⟨(none,0),rfl,rfl⟩⟩,fun b hb=>by cases hb⟩
  ·cases hl⟩
theorem WM.set (h:WM w bg B L){f:Nat}{l:List Nat}{a:Option Addr}{c:Nat}(hk:Kp (fun b=>b=bg) w w')(hB:∀vs,KP w bg vs 45→KP w' bg (vs.set (0+f*1) (.slice a l.length c)) 45)(hf:f<L.length)(nP:l.length≤c)(hr:Rd w (.slice a l.length c) 1 l.length (l.map Lg))(ho:∀b,(Value.slice a l.length c).ownBlock=some b→B≤b∧b≠bg):WM w' bg B (L.set f l):=by
 obtain⟨vs,h1,h2,h3⟩:=h.ex
 refine⟨_,hB vs h1,by simp[h2],fun i l' hl=>?_⟩
 rw[Nat.zero_add,Nat.mul_one]
 by_cases e:f=i
 ·subst e;rw[List.getElem?_set_self hf] at hl;cases hl;exact⟨a,c,List.getElem?_set_self (by rw[h2];exact hf),nP,hr.kp hk (fun b hb e=>(ho b hb).2 e),ho⟩
 ·rw[List.getElem?_set_ne e] at hl;obtain⟨a',c',g1,g2,g3,g4⟩:=h3 i l' hl;exact⟨a',c',by rw[List.getElem?_set_ne e];exact g1,g2,g3.kp hk (fun b hb e=>(g4 b hb).2 e),g4⟩
theorem WM.gr (h:WM w bg B L):GrM w (.slice (some ⟨bg,0,none⟩) L.length L.length) L:=by
 obtain⟨vs,h1,h2,h3⟩:=h.ex
 refine⟨vs,⟨by rw[h2,Nat.mul_one],.inr ⟨bg,0,L.length,rfl,fun j u hj=>by rw[h1.cell,Nat.zero_add];exact hj⟩⟩,fun i l hl=>?_⟩
 obtain⟨a,c,g1,g2,g3,g4⟩:=h3 i l hl
 exact⟨a,c,g1,g2,g3⟩
theorem WM.lt (h:WM w bg B L):bg<w.heap.size:=by obtain⟨vs,h1,-⟩:=h.ex;exact h1.lt
theorem WM.cell (h:WM w bg B L){f:Nat}{l:List Nat}(hf:L[f]? =some l):∃(a:Option Addr) (c:Nat),w.cell? ⟨bg,0+f*1,none⟩=some (.slice a l.length c)∧l.length≤c∧Rd w (.slice a l.length c) 1 l.length (l.map Lg)∧∀b,(Value.slice a l.length c).ownBlock=some b→B≤b∧b≠bg:=by
 obtain⟨vs,h1,h2,h3⟩:=h.ex
 obtain⟨a,c,g1,g2,g3,g4⟩:=h3 f l hf
 exact⟨a,c,by rw[h1.cell,Nat.zero_add,Nat.mul_one];exact g1,g2,g3,g4⟩
def EdR (w:World)(ea:Option Addr)(es:List (Nat×Nat)):Prop:=∀(i:Nat) (e:Nat×Nat),es[i]? =some e→e.1<4294967296∧e.2<4294967296∧∃eb eo,ea=some ⟨eb,eo,none⟩∧w.cell? ⟨eb,eo+i*2+0,none⟩=some (Lg e.1)∧w.cell? ⟨eb,eo+i*2+1,none⟩=some (Lg e.2)
theorem EdR.ext {ea:Option Addr}{es:List (Nat×Nat)}(h:EdR w ea es)(hx:Ext w w'):EdR w' ea es:=fun i e he=>by
 obtain⟨h1,h2,eb,eo,h3,h4,h5⟩:=h i e he
 exact⟨h1,h2,eb,eo,h3,Lv hx h4,Lv hx h5⟩
end
theorem N1.insert {g:List (List Nat)}(h:N1 g){f x k:Nat}{s:List Nat}(hs:g[f]? =some s)(hx:x<g.length)(hk:k≤s.length)(h1:∀y∈s.take k,y<x)(h2:∀y∈s.drop k,x<y):N1 (g.set f (s.take k++[x]++s.drop k)):=by
 have hm:=List.mem_of_getElem? hs
 have sQ:=h.ok s hm
 have aQ:=h.lt s hm
 have hn:=h.n
 refine⟨fun l hl=>?_,fun l hl y hy=>?_,by rw[List.length_set];exact h.n⟩
 ·rcases List.mem_or_eq_of_mem_set hl with e| e
  ·exact h.ok l e
  ·subst e;refine⟨?_,fun y hy=>?_⟩
   ·have hr:List.Pairwise (·<·) s:=sQ.Vw;show List.Pairwise (·<·) _;rw[List.append_assoc,List.pairwise_append];refine⟨hr.sublist (List.take_sublist _ _),?_,fun a ha b hb=>?_⟩
    ·rw[List.singleton_append,List.pairwise_cons];exact⟨h2,hr.sublist (List.drop_sublist _ _)⟩
    ·rw[List.singleton_append] at hb;rcases List.mem_cons.1 hb with e| e
     ·rw[e];exact h1 a ha
     ·exact Nat.lt_trans (h1 a ha) (h2 b e)
   ·rcases List.mem_append.1 hy with e| e
    ·rcases List.mem_append.1 e with e| e
     ·exact sQ.lt y (List.mem_of_mem_take e)
     ·rw[List.mem_singleton.1 e];omega
    ·exact sQ.lt y (List.mem_of_mem_drop e)
 ·rw[List.length_set];rcases List.mem_or_eq_of_mem_set hl with e| e
  ·exact h.lt l e y hy
  ·subst e;rcases List.mem_append.1 hy with e| e
   ·rcases List.mem_append.1 e with e| e
    ·exact aQ y (List.mem_of_mem_take e)
    ·rw[List.mem_singleton.1 e];exact hx
   ·exact aQ y (List.mem_of_mem_drop e)
theorem N1.empty {n:Nat}(hn:n≤60):N1 (List.replicate n []):=
 ⟨fun l hl=>by rw[List.eq_of_mem_replicate hl];exact⟨List.Pairwise.nil,fun y h=>(by cases h)⟩,fun l hl y hy=>(by rw[List.eq_of_mem_replicate hl] at hy;cases hy),by simpa using hn⟩
end Go.Proofs.YtpldpcjdjcgicaaGreatDoor
