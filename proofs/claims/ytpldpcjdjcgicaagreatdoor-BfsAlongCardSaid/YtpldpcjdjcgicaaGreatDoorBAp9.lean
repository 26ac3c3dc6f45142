/- Texts RgC, RgD, LayA, LayB, LayC, AwK, LbA, LbG, Row, BfO, RowA, one behind the other (what the statement BfsAlong does not use is left out). -/
import Derived.Test.YtpldpcjdjcgicaaGreatDoorBAp2
import Derived.Test.YtpldpcjdjcgicaaGreatDoorBAp8
import Derived.Test.YtpldpcjdjcgicaaGreatDoorRows
import Derived.Test.YtpldpcjdjcgicaaGreatDoorBAp1
import Derived.SizedLaws
import Derived.Carry
import Derived.WalkKit
import Derived.ProofKit
import Derived.OpenShut
import Derived.ShutString
import Derived.ChangeOld
import Derived.Below
import Derived.Lib.SmallJoins
import Derived.Deep.SlicePairs
import Derived.LaidLaws
import Derived.MakeChecks
import Derived.Handed
set_option maxHeartbeats 16000000
namespace Go.Proofs.YtpldpcjdjcgicaaGreatDoor
open Go Go.RowKit
set_option linter.all false
set_option maxRecDepth 100000
theorem KP.uniq {w:World}{b:Nat}{cs cs':List Value}{T T':TypeId}(h:KP w b cs T)(h':KP w b cs' T'):cs=cs':=by
 obtain⟨fz,h1,-⟩:=h
 obtain⟨fz',h2,-⟩:=h'
 rw[h1] at h2
 have:=MA h2
 injection this with e1 e2 e3
 have:=congrArg Array.toList e1
 simpa using this
theorem z27 {n : Nat}(du : 1 ≤ n)(hn : n ≤ 40){w : World}{ea : Option Addr}{ec : Nat}{es : List (Nat × Nat)}(rP : es.length ≤ 9000000000000000000)(hE : EdR w ea es) : Le Tryz.prog 6 [I (n : Int), .slice ea es.length ec] w fun v w' => ∃ g bg, v = .slice (some ⟨bg, 0, none⟩) g.length g.length ∧ g.length = n ∧ N1 g ∧ WM w' bg w.heap.size g ∧ Ext w w' := by
 have eJ:maxLen=9223372036854775807:=rfl
 refine KA (e:=[(0,_),(1,_)]) Tryz.func6 rfl Tryz.ntmps6 rfl rfl (qN rfl (KE rfl (qM rfl (An rfl (KL rfl rfl (pmk (c:=n) (n:=n) Rb OC rfl rfl rfl (by omega) (by omega) (by omega)) ?_)))))
 rintro _ w1 ⟨bg,rfl,⟨Ix,ad,ai⟩,-⟩
 have lH:WM w1 bg w.heap.size (List.replicate n []):=WM.new ai
 refine KE rfl (py (run_seq (qN rfl (KE rfl (py (KB (MQ (α:=Nat×List (List Nat)) ((0,List.replicate n [])) (fun y=>[(0,I (n:Int)),(1,.slice ea es.length ec),(5,.slice (some ⟨bg,0,none⟩) n n),(6,I (y.1:Int))]) (fun y w'=>y.1≤es.length∧y.2.length=n∧N1 y.2∧WM w' bg w.heap.size y.2∧Ext w w') (fun y=>es.length-y.1) ?hI ?hround)))))))
 case hI=>exact⟨Nat.zero_le _,by simp,N1.empty (by omega),lH,ad⟩
 case hround =>
  rintro⟨i,g⟩ w2 ⟨hi,eO,aw,df,af⟩ ih;dsimp only at hi eO aw df af ih⊢
  try dsimp only
  refine run_seq (qN rfl (An rfl (An rfl (qV (LG U22 rfl) (qV (LW rfl rfl) (py (KQ rfl (fun hq=>?_) (fun hq=>?_))))))))
  ·have cL : i < es.length := by omega
   obtain⟨e,he⟩:∃e,es[i]? =some e:=⟨_,List.getElem?_eq_getElem cL⟩;obtain⟨e1,e2,eb,eo,rfl,fm,eK⟩:=(hE.ext af) i e he;refine It (run_seq (KB (run_seq (qN rfl (An rfl (An rfl (qV (Lt U22 Zb rfl rfl (by omega)) (qV (KK z0u rfl) (qV (Lb Mg rfl rfl fm) (qV (Ln rfl Mg U3 (by omega)) (An rfl ?_)))))))))));by_cases hf:e.1<n
   ·by_cases ht:e.2<n
    ·refine qV (OL rfl rfl) (Lq (An rfl (An rfl (An rfl (qV (Lt U22 Zb rfl rfl (by omega)) (qV (KK Ve rfl) (qV (Lb Mg rfl rfl eK) (qV (Ln rfl Mg U3 (by omega)) (An rfl (qV (OL rfl rfl) (Lq ?_)))))))))));obtain⟨s,hs⟩:∃s,g[e.1]? =some s:=⟨_,List.getElem?_eq_getElem (by omega)⟩;obtain⟨a,c,fT,nP,dQ,Kj⟩:=df.cell hs;have gl:s.length≤n:=by rw[←eO];exact aw.len (List.mem_of_getElem? hs)
     refine qV (Lk rfl rfl) (py (Kx rfl (It (qN rfl (An rfl (An rfl (An rfl (qV (Lt U22 Zb rfl rfl (by omega)) (qV (KK z0u rfl) (qV (Lb Mg rfl rfl fm) (qV (Lt Rb OC rfl rfl (by omega)) (qV (Lb L9 rfl rfl fT) (KE rfl ?_)))))))))))));refine qM rfl (KE rfl (py (run_seq (KB ?_))));have sq:List.Pairwise (·<·) s:=(aw.ok s (List.mem_of_getElem? hs)).Vw
     have J2:∀(k y:Nat),s[k]? =some y→∀z∈s.drop k,y≤z:=fun k y hy z hz=>by
      have lM:k<s.length:=by
       rcases Nat.lt_or_ge k s.length with h| h
       ·exact h
       ·rw[List.getElem?_eq_none h] at hy;cases hy
      have h1:List.Pairwise (·<·) (s.drop k):=sq.sublist (List.drop_sublist _ _);rw[List.drop_eq_getElem_cons lM] at h1 hz;rw[List.getElem?_eq_getElem lM] at hy;cases hy;rcases List.mem_cons.1 hz with e| e
      ·omega
      ·exact Nat.le_of_lt ((List.pairwise_cons.1 h1).1 z e)
     refine Nz (fun e' w'=>∃k:Nat,e'=[(0,I (n:Int)),(1,.slice (some ⟨eb,eo,none⟩) es.length ec),(5,.slice (some ⟨bg,0,none⟩) n n),(6,I (i:Int)),(7,.slice a s.length c),(8,I (k:Int))]∧k≤s.length∧(∀y∈s.take k,y<e.2)∧(∀y,s[k]? =some y→e.2≤y)∧Ext w2 w') ?lK (fun lK=>?Dw)
     case lK =>
      rintro e' w3 ⟨k,rfl,hk,mP,ij,ah⟩;have ag:=Ext.L4 w3;have sR:=dQ.ext ah;have sS:=Lv ah eK;refine run_seq (Lp (fun e' w'=>∃q,e'=[(0,I (n:Int)),(1,.slice (some ⟨eb,eo,none⟩) es.length ec),(5,.slice (some ⟨bg,0,none⟩) n n),(6,I (i:Int)),(7,.slice a s.length c),(8,I (k:Int)),(76,.bool q)]∧(q=true→∀y∈s.drop k,e.2<y)∧Ext w2 w') ?gt (fun gt=>?mV))
      case gt =>
       rintro e' w4 ⟨q,rfl,sw,aB⟩;have g7:=df.ext aB;have lD:=dQ.ext aB;have Dr:=Lv aB fm;have Dt:=Lv aB eK;have cF:=af.trans aB;refine LF rfl (fun zi=>?_) (fun zi=>?_)
       ·have ao:=Ext.L4 w4;have bK:=ao.size;have yN:w.heap.size≤w4.heap.size:=cF.size;have J3:=g7.lt
        have nr:((s.take k++[e.2])++s.drop k).length=s.length+1:=by
         rw[List.length_append,List.length_append,List.length_take,List.length_drop,List.length_singleton];omega
        have ib:∀(l:List Nat),∀c∈l.map Lg,c.oneCell'=true:=fun l c hc=>by obtain⟨z,-,rfl⟩:=List.mem_map.1 hc;rfl
        have lX:(s.take k).length=k:=by rw[List.length_take];omega
        have Ee:(s.drop k).length=s.length-k:=List.length_drop ..;obtain⟨vs,px,s6,-⟩:=id g7.ex;refine L5 [23] (fun w'=>Ext w4 w') (by kernel_rfl) rfl (qL [22,23] 0 rfl (fun _ h=>KM rfl) ao (qL [3,4,5,22,23] 1 rfl (fun _ h=>KM rfl) ao (qL [3,4,5,22,23] 2 rfl (fun _ h=>KM rfl) ao (qL [4,5,22,23] 3 rfl (fun _ h=>Lt U22 Zb rfl rfl (by omega)) ao (qL [5,22,23] 4 rfl (fun _ h=>KK z0u rfl) ao (qL [9,10,17,21,22,23] 7 rfl (fun _ h=>KM rfl) ao (qL [9,10,17,21,22,23] 8 rfl (fun _ h=>KM rfl) ao (qL [13,14,15,16,17,21,22,23] 11 rfl (fun _ h=>KM rfl) ao (qL [13,14,15,16,17,21,22,23] 12 rfl (fun _ h=>KM rfl) ao (qL [14,15,16,17,21,22,23] 13 rfl (fun _ h=>Lt U22 Zb rfl rfl (by omega)) ao (qL [15,16,17,21,22,23] 14 rfl (fun _ h=>KK Ve rfl) ao (qL [20,21,22,23] 18 rfl (fun _ h=>KM rfl) ao (qL [20,21,22,23] 19 rfl (fun _ h=>KM rfl) ao ?_)))))))))))));refine qL [22,23] 5 rfl (fun _ h=>Lb Mg rfl rfl (Lv h Dr)) ao (qL [10,17,21,22,23] 9 rfl (fun _ h=>z5W L9 KY rfl rfl (by omega)) ao (qL [16,17,21,22,23] 15 rfl (fun _ h=>Lb Mg rfl rfl (Lv h Dt)) ao (qL [21,22,23] 20 rfl (fun _ h=>Si L9 KY rfl rfl hk nP) ao (RK (i:=6) (j:=16) (by kernel_rfl) ?_ ?_))))
        ·refine LM (i:=6) rfl rfl rfl (Tb (parts:=[]) (cs:=[]) (zs:=[]) L9 KY rfl (by kernel_rfl) rfl rfl rfl (by decide)) ?_;rintro v6 w6 ⟨b6,rfl,⟨nD,aK,aW⟩,iC⟩;refine⟨ao.trans aK,?_⟩;have Du:w4.heap.size≤b6:=by omega
         have lb6:=aW.lt;have ao:=ao.trans aK
         try have dL:=dL.ext aK
         have bK:=Nat.le_trans bK aK.size;refine RK (i:=10) (j:=16) (by kernel_rfl) ?_ ?_
         ·refine LM (i:=10) rfl rfl rfl (pap L9 KY rfl (by decide) rfl rfl iC ((Qp (i:=k) lD hk).ext ao) (fun c hc=>ib s c (List.mem_of_mem_take hc)) (by omega) (by omega)) ?_;rintro v10 w10 ⟨bV,au,bX,-⟩;refine⟨ao.Kz au (fun j e=>by have e:b6=j:=MA e;omega),?_⟩;have ao:=ao.Kz au (fun j e=>by have e:b6=j:=MA e;omega)
          try have dL:=dL.kp au (fun j hj e=>by have e:b6=j:=MA e;have hj:b16=j:=MA hj;omega)
          have bX:∀j,v10.ownBlock=some j→w4.heap.size≤j:=fun j hj=>by rcases bX j hj with e|e;(have e:b6=j:=MA e;omega);omega
          have bK:=Nat.le_trans bK au.size;have xS:=fun(j:Nat) (hj:v10.ownBlock=some j)=>bV.lt hj;refine Mp (i:=16) (by kernel_rfl) (LM (i:=16) rfl rfl rfl (Tb (parts:=[(0,.tmp 92)]) (cs:=[_]) (zs:=[Value.int .u32 0]) L9 KY rfl (by kernel_rfl) rfl rfl rfl (by decide)) ?_);rintro v16 w16 ⟨b16,rfl,⟨xT,bP,iO⟩,dL⟩;refine⟨ao.trans bP,?_⟩;have xU:w4.heap.size≤b16:=by omega
          have ao:=ao.trans bP
          try have iC:=iC.ext bP
          try have bV:=bV.ext bP
          have lb16:=iO.lt;have bK:=Nat.le_trans bK bP.size;refine Mp (i:=17) (by kernel_rfl) (LM (i:=17) rfl rfl rfl (pap L9 KY rfl (by decide) rfl rfl bV dL.rd (fun c hc=>ib [e.2] c hc) (by omega) (by omega)) ?_);rintro v17 w17 ⟨gT,dG,dp,-⟩;refine⟨ao.Kz dG (fun j e=>bX j e),?_⟩;have ao:=ao.Kz dG (fun j e=>bX j e);have dp:∀j,v17.ownBlock=some j→w4.heap.size≤j:=fun j hj=>by rcases dp j hj with e|e;exact bX j e;omega
          have bK:=Nat.le_trans bK dG.size;refine Mp (i:=21) (by kernel_rfl) (LM (i:=21) rfl rfl rfl (pap L9 KY rfl (by decide) rfl rfl gT ((OP (i:=k) lD hk nP).ext ao) (fun c hc=>ib s c (List.mem_of_mem_drop hc)) (by omega) (by omega)) ?_);rintro v21 w21 ⟨dq,iP,fS,-⟩;refine⟨ao.Kz iP (fun j e=>dp j e),?_⟩;have ao:=ao.Kz iP (fun j e=>dp j e);have fS:∀j,v21.ownBlock=some j→w4.heap.size≤j:=fun j hj=>by rcases fS j hj with e|e;exact dp j e;omega
          refine qL [23] 22 rfl (fun _ h=>Lt Rb OC rfl rfl (by omega)) ao ?_;have iQ:=ao.KD px;refine Lu [23] (by kernel_rfl) (by kernel_rfl) (qO 23 (Lm (i:=23) rfl rfl (Mn OC rfl rfl (Rm dq) iQ (by rw[s6];omega)) ?_));rintro w23 ⟨co,dm⟩;refine⟨trivial,?_⟩;refine qE (KC (KF rfl (An rfl (Lz rfl rfl (KE rfl (py ?_))))));rw[show 0+k+1+(s.length-k)=(s.take k++[e.2]++s.drop k).length by rw[nr];omega,show([]++List.take k (s.map Lg)++[Lg e.2]++List.drop k (s.map Lg))=(s.take k++[e.2]++s.drop k).map Lg by simp[List.map_take,List.map_drop]] at dq;obtain⟨ra,rc,rfl,-⟩:=dq.rd.shape
          have xV:(s.take k++[e.2]++s.drop k).length≤rc:=by
           rcases dq.shape with⟨e1,e2⟩|⟨gg,cc,e1,e2⟩
           ·omega
           ·cases e1;exact e2
          have ns:=(g7.ext ao).set dm (f:=e.1) (l:=s.take k++[e.2]++s.drop k) (a:=ra) (c:=rc) (fun vs' h'=>by rw[KP.uniq h' iQ];exact co) (by omega) xV dq.rd (fun j hj=>by have:=fS j hj;omega);have nt:=aw.insert hs (x:=e.2) (k:=k) (by omega) hk mP (sw zi);exact(ih (i+1,g.set e.1 (s.take k++[e.2]++s.drop k)) _ ⟨by omega,by rw[List.length_set];exact eO,nt,ns,(cF.trans ao).Kz dm (fun j e=>by omega)⟩ (by omega)).qb
         ·refine LM (i:=16) rfl rfl rfl (Tb (parts:=[(0,.tmp 92)]) (cs:=[_]) (zs:=[Value.int .u32 0]) L9 KY rfl (by kernel_rfl) rfl rfl rfl (by decide)) ?_;rintro v16 w16 ⟨b16,rfl,⟨xT,bP,iO⟩,dL⟩;refine⟨ao.trans bP,?_⟩;have xU:w4.heap.size≤b16:=by omega
          have ao:=ao.trans bP
          try have iC:=iC.ext bP
          try have bV:=bV.ext bP
          have lb16:=iO.lt;have bK:=Nat.le_trans bK bP.size;refine Mp (i:=10) (by kernel_rfl) (LM (i:=10) rfl rfl rfl (pap L9 KY rfl (by decide) rfl rfl iC ((Qp (i:=k) lD hk).ext ao) (fun c hc=>ib s c (List.mem_of_mem_take hc)) (by omega) (by omega)) ?_);rintro v10 w10 ⟨bV,au,bX,-⟩;refine⟨ao.Kz au (fun j e=>by have e:b6=j:=MA e;omega),?_⟩;have ao:=ao.Kz au (fun j e=>by have e:b6=j:=MA e;omega)
          try have dL:=dL.kp au (fun j hj e=>by have e:b6=j:=MA e;have hj:b16=j:=MA hj;omega)
          have bX:∀j,v10.ownBlock=some j→w4.heap.size≤j:=fun j hj=>by rcases bX j hj with e|e;(have e:b6=j:=MA e;omega);omega
          have bK:=Nat.le_trans bK au.size;have xS:=fun(j:Nat) (hj:v10.ownBlock=some j)=>bV.lt hj;refine Mp (i:=17) (by kernel_rfl) (LM (i:=17) rfl rfl rfl (pap L9 KY rfl (by decide) rfl rfl bV dL.rd (fun c hc=>ib [e.2] c hc) (by omega) (by omega)) ?_);rintro v17 w17 ⟨gT,dG,dp,-⟩;refine⟨ao.Kz dG (fun j e=>bX j e),?_⟩;have ao:=ao.Kz dG (fun j e=>bX j e);have dp:∀j,v17.ownBlock=some j→w4.heap.size≤j:=fun j hj=>by rcases dp j hj with e|e;exact bX j e;omega
          have bK:=Nat.le_trans bK dG.size;refine Mp (i:=21) (by kernel_rfl) (LM (i:=21) rfl rfl rfl (pap L9 KY rfl (by decide) rfl rfl gT ((OP (i:=k) lD hk nP).ext ao) (fun c hc=>ib s c (List.mem_of_mem_drop hc)) (by omega) (by omega)) ?_);rintro v21 w21 ⟨dq,iP,fS,-⟩;refine⟨ao.Kz iP (fun j e=>dp j e),?_⟩;have ao:=ao.Kz iP (fun j e=>dp j e);have fS:∀j,v21.ownBlock=some j→w4.heap.size≤j:=fun j hj=>by rcases fS j hj with e|e;exact dp j e;omega
          refine qL [23] 22 rfl (fun _ h=>Lt Rb OC rfl rfl (by omega)) ao ?_;have iQ:=ao.KD px;refine Lu [23] (by kernel_rfl) (by kernel_rfl) (qO 23 (Lm (i:=23) rfl rfl (Mn OC rfl rfl (Rm dq) iQ (by rw[s6];omega)) ?_));rintro w23 ⟨co,dm⟩;refine⟨trivial,?_⟩;refine qE (KC (KF rfl (An rfl (Lz rfl rfl (KE rfl (py ?_))))));rw[show 0+k+1+(s.length-k)=(s.take k++[e.2]++s.drop k).length by rw[nr];omega,show([]++List.take k (s.map Lg)++[Lg e.2]++List.drop k (s.map Lg))=(s.take k++[e.2]++s.drop k).map Lg by simp[List.map_take,List.map_drop]] at dq;obtain⟨ra,rc,rfl,-⟩:=dq.rd.shape
          have xV:(s.take k++[e.2]++s.drop k).length≤rc:=by
           rcases dq.shape with⟨e1,e2⟩|⟨gg,cc,e1,e2⟩
           ·omega
           ·cases e1;exact e2
          have ns:=(g7.ext ao).set dm (f:=e.1) (l:=s.take k++[e.2]++s.drop k) (a:=ra) (c:=rc) (fun vs' h'=>by rw[KP.uniq h' iQ];exact co) (by omega) xV dq.rd (fun j hj=>by have:=fS j hj;omega);have nt:=aw.insert hs (x:=e.2) (k:=k) (by omega) hk mP (sw zi);exact(ih (i+1,g.set e.1 (s.take k++[e.2]++s.drop k)) _ ⟨by omega,by rw[List.length_set];exact eO,nt,ns,(cF.trans ao).Kz dm (fun j e=>by omega)⟩ (by omega)).qb
        ·refine LM (i:=16) rfl rfl rfl (Tb (parts:=[(0,.tmp 92)]) (cs:=[_]) (zs:=[Value.int .u32 0]) L9 KY rfl (by kernel_rfl) rfl rfl rfl (by decide)) ?_;rintro v16 w16 ⟨b16,rfl,⟨xT,bP,iO⟩,dL⟩;refine⟨ao.trans bP,?_⟩;have xU:w4.heap.size≤b16:=by omega
         have ao:=ao.trans bP
         try have iC:=iC.ext bP
         try have bV:=bV.ext bP
         have lb16:=iO.lt;have bK:=Nat.le_trans bK bP.size;refine Mp (i:=6) (by kernel_rfl) (LM (i:=6) rfl rfl rfl (Tb (parts:=[]) (cs:=[]) (zs:=[]) L9 KY rfl (by kernel_rfl) rfl rfl rfl (by decide)) ?_);rintro v6 w6 ⟨b6,rfl,⟨nD,aK,aW⟩,iC⟩;refine⟨ao.trans aK,?_⟩;have Du:w4.heap.size≤b6:=by omega
         have lb6:=aW.lt;have ao:=ao.trans aK
         try have dL:=dL.ext aK
         have bK:=Nat.le_trans bK aK.size;refine Mp (i:=10) (by kernel_rfl) (LM (i:=10) rfl rfl rfl (pap L9 KY rfl (by decide) rfl rfl iC ((Qp (i:=k) lD hk).ext ao) (fun c hc=>ib s c (List.mem_of_mem_take hc)) (by omega) (by omega)) ?_);rintro v10 w10 ⟨bV,au,bX,-⟩;refine⟨ao.Kz au (fun j e=>by have e:b6=j:=MA e;omega),?_⟩;have ao:=ao.Kz au (fun j e=>by have e:b6=j:=MA e;omega)
         try have dL:=dL.kp au (fun j hj e=>by have e:b6=j:=MA e;have hj:b16=j:=MA hj;omega)
         have bX:∀j,v10.ownBlock=some j→w4.heap.size≤j:=fun j hj=>by rcases bX j hj with e|e;(have e:b6=j:=MA e;omega);omega
         have bK:=Nat.le_trans bK au.size;have xS:=fun(j:Nat) (hj:v10.ownBlock=some j)=>bV.lt hj;refine Mp (i:=17) (by kernel_rfl) (LM (i:=17) rfl rfl rfl (pap L9 KY rfl (by decide) rfl rfl bV dL.rd (fun c hc=>ib [e.2] c hc) (by omega) (by omega)) ?_);rintro v17 w17 ⟨gT,dG,dp,-⟩;refine⟨ao.Kz dG (fun j e=>bX j e),?_⟩;have ao:=ao.Kz dG (fun j e=>bX j e);have dp:∀j,v17.ownBlock=some j→w4.heap.size≤j:=fun j hj=>by rcases dp j hj with e|e;exact bX j e;omega
         have bK:=Nat.le_trans bK dG.size;refine Mp (i:=21) (by kernel_rfl) (LM (i:=21) rfl rfl rfl (pap L9 KY rfl (by decide) rfl rfl gT ((OP (i:=k) lD hk nP).ext ao) (fun c hc=>ib s c (List.mem_of_mem_drop hc)) (by omega) (by omega)) ?_);rintro v21 w21 ⟨dq,iP,fS,-⟩;refine⟨ao.Kz iP (fun j e=>dp j e),?_⟩;have ao:=ao.Kz iP (fun j e=>dp j e);have fS:∀j,v21.ownBlock=some j→w4.heap.size≤j:=fun j hj=>by rcases fS j hj with e|e;exact dp j e;omega
         refine qL [23] 22 rfl (fun _ h=>Lt Rb OC rfl rfl (by omega)) ao ?_;have iQ:=ao.KD px;refine Lu [23] (by kernel_rfl) (by kernel_rfl) (qO 23 (Lm (i:=23) rfl rfl (Mn OC rfl rfl (Rm dq) iQ (by rw[s6];omega)) ?_));rintro w23 ⟨co,dm⟩;refine⟨trivial,?_⟩;refine qE (KC (KF rfl (An rfl (Lz rfl rfl (KE rfl (py ?_))))));rw[show 0+k+1+(s.length-k)=(s.take k++[e.2]++s.drop k).length by rw[nr];omega,show([]++List.take k (s.map Lg)++[Lg e.2]++List.drop k (s.map Lg))=(s.take k++[e.2]++s.drop k).map Lg by simp[List.map_take,List.map_drop]] at dq;obtain⟨ra,rc,rfl,-⟩:=dq.rd.shape
         have xV:(s.take k++[e.2]++s.drop k).length≤rc:=by
          rcases dq.shape with⟨e1,e2⟩|⟨gg,cc,e1,e2⟩
          ·omega
          ·cases e1;exact e2
         have ns:=(g7.ext ao).set dm (f:=e.1) (l:=s.take k++[e.2]++s.drop k) (a:=ra) (c:=rc) (fun vs' h'=>by rw[KP.uniq h' iQ];exact co) (by omega) xV dq.rd (fun j hj=>by have:=fS j hj;omega);have nt:=aw.insert hs (x:=e.2) (k:=k) (by omega) hk mP (sw zi);exact(ih (i+1,g.set e.1 (s.take k++[e.2]++s.drop k)) _ ⟨by omega,by rw[List.length_set];exact eO,nt,ns,(cF.trans ao).Kz dm (fun j e=>by omega)⟩ (by omega)).qb
       ·refine It (KC (KF rfl (An rfl (Lz rfl rfl (KE rfl (py ?_))))));exact(ih (i+1,g) _ ⟨by omega,eO,aw,g7,cF⟩ (by omega)).qb
      case mV=>
       refine KN (fun w'=>Ext w3 w') (by kernel_rfl) rfl (KH 0 rfl (KM rfl) ag (KH 1 rfl (KM rfl) ag (KH 2 rfl (LG L9 rfl) ag ?_)));by_cases oh:k=s.length
       ·refine KH 3 rfl (Mc rfl rfl) ag (Pf (KH 4 rfl (KM rfl) ag (qJ 5 rfl (ag) (qJ 6 rfl (ag) (qJ 7 rfl (ag) (qJ 8 rfl (ag) (qJ 9 rfl (ag) (qJ 10 rfl (ag) (qJ 11 rfl (ag) (qJ 12 rfl (ag) (qJ 13 rfl (ag) (qJ 14 rfl (ag) (KH 15 rfl (LK rfl rfl) ag ?_)))))))))))));refine qE ?_;exact(gt _ _ ⟨true,rfl,fun _ y hy=>(by rw[oh,List.drop_length] at hy;cases hy),ah.trans ag⟩).qb
       ·obtain⟨y,hy⟩:∃y,s[k]? =some y:=⟨_,List.getElem?_eq_getElem (by omega)⟩;rcases sR.2 with⟨⟨ca,cc⟩,io,tG⟩|⟨lb,lo,cap,io,fY⟩
        ·omega
        cases io;have Dv:w3.cell? ⟨lb,lo+k*1,none⟩=some (Lg y):=fY (k*1) _ (by rw[Nat.mul_one,List.getElem?_map,hy];rfl);refine KH 3 rfl (Mc rfl rfl) ag (Pw (KH 4 rfl (KM rfl) ag (KH 5 rfl (KM rfl) ag (KH 6 rfl (KM rfl) ag (KH 7 rfl (Lt L9 KY rfl rfl (by omega)) ag (KH 9 rfl (KM rfl) ag (KH 10 rfl (KM rfl) ag (KH 11 rfl (Lt U22 Zb rfl rfl (by omega)) ag (KH 12 rfl (KK Ve rfl) ag (qT 8 rfl (fun _ h=>Lb Mg rfl rfl (Lv h Dv)) ag (qT 13 rfl (fun _ h=>Lb Mg rfl rfl (Lv h sS)) ag ?_)))))))))));have zg:=ij y hy;by_cases E6:y=e.2
        ·refine KH 14 rfl (LQ rfl rfl) ag (Pw (KH 15 rfl (Lk rfl rfl) ag (qE ?_)));exact(gt _ _ ⟨false,rfl,fun e=>(by cases e),ah.trans ag⟩).qb
        ·refine KH 14 rfl (LQ rfl rfl) ag (Pf (KH 15 rfl (Lk rfl rfl) ag (qE ?_)));exact(gt _ _ ⟨true,rfl,fun _ z hz=>(by have:=J2 k y hy z hz;omega),ah.trans ag⟩).qb
     case Dw=>
      refine MQ (α:=Nat) (0) (fun k=>[(0,I (n:Int)),(1,.slice (some ⟨eb,eo,none⟩) es.length ec),(5,.slice (some ⟨bg,0,none⟩) n n),(6,I (i:Int)),(7,.slice a s.length c),(8,I (k:Int))]) (fun k w'=>k≤s.length∧(∀y∈s.take k,y<e.2)∧Ext w2 w') (fun k=>s.length-k) ?hI ?hround
      case hI=>exact⟨Nat.zero_le _,fun y hy=>(by simp at hy),Ext.refl _⟩
      case hround=>
       rintro k w3 ⟨hk,mP,ah⟩ ih2;have ag:=Ext.L4 w3;have sR:=dQ.ext ah;have sS:=Lv ah eK
       try dsimp only
       refine run_seq (run_seq (KN (fun w'=>Ext w3 w') (by kernel_rfl) rfl (KH 0 rfl (KM rfl) ag (KH 1 rfl (KM rfl) ag (KH 2 rfl (LG L9 rfl) ag ?_)))));by_cases lM:k<s.length
       ·obtain⟨y,hy⟩:∃y,s[k]? =some y:=⟨_,List.getElem?_eq_getElem lM⟩;rcases sR.2 with⟨⟨ca,cc⟩,io,tG⟩|⟨lb,lo,cap,io,fY⟩
        ·omega
        cases io;have Dv:w3.cell? ⟨lb,lo+k*1,none⟩=some (Lg y):=fY (k*1) _ (by rw[Nat.mul_one,List.getElem?_map,hy];rfl);refine KH 3 rfl (LW rfl rfl) ag (Pf (KH 4 rfl (KM rfl) ag (KH 5 rfl (KM rfl) ag (KH 6 rfl (KM rfl) ag (KH 7 rfl (Lt L9 KY rfl rfl (by omega)) ag (KH 9 rfl (KM rfl) ag (KH 10 rfl (KM rfl) ag (KH 11 rfl (Lt U22 Zb rfl rfl (by omega)) ag (KH 12 rfl (KK Ve rfl) ag (qT 8 rfl (fun _ h=>Lb Mg rfl rfl (Lv h Dv)) ag (qT 13 rfl (fun _ h=>Lb Mg rfl rfl (Lv h sS)) ag ?_)))))))))));by_cases zg:y<e.2
        ·refine KH 14 rfl (LW rfl rfl) ag (Pf (KH 15 rfl (LK rfl rfl) ag (qE (KS rfl (It (KB (KF rfl (An rfl (Lz rfl rfl (KE rfl (py (KC ((ih2 (k+1) _ ⟨by omega,fun z hz=>?_,ah.trans ag⟩ (by omega)).qb)))))))))))));rw[Ls hy] at hz;rcases List.mem_append.1 hz with e'|e'
         ·exact mP z e'
         ·rw[List.mem_singleton.1 e'];exact zg
        ·refine KH 14 rfl (LW rfl rfl) ag (Pw (KH 15 rfl (LK rfl rfl) ag (qE (Kx rfl (KO rfl ?_)))));exact(lK _ _ ⟨k,rfl,hk,mP,fun z hz=>(by rw[hy] at hz;cases hz;omega),ah.trans ag⟩).qb
       ·refine KH 3 rfl (LW rfl rfl) ag (Pw (KH 4 rfl (KM rfl) ag (qJ 5 rfl (ag) (qJ 6 rfl (ag) (qJ 7 rfl (ag) (qJ 8 rfl (ag) (qJ 9 rfl (ag) (qJ 10 rfl (ag) (qJ 11 rfl (ag) (qJ 12 rfl (ag) (qJ 13 rfl (ag) (qJ 14 rfl (ag) (KH 15 rfl (Lk rfl rfl) ag ?_)))))))))))));refine qE (Kx rfl (KO rfl ?_));exact(lK _ _ ⟨k,rfl,hk,mP,fun z hz=>(by rw[List.getElem?_eq_none (by omega)] at hz;cases hz),ah.trans ag⟩).qb
    ·refine qV (OL rfl rfl) (Lq (An rfl (An rfl (An rfl (qV (Lt U22 Zb rfl rfl (by omega)) (qV (KK Ve rfl) (qV (Lb Mg rfl rfl eK) (qV (Ln rfl Mg U3 (by omega)) (An rfl (qV (OL rfl rfl) (MC (qV (Lk rfl rfl) (py ?_)))))))))))));refine KS rfl (KO rfl (KF rfl (An rfl (Lz rfl rfl (KE rfl (py ?_))))));exact(ih (i+1,g) _ ⟨by omega,eO,aw,df,af⟩ (by omega)).qb
   ·refine qV (OL rfl rfl) (MC (An rfl (qS (qS (qS (qS (qS (qS (qS (qS (qV (LK rfl rfl) (py (KS rfl ?_)))))))))))));refine KO rfl (KF rfl (An rfl (Lz rfl rfl (KE rfl (py ?_)))));exact(ih (i+1,g) _ ⟨by omega,eO,aw,df,af⟩ (by omega)).qb
  ·refine KO rfl (qN rfl (An rfl (KE rfl (py (KG Tryz.func6 rfl ?_)))));exact⟨_,rfl,g,bg,by rw[eO];rfl,eO,aw,df,af⟩
def PX (g:List (List Nat))(v i u:Nat):List Nat:=(List.range v).filter (fun x=>decide (u∈KW g x))++(if u∈(KW g v).take i then [v] else [])
def Pq (g:List (List Nat))(v i:Nat):List (List Nat):=(List.range g.length).map (PX g v i)
def RG (g:List (List Nat)):List (List Nat):=Pq g g.length 0
theorem z0Q (g:List (List Nat))(v u:Nat):PX g v (KW g v).length u=PX g (v+1) 0 u:=by
 unfold PX
 rw[List.take_length,List.range_succ,List.filter_append]
 by_cases h:u∈KW g v<;>simp[h]
theorem O5 (g:List (List Nat))(v i:Nat):(Pq g v i).length=g.length:=by simp[Pq]
theorem PT (g:List (List Nat))(v i:Nat){u:Nat}(hu:u<g.length):(Pq g v i)[u]? =some (PX g v i u):=by
 unfold Pq
 rw[List.getElem?_map,List.getElem?_range hu];rfl
theorem z2D (g:List (List Nat))(v i u:Nat):(PX g v i u).length≤v+1:=by
 unfold PX
 have h1:=List.length_filter_le (fun x=>decide (u∈KW g x)) (List.range v)
 rw[List.length_range] at h1
 rw[List.length_append]
 split<;>simp<;>omega
theorem z3w {g:List (List Nat)}(aw:N1 g){v i u:Nat}(hu:(KW g v)[i]? =some u):(Pq g v i).set u (PX g v i u++[v])=Pq g v (i+1):=by
 have nu:=Pc aw v u (List.mem_of_getElem? hu)
 have gE:u∉(KW g v).take i:=fun h=>by
  have ey:v<g.length:=by
   rcases Nat.lt_or_ge v g.length with h| h
   ·exact h
   ·unfold KW at hu;rw[List.getElem?_eq_none h] at hu;cases hu
  have hr:List.Pairwise (·<·) (KW g v):=by
   unfold KW;rw[List.getElem?_eq_getElem ey];exact(aw.ok _ (List.getElem_mem ey)).Vw
  have h2:=Ls hu;have h3:List.Pairwise (·<·) ((KW g v).take (i+1)):=hr.sublist (List.take_sublist _ _);rw[h2,List.pairwise_append] at h3;have:=h3.2.2 u h u List.mem_cons_self;omega
 apply List.ext_getElem?
 intro x
 by_cases hx:u=x
 ·subst hx;rw[List.getElem?_set_self (by rw[O5];exact nu),PT _ _ _ nu]
  congr 1
  unfold PX;rw[if_neg gE,List.append_nil,Ls hu,if_pos (by simp)]
 ·rw[List.getElem?_set_ne hx];by_cases ly:x<g.length
  ·rw[PT _ _ _ ly,PT _ _ _ ly]
   congr 1
   unfold PX
   congr 1
   rw[Ls hu]
   have:x∈(KW g v).take i++[u]↔x∈(KW g v).take i:=by
    rw[List.mem_append,List.mem_singleton];exact⟨fun e=>e.resolve_right fun e=>hx e.symm,.inl⟩
   simp only[this]
  ·rw[List.getElem?_eq_none (by rw[O5];omega),List.getElem?_eq_none (by rw[O5];omega)]
theorem z3F (g:List (List Nat)){u:Nat}(hu:u<g.length):(RG g)[u]? =some ((List.range g.length).filter fun x=>decide (u∈KW g x)):=by
 unfold RG
 rw[PT _ _ _ hu]
 unfold PX
 rw[List.take_zero,if_neg (by simp),List.append_nil]
theorem Sx (g:List (List Nat)):(RG g).length=g.length:=O5 _ _ _
theorem z4I {g:List (List Nat)}(h:N1 g):N1 (RG g):=by
 have hl:=Sx g
 have n6:∀l∈RG g,∃u,l=(List.range g.length).filter fun x=>decide (u∈KW g x):=fun l hm=>by
  obtain⟨u,hu⟩:=List.getElem?_of_mem hm
  have nu:u<g.length:=by
   rcases Nat.lt_or_ge u g.length with h| h
   ·exact h
   ·rw[List.getElem?_eq_none (by omega)] at hu;cases hu
  rw[z3F g nu] at hu;exact⟨u,(MA hu).symm⟩
 have hn:=h.n
 refine⟨fun l hm=>?_,fun l hm y hy=>?_,by omega⟩
 ·obtain⟨u,rfl⟩:=n6 l hm;exact⟨(List.pairwise_lt_range).sublist List.filter_sublist,fun y hy=>by have:=List.mem_range.1 (List.mem_filter.1 hy).1;omega⟩
 ·obtain⟨u,rfl⟩:=n6 l hm;have:=List.mem_range.1 (List.mem_filter.1 hy).1;omega
structure RwA (w:World)(bg B:Nat)(L:List (List Nat)):Prop where
 ex:∃vs:List Value,KP w bg vs 45∧vs.length=L.length∧(∀(i:Nat) (l:List Nat),L[i]? =some l→∃v:Value,vs[i]? =some v∧Sl w v 46 1 l.length (l.map Lg)∧∀b,v.ownBlock=some b→B≤b∧b≠bg)∧∀(i j:Nat) (vi vj:Value) (b:Nat),i≠j→vs[i]? =some vi→vs[j]? =some vj→vi.ownBlock=some b→vj.ownBlock≠some b
section
variable {w w':World}{bg B:Nat}{L:List (List Nat)}
theorem RwA.new {n:Nat}(h:KP w bg (List.replicate n (.slice none 0 0)) 45):RwA w bg B (List.replicate n []):=by
 refine⟨_,h,by simp,fun i l hl=>?_,fun i j vi vj b _ hi _ hb=>?_⟩
 ·rw[List.getElem?_replicate] at hl;split at hl
  ·rename_i hi
   cases hl;exact⟨.slice none 0 0,by rw[List.getElem?_replicate,if_pos hi],Sl.nil w _ 1,fun b hb=>by cases hb⟩
  ·cases hl
 ·have:=List.mem_of_getElem? hi;rw[List.eq_of_mem_replicate this] at hb;cases hb
theorem RwA.rw (h:RwA w bg B L):WM w bg B L:=by
 obtain⟨vs,h1,h2,h3,h4⟩:=h.ex
 refine⟨vs,h1,h2,fun i l hl=>?_⟩
 obtain⟨v,g1,g2,g3⟩:=h3 i l hl
 obtain⟨a,c,rfl,-⟩:=g2.rd.shape
 refine⟨a,c,g1,?_,g2.rd,g3⟩
 rcases g2.shape with⟨e1,e2⟩|⟨gg,cc,e1,e2⟩
 ·omega
 ·cases e1;exact e2
theorem RwA.put {w2:World}(h:RwA w bg B L){u:Nat}{l l':List Nat}{v v':Value}{vs:List Value}(px:KP w bg vs 45)(hu:L[u]? =some l)(hv:vs[u]? =some v)(hk:Kp (fun b=>v.ownBlock=some b) w w')(hS:Sl w' v' 46 1 l'.length (l'.map Lg))(ho:∀b,v'.ownBlock=some b→v.ownBlock=some b∨w.heap.size≤b)(am:Kp (fun b=>b=bg) w' w2)(hB:KP w2 bg (vs.set (0+u*1) v') 45)(te:B≤w.heap.size):RwA w2 bg B (L.set u l'):=by
 obtain⟨vs0,h1,h2,h3,h4⟩:=h.ex
 have e0:=h1.uniq px
 subst e0
 rw[Nat.zero_add,Nat.mul_one] at hB
 obtain⟨v0,g1,g2,g3⟩:=h3 u l hu
 rw[hv] at g1
 cases g1
 have g8:=h1.lt
 have qD:u<L.length:=by
  rcases Nat.lt_or_ge u L.length with h| h
  ·exact h
  ·rw[List.getElem?_eq_none h] at hu;cases hu
 have yf:∀b,v'.ownBlock=some b→B≤b∧b≠bg:=fun b hb=>by
  rcases ho b hb with e| e
  ·exact g3 b e
  ·omega
 have aQ:∀(j:Nat) (vj:Value) (b:Nat),vs0[j]? =some vj→vj.ownBlock=some b→b<w.heap.size:=fun j vj b hj hb=>by
  obtain⟨lj,J4⟩:∃lj,L[j]? =some lj:=⟨_,List.getElem?_eq_getElem (by
   rw[←h2];rcases Nat.lt_or_ge j vs0.length with h| h
   ·exact h
   ·rw[List.getElem?_eq_none h] at hj;cases hj)⟩
  obtain⟨vj',k1,k2,-⟩:=h3 j lj J4;rw[hj] at k1;cases k1;exact k2.lt hb
 refine⟨_,hB,by simp[h2],fun i li hl=>?_,fun i j vi vj b gH hi hj hb=>?_⟩
 ·by_cases e:u=i
  ·subst e;rw[List.getElem?_set_self qD] at hl;cases hl;exact⟨v',List.getElem?_set_self (by rw[h2];exact qD),hS.kp am (fun b hb e=>(yf b hb).2 e),yf⟩
  ·rw[List.getElem?_set_ne e] at hl;obtain⟨vi,k1,k2,k3⟩:=h3 i li hl;exact⟨vi,by rw[List.getElem?_set_ne e];exact k1,(k2.kp hk (fun b hb e2=>h4 u i v vi b e hv k1 e2 hb)).kp am (fun b hb e=>(k3 b hb).2 e),k3⟩
 ·by_cases ei:u=i
  ·subst ei;rw[List.getElem?_set_self (by rw[h2];exact qD)] at hi;cases hi;rw[List.getElem?_set_ne gH] at hj;intro bM;rcases ho b hb with e| e
   ·exact h4 u j v vj b gH hv hj e bM
   ·have:=aQ j vj b hj bM;omega
  ·rw[List.getElem?_set_ne ei] at hi;by_cases ej:u=j
   ·subst ej;rw[List.getElem?_set_self (by rw[h2];exact qD)] at hj;cases hj;intro bM;rcases ho b bM with e| e
    ·exact h4 i u vi v b gH hi hv hb e
    ·have:=aQ i vi b hi hb;omega
   ·rw[List.getElem?_set_ne ej] at hj;exact h4 i j vi vj b gH hi hj hb
end
theorem ZM {g:List (List Nat)}(aw:N1 g){w:World}{gb go gc:Nat}(hg:GrR w gb go g):Le Tryz.prog 26 [.slice (some ⟨gb,go,none⟩) g.length gc] w fun v w'=>∃bt,v= .slice (some ⟨bt,0,none⟩) g.length g.length∧WM w' bt w.heap.size (RG g)∧Ext w w':=by
 have eJ:maxLen=9223372036854775807:=rfl
 have hn:=aw.n
 refine KA (e:=[(0,_)]) Tryz.func26 rfl Tryz.ntmps26 rfl rfl (qN rfl (KE rfl (qM rfl (An rfl (qV (LG Rb rfl) (KL rfl rfl (pmk (c:=g.length) (n:=g.length) Rb OC rfl rfl rfl (by omega) (by omega) (by omega)) ?_))))))
 rintro _ w1 ⟨bt,rfl,⟨oT,ad,ai⟩,-⟩
 have lH:RwA w1 bt w.heap.size (Pq g 0 0):=by
  have e:Pq g 0 0=List.replicate g.length []:=by
   apply List.ext_getElem<;>simp[Pq,PX]
  rw[e];exact RwA.new ai
 refine KE rfl (py (run_seq (qN rfl (KE rfl (py (KB (MQ (α:=Nat) (0) (fun v=>[(0,.slice (some ⟨gb,go,none⟩) g.length gc),(3,.slice (some ⟨bt,0,none⟩) g.length g.length),(4,I (v:Int))]) (fun v w'=>v≤g.length∧RwA w' bt w.heap.size (Pq g v 0)∧Ext w w') (fun v=>g.length-v) ?hI ?hround)))))))
 case hI=>exact⟨Nat.zero_le _,lH,ad⟩
 case hround =>
  rintro v w2 ⟨hv,df,af⟩ ih
  try dsimp only
  refine run_seq (qN rfl (An rfl (An rfl (qV (LG Rb rfl) (qV (LW rfl rfl) (py (KQ rfl (fun hq=>?_) (fun hq=>?_))))))))
  ·have ey:v<g.length:=by omega
   have eO:g[v]? =some (KW g v):=by unfold KW;rw[List.getElem?_eq_getElem ey];rfl
   have gl:(KW g v).length≤g.length:=aw.len (List.mem_of_getElem? eO);refine It (run_seq (KB (qN rfl (KE rfl (py (KB (MQ (α:=Nat) (0) (fun i=>[(0,.slice (some ⟨gb,go,none⟩) g.length gc),(3,.slice (some ⟨bt,0,none⟩) g.length g.length),(4,I (v:Int)),(5,I (i:Int))]) (fun i w'=>i≤(KW g v).length∧RwA w' bt w.heap.size (Pq g v i)∧Ext w w') (fun i=>(KW g v).length-i) ?hI ?hround)))))))
   case hI=>exact⟨Nat.zero_le _,df,af⟩
   case hround=>
    rintro i w3 ⟨hi,nW,ah⟩ ih2;obtain⟨a,c,fm,eK⟩:=hg v _ eO;have ag:=Ext.L4 w3
    try dsimp only
    refine run_seq (qN rfl (An rfl (An rfl (An rfl (qV (Lt Rb OC rfl rfl (by omega)) (qV (Lb L9 rfl rfl (Lv ah fm)) (qV (LG L9 rfl) (qV (LW rfl rfl) (py (KQ rfl (fun gj=>?_) (fun gj=>?_)))))))))))
    ·obtain⟨u,hu⟩:∃u,(KW g v)[i]? =some u:=⟨_,List.getElem?_eq_getElem (by omega)⟩;obtain⟨lb,lo,rfl,zj⟩:=eK i u hu;have nu:u<g.length:=Pc aw v u (List.mem_of_getElem? hu);have FD:=PT g v i nu;have m9:=z2D g v i u;obtain⟨vs,px,s6,jb,J5⟩:=id nW.ex;obtain⟨vu,FE,J6,zk⟩:=jb u _ FD
     have tQ:∀{w':World},Kp (fun b=>vu.ownBlock=some b) w3 w'→w'.cell? ⟨bt,0+u*1,none⟩=some vu:=fun hk=>by
      rw[(hk.KD px (fun e=>(zk _ e).2 rfl)).cell,Nat.zero_add,Nat.mul_one];exact FE
     have z3:=ah.size;refine It (run_seq (KB ?_));have zm:∀{w':World},Kp (fun b=>vu.ownBlock=some b) w3 w'→Ext w w':=fun hk=>ah.Kz hk (fun b e=>(zk b e).1);refine L5 [23] (fun w'=>Kp (fun b=>vu.ownBlock=some b) w3 w') (by kernel_rfl) rfl (qL [22,23] 0 rfl (fun _ h=>KM rfl) (ag.kp) (qL [3,4,6,7,22,23] 1 rfl (fun _ h=>KM rfl) (ag.kp) (qL [3,4,6,7,22,23] 2 rfl (fun _ h=>KM rfl) (ag.kp) (qL [4,6,7,22,23] 3 rfl (fun _ h=>Lt Rb OC rfl rfl (by omega)) (ag.kp) (qL [6,7,22,23] 5 rfl (fun _ h=>KM rfl) (ag.kp) (qL [16,17,21,22,23] 8 rfl (fun _ h=>KM rfl) (ag.kp) (qL [11,12,14,15,16,17,21,22,23] 9 rfl (fun _ h=>KM rfl) (ag.kp) (qL [11,12,14,15,16,17,21,22,23] 10 rfl (fun _ h=>KM rfl) (ag.kp) (qL [12,14,15,16,17,21,22,23] 11 rfl (fun _ h=>Lt Rb OC rfl rfl (by omega)) (ag.kp) (qL [14,15,16,17,21,22,23] 13 rfl (fun _ h=>KM rfl) (ag.kp) (qL [19,20,21,22,23] 18 rfl (fun _ h=>KM rfl) (ag.kp) (qL [20,21,22,23] 19 rfl (fun _ h=>YR rfl U3 Mg) (ag.kp) (qL [6,7,22,23] 4 rfl (fun _ h=>Lb L9 rfl rfl (Lv (zm h) fm)) (ag.kp) ?_)))))))))))));refine qL [14,15,16,17,21,22,23] 12 rfl (fun _ h=>Lb L9 rfl rfl (Lv (zm h) fm)) (ag.kp) (qL [7,22,23] 6 rfl (fun _ h=>Lt L9 KY rfl rfl (by omega)) (ag.kp) (qL [15,16,17,21,22,23] 14 rfl (fun _ h=>Lt L9 KY rfl rfl (by omega)) (ag.kp) (qL [22,23] 7 rfl (fun _ h=>Lb Mg rfl rfl (Lv (zm h) zj)) (ag.kp) (qL [16,17,21,22,23] 15 rfl (fun _ h=>Lb Mg rfl rfl (Lv (zm h) zj)) (ag.kp) (qL [17,21,22,23] 16 rfl (fun _ h=>Lt Rb OC rfl rfl (by omega)) (ag.kp) (qL [21,22,23] 17 rfl (fun _ h=>Lb L9 rfl rfl (tQ h)) (ag.kp) ?_))))));rw[Nat.mod_eq_of_lt (show v<4294967296 by omega)];refine Mp (i:=20) (by kernel_rfl) (LM (i:=20) rfl rfl rfl (Tb (parts:=[(0,.tmp 43)]) (cs:=[_]) (zs:=[Value.int .u32 0]) L9 KY rfl (by kernel_rfl) rfl rfl rfl (by decide)) ?_);rintro v4 w4 ⟨b4,rfl,⟨gA,aB,aI⟩,dP⟩;refine⟨ag.kp.trans aB.kp,?_⟩;have cR:=ag.trans aB;refine Mp (i:=21) (by kernel_rfl) (LM (i:=21) rfl rfl rfl (pap L9 KY rfl (by decide) rfl rfl (J6.ext cR) dP.rd (fun c hc=>by obtain⟨z,-,rfl⟩:=List.mem_map.1 (show c∈[v].map Lg from hc);rfl) (by omega) (by omega)) ?_);rintro v5 w5 ⟨fZ,aj,rq,-⟩;refine⟨cR.kp.trans aj,?_⟩;have iM:Kp (fun b=>vu.ownBlock=some b) w3 w5:=cR.kp.trans aj;have z34:=cR.size;have Dx:=iM.KD px (fun e=>(zk _ e).2 rfl);refine qL [23] 22 rfl (fun _ h=>Lt Rb OC rfl rfl (by omega)) (cR.kp.trans aj) (Lu [23] (by kernel_rfl) (by kernel_rfl) (qO 23 (Lm (i:=23) rfl rfl (Mn OC rfl rfl (Rm fZ) Dx (by rw[s6,O5];omega)) ?_)));rintro w6 ⟨aW,aS⟩;refine⟨trivial,?_⟩;have kg:=nW.put (l':=PX g v i u++[v]) px FD FE iM (by rw[List.length_append,List.map_append];exact fZ) (fun b hb=>(rq b hb).imp id fun e=>by omega) aS aW z3;rw[z3w aw hu] at kg;refine qE (KC (KF rfl (An rfl (Lz rfl rfl (KE rfl (py ?_))))));exact(ih2 (i+1) _ ⟨by omega,kg,(ah.Kz iM (fun b e=>(zk b e).1)).Kz aS (fun b e=>by omega)⟩ (by omega)).qb
    ·have cL:i=(KW g v).length:=by omega
     subst cL;refine KO rfl (KC (KF rfl (An rfl (Lz rfl rfl (KE rfl (py ?_))))))
     have e:Pq g v (KW g v).length=Pq g (v+1) 0:=by
      unfold Pq;exact List.map_congr_left fun u _=>z0Q g v u
     exact(ih (v+1) _ ⟨by omega,by rw[←e];exact nW,ah⟩ (by omega)).qb
  ·have ey:v=g.length:=by omega
   subst ey;refine KO rfl (qN rfl (An rfl (KE rfl (py (KG Tryz.func26 rfl ?_)))));exact⟨_,rfl,bt,rfl,df.rw,af⟩
theorem XG (z:Int)(hz: -9223372036854775808≤z∧z≤9223372036854775807)(w:World):Le Tryz.prog 7 [I z] w fun v w'=>∃n:Nat,v=I (n:Int)∧1≤n∧n≤40∧w'=w:=by
 have r1:=P8 z 40 (by decide)
 have r2:=Ri z 40 (by decide)
 refine KA (e:=[(0,_)]) Tryz.func7 rfl Tryz.ntmps7 rfl rfl (qN rfl (KE rfl (qM rfl (An rfl (qV (yrt rfl rfl (by decide)) (Lz rfl rfl (qV (yrt rfl rfl (by decide)) ?_)))))))
 rw[show(z.tmod 40+40).tmod 40=ZS z 40 from rfl]
 refine Lz rfl rfl (KE rfl (py (KG Tryz.func7 rfl ?_)))
 exact⟨_,rfl,(1+ZS z 40).toNat,by rw[Int.toNat_of_nonneg (by omega)];rfl,by omega,by omega,rfl⟩
def z1I:LJ:=⟨7,3,3,3,64⟩
def z1n:LJ:=⟨0,0,2,1,64⟩
def z1F:LJ:=⟨2,1,4,2,3⟩
theorem Ys (z:Int)(hz: -9223372036854775808≤z∧z≤9223372036854775807)(w:World):Le Tryz.prog 25 [I z] w fun v w'=>∃p:LJ,v=bpV p∧p.LS∧p.zeta≤3∧Ext w w':=by
 have r1:=P8 z 3 (by decide)
 have r2:=Ri z 3 (by decide)
 refine KA (e:=[(0,_)]) Tryz.func25 rfl Tryz.ntmps25 rfl rfl (qN rfl (KL rfl rfl (MN (cs:=[_,_,_,_,_]) ME rfl) ?_))
 rintro _ w1 ⟨b2,rfl,bM,ad,ai⟩
 refine qM rfl (qV (Nc (parts:=[(0,.const (Value.int .i64 7)),(1,.const (Value.int .i64 3)),(2,.const (Value.int .i64 3)),(3,.const (Value.int .i64 3)),(4,.const (Value.int .i64 64))]) (cs:=[_,_,_,_,_]) ME rfl z65 rfl rfl) (qV (Nc (parts:=[(0,.const (Value.int .i64 0)),(1,.const (Value.int .i64 0)),(2,.const (Value.int .i64 2)),(3,.const (Value.int .i64 1)),(4,.const (Value.int .i64 64))]) (cs:=[_,_,_,_,_]) ME rfl z65 rfl rfl) (qV (Nc (parts:=[(0,.const (Value.int .i64 2)),(1,.const (Value.int .i64 1)),(2,.const (Value.int .i64 4)),(3,.const (Value.int .i64 2)),(4,.const (Value.int .i64 3))]) (cs:=[_,_,_,_,_]) ME rfl z65 rfl rfl) (KL rfl rfl (Tb (parts:=[(0,.tmp 3),(1,.tmp 4),(2,.tmp 5)]) (cs:=[_,_,_,_,_,_,_,_,_,_,_,_,_,_,_]) (zs:=[Value.int .i64 0,Value.int .i64 0,Value.int .i64 0,Value.int .i64 0,Value.int .i64 0,Value.int .i64 0,Value.int .i64 0,Value.int .i64 0,Value.int .i64 0,Value.int .i64 0,Value.int .i64 0,Value.int .i64 0,Value.int .i64 0,Value.int .i64 0,Value.int .i64 0]) z6a ME rfl (by kernel_rfl) rfl rfl rfl (by decide)) ?_))))
 rintro _ w2 ⟨b3,rfl,⟨eL,af,ak⟩,-⟩
 refine An rfl (qV (yrt rfl rfl (by decide)) (Lz rfl rfl (qV (yrt rfl rfl (by decide)) ?_)))
 rw[show(z.tmod 3+3).tmod 3=ZS z 3 from rfl]
 have gP:=af.KD ai
 have Dy:ZS z 3=((0:Nat):Int)∨ZS z 3=((1:Nat):Int)∨ZS z 3=((2:Nat):Int):=by omega
 have lb:=ai.lt
 rcases Dy with e|e| e
 ·rw[e];refine qV (Lt z6a ME rfl rfl (by omega)) (qV (La (news:=PO z1I) Vq rfl ME rfl (KP.cells (i:=0+0*5) (n:=5) ak rfl) rfl) (KR rfl (Lo (news:=PO z1I) ME rfl rfl rfl rfl gP (by simp)) ?_));rintro w3 ⟨ar,ax⟩;refine py (L8 Tryz.func25 (.cell Vq rfl ME rfl (KP.cells (n:=5) ar (news:=[_,_,_,_,_]) rfl) rfl .nil) ?_);exact⟨_,rfl,z1I,rfl,by unfold LJ.LS MX.LS z1I LJ.list;decide,by decide,(ad.trans af).Kz ax (fun j e=>by omega)⟩
 ·rw[e];refine qV (Lt z6a ME rfl rfl (by omega)) (qV (La (news:=PO z1n) Vq rfl ME rfl (KP.cells (i:=0+1*5) (n:=5) ak rfl) rfl) (KR rfl (Lo (news:=PO z1n) ME rfl rfl rfl rfl gP (by simp)) ?_));rintro w3 ⟨ar,ax⟩;refine py (L8 Tryz.func25 (.cell Vq rfl ME rfl (KP.cells (n:=5) ar (news:=[_,_,_,_,_]) rfl) rfl .nil) ?_);exact⟨_,rfl,z1n,rfl,by unfold LJ.LS MX.LS z1n LJ.list;decide,by decide,(ad.trans af).Kz ax (fun j e=>by omega)⟩
 ·rw[e];refine qV (Lt z6a ME rfl rfl (by omega)) (qV (La (news:=PO z1F) Vq rfl ME rfl (KP.cells (i:=0+2*5) (n:=5) ak rfl) rfl) (KR rfl (Lo (news:=PO z1F) ME rfl rfl rfl rfl gP (by simp)) ?_));rintro w3 ⟨ar,ax⟩;refine py (L8 Tryz.func25 (.cell Vq rfl ME rfl (KP.cells (n:=5) ar (news:=[_,_,_,_,_]) rfl) rfl .nil) ?_);exact⟨_,rfl,z1F,rfl,by unfold LJ.LS MX.LS z1F LJ.list;decide,by decide,(ad.trans af).Kz ax (fun j e=>by omega)⟩
theorem TZ {Q:MP}{txt:Int→Bytes}{K:Nat}{X:Nat→Prop}{w:World}(h:Sp Q txt K X w):Le Tryz.prog 13 [ptr Q.s 0] w fun v w'=>∃a b c d e:Value,v= .agg #[a,b,c,d,e,I 0,I 0]∧Ext w w':=by
 obtain⟨P,hm,hI,hs,hf⟩:=h
 rw[←hs.s]
 have hB:=hm.cells
 refine KA (e:=[(0,_)]) Tryz.func13 rfl Tryz.ntmps13 rfl rfl (qN rfl (KL rfl rfl (MN (cs:=[_,_,_,_,_,_,_]) W3 rfl) ?_))
 rintro _ w1 ⟨b2,rfl,bM,ad,ai⟩
 have tS:=ad.KD hB
 refine py (run_seq (qN rfl (An rfl (qV (LO RR rfl rfl) (py (Kx rfl (It (qN rfl (An rfl (qV (KZ rfl) (qV (KK Sc rfl) (qV (La (news:=[I (P.fr:Int),I P.h,I P.mi,I P.wr,I 0,I 0,I 0]) U48 rfl W3 rfl (KP.cells (i:=4) (n:=7) tS rfl) rfl) (KL rfl rfl (MN (cs:=[_,_,_,_,_,_,_]) W3 rfl) ?_)))))))))))))
 rintro _ w2 ⟨b3,rfl,eL,af,ak⟩
 refine KR rfl (Lo (news:=[I (P.fr:Int),I P.h,I P.mi,I P.wr,I 0,I 0,I 0]) W3 rfl rfl rfl rfl ak (by simp)) ?_
 rintro w3 ⟨ar,ax⟩
 replace ar:KP w3 b3 [I (P.fr:Int),I P.h,I P.mi,I P.wr,I 0,I 0,I 0] 48:=ar
 have aX:Ext w1 w3:=af.Kz ax (fun j e=>by omega)
 have c6:=ad.trans aX
 have fN:=c6.KD hB
 have wZ:=hm.mp.ext c6
 have cU:=aX.KD ai
 have z1:=ad.size
 have z2:=af.size
 have l1:=ai.lt
 refine qM rfl (An rfl (qV (KZ rfl) (qV (KK TJ rfl) (qV (KJ U90 rfl rfl fN rfl) (qV (zbk U90 rfl wZ.l) (qV (KK z8g rfl) (KR rfl (Mn LC rfl rfl rfl ar (by simp)) ?_)))))))
 rintro w4 ⟨aI,av⟩
 have cC:=av.KD cU (by omega)
 replace aI:KP w4 b3 [I (P.fr:Int),I P.h,I P.mi,I P.wr,I ((PL P.l).length:Int),I 0,I 0] 48:=aI
 refine qM rfl (qV (La (news:=[I (P.fr:Int),I P.h,I P.mi,I P.wr,I ((PL P.l).length:Int),I 0,I 0]) U48 rfl W3 rfl (KP.cells (i:=0) (n:=7) aI rfl) rfl) (KR rfl (Lo (news:=[I (P.fr:Int),I P.h,I P.mi,I P.wr,I ((PL P.l).length:Int),I 0,I 0]) W3 rfl rfl rfl rfl cC (by simp)) ?_))
 rintro w5 ⟨aG,aj⟩
 refine py (L8 Tryz.func13 (.cell U48 rfl W3 rfl (KP.cells (n:=7) aG (news:=[_,_,_,_,_,_,_]) rfl) rfl .nil) ?_)
 exact⟨_,rfl,_,_,_,_,_,rfl,(c6.Kz av (fun j e=>by omega)).Kz aj (fun j e=>by omega)⟩
theorem YT {L:List Bool}{s n:Nat}{b:Bool}(h:s+n≤L.length)(i:Nat):(MV L s n b)[i]? =if s≤i∧i<s+n then some b else L[i]? :=by
 unfold MV
 have hl:(L.take s).length=s:=by rw[List.length_take];omega
 by_cases h1:i<s
 ·rw[if_neg (by omega),List.getElem?_append_left (by omega),List.getElem?_take_of_lt h1]
 ·rw[List.getElem?_append_right (by omega),hl];by_cases h2:i<s+n
  ·rw[if_pos (by omega),List.getElem?_append_left (by rw[List.length_replicate];omega),List.getElem?_replicate,if_pos (by omega)]
  ·rw[if_neg (by omega),List.getElem?_append_right (by rw[List.length_replicate];omega),List.length_replicate,List.getElem?_drop]
   congr 1
   omega
theorem XY {L:List Bool}{a n:Nat}(h:Pre L a)(hn:a+n≤L.length):Pre (MV L a n true) (a+n):=by
 have h2:=h.a2
 refine⟨by omega,by rw[MJ hn];exact hn,fun i h1 h3=>?_,fun i h1 h3=>?_⟩
 ·rw[YT hn];split
  ·rfl
  ·exact h.tk i h1 (by omega)
 ·rw[MJ hn] at h3;rw[YT hn,if_neg (by omega)];exact h.fr i (by omega) h3
theorem Zr {Q:MP}{txt:Int→Bytes}{K:Nat}{X:Nat→Prop}{w:World}(hP:Sp Q txt K X w)(hX:∀b,X b→b<w.heap.size)(hK:K≤90000000000)(x1:X 1)(x2:X 2)(hG:KP w 1 (Nu .gamma) 298)(hU:KP w 2 (Nu .unary) 298){g:List (List Nat)}(aw:N1 g)(aP:1≤g.length)(nw:g.length≤40){ga:Option Addr}{gc:Nat}(lN:GrM w (.slice ga g.length gc) g){p:LJ}(hp:p.LS)(hz:p.zeta≤3){a:Nat}(ha:Pre Q.L a)(gG:a+72≤Q.L.length):
  Le Tryz.prog 24 [ptr Q.s 0,.slice ga g.length gc,bpV p] w fun v w'=>∃(G:GwP) (txt':Int→Bytes),v= .tuple #[ptr G.k 0,.bool true]∧G.g=g∧G.st=a∧G.len≤72∧1≤G.len∧(w.heap.size≤G.k∧w.heap.size≤G.x∧w.heap.size≤G.rb)∧NU G (Q.Mi (MV Q.L a G.len true)) txt' (K+200) (fun j=>X j∨j=G.x∨j=G.k) w'∧(∀y:Int,y<(a:Int)∨(a:Int)+(G.len:Int)≤y→txt' y=txt y)∧Kp (fun b=>¬X b) w w':=by
 have dR:=hP.n
 refine KA (e:=[(0,_),(1,_),(2,_)]) Tryz.func24 rfl Tryz.ntmps24 rfl rfl (qN rfl (KL rfl rfl (Mz rfl (cs:=PO p) rfl) ?_))
 rintro _ w1 ⟨bp,rfl,Kk,ad,ov⟩
 refine KE rfl (KE rfl (qM rfl (An rfl (qV (La (news:=PO p) Vq rfl ME rfl (KP.cells (i:=0) (n:=5) ov rfl) rfl) (L2 [.tmp 16,.tmp 17] zcY rfl (z00 hp aw aP (lN.ext ad) (ad.KD hG) (ad.KD hU)) ?_)))))
 rintro _ w2 ⟨E,J7,rfl,af⟩
 have yG:NK p g E:=⟨hp,aw,aP,J7⟩
 have J8:=z5x yG nw hz
 obtain⟨T,hT⟩:∃T,S1 p g E=T:=⟨_,rfl⟩
 rw[hT] at J8⊢
 have aL:=ad.trans af
 have ek:=hP.ext' aL
 refine An rfl (qV (Ll rfl rfl) (qV (Ll rfl rfl) (KE rfl (KE rfl (py (run_seq (qN rfl (An rfl (qV (LQ rfl rfl) (py (Kx rfl (It (qN rfl ?_)))))))))))))
 refine An rfl (L2 [.tmp 24] YG rfl (ek.size) ?_)
 rintro _ w2 ⟨rfl,rfl⟩
 refine An rfl (qV (QE U9 rfl) (L2 [.tmp 25,.tmp 27] zcD rfl (XF T.length (by omega) _) ?_))
 rintro _ w2 ⟨rfl,rfl⟩
 obtain⟨N,hN⟩:∃N,(T.length+523) / 512=N:=⟨_,rfl⟩
 rw[hN]
 have ls:1≤N∧N≤72∧T.length≤N*512-12:=by omega
 refine An rfl (qV (Ll rfl rfl) (qV (Ll rfl rfl) (KE rfl (KE rfl (py (Lc.qb (e:=[(0,_),(6,_),(7,_),(8,_),(9,_),(10,_)]) ?_))))))
 refine run_seq (qN rfl (An rfl (qV (LQ rfl rfl) ?_)))
 have fW:∀b,X b→b<w2.heap.size:=fun b hb=>by have:=hX b hb;have:=aL.size;omega
 refine py (Kx rfl (It (qN rfl (An rfl (An rfl (L2 [.tmp 34,.tmp 35] zby rfl (ek.take fW ha ls.1 (by omega)) ?_))))))
 rintro _ w3 ⟨rfl,ff,ax⟩
 have eM:(MV Q.L a N true).length=Q.L.length:=MJ (by omega)
 obtain⟨Q3,zn⟩:∃Q3,Q.Mi (MV Q.L a N true)=Q3:=⟨_,rfl⟩
 rw[zn] at ff
 have tt:Q3.s=Q.s:=by rw[←zn];rfl
 have Kl:Q3.L.length=Q.L.length:=by rw[←zn];exact eM
 rw[←tt]
 have z3:=ax.size
 have nQ:∀b,X b→b<w3.heap.size:=fun b hb=>by have:=fW b hb;omega
 refine An rfl (qV (Ll rfl rfl) (qV (Ll rfl rfl) (KL rfl rfl (MN (cs:=[_,_]) NL rfl) ?_)))
 rintro _ w4 ⟨be,rfl,EW,aB,ew⟩
 refine KR rfl (Lo (news:=[I (a:Int),I (N:Int)]) NL rfl rfl rfl rfl ew (by simp)) ?_
 rintro w5 ⟨nx,aj⟩
 replace nx:KP w5 be [I (a:Int),I (N:Int)] 97:=nx
 have cb:Ext w3 w5:=aB.Kz aj (fun j e=>by omega)
 refine KE rfl (py (run_seq (qN rfl (An rfl (qV (LQ rfl rfl) ?_)))))
 have gB:Sp Q3 txt K (fun b=>X b∨b=be) w5:=ff.ext cb (fun b e=>e.imp id fun e=>by omega)
 refine py (Kx rfl (It (qN rfl (An rfl (qV (La (news:=[I (a:Int),I (N:Int)]) U97 rfl NL rfl (KP.cells (i:=0) (n:=2) nx rfl) rfl) (L2 [.tmp 42,.tmp 43] zcx rfl (XH gB ls.1 (by omega)) ?_))))))
 rintro _ w6 ⟨wb,bs,bx,bw,sum,rfl,ge,xW,⟨z1',z2',z3',z4'⟩,aK⟩
 have z5:=cb.size
 have z6:=aK.size
 have lbe:=nx.lt
 obtain⟨X6,lw⟩:∃X6:Nat→Prop,(fun b=>X b∨b=be∨b=wb∨b=bs∨b=bx∨b=bw)=X6:=⟨_,rfl⟩
 have gy:∀b,X b→X6 b:=fun b hb=>by rw[←lw];exact .inl hb
 have aZ:X6 wb∧X6 bs∧X6 bx∧X6 bw:=by rw[←lw];exact⟨.inr (.inr (.inl rfl)),.inr (.inr (.inr (.inl rfl))),.inr (.inr (.inr (.inr (.inl rfl)))),.inr (.inr (.inr (.inr (.inr rfl))))⟩
 have Dz:X6 be:=by rw[←lw];exact .inr (.inl rfl)
 have pj:Sp Q3 txt K X6 w6:=gB.ext aK (fun b e=>by
  rw[←lw] at e;rcases e with e|e| e
  ·exact .inl (.inl e)
  ·exact .inl (.inr e)
  ·exact .inr (by omega))
 have l1:=xW.wr.lt
 have l2:=xW.sb.lt
 have l3:=xW.xb.lt
 have l4:=xW.pb.lt
 have pz:∀b,X6 b→b<w6.heap.size:=fun b e=>by
  rw[←lw] at e;rcases e with e| e
  ·have:=nQ b e;omega
  ·omega
 have DA:be≠wb:=by omega
 refine An rfl (qV (Ll rfl rfl) (qV (Ll rfl rfl) (KE rfl (KE rfl (py (run_seq (qN rfl (An rfl (qV (LQ rfl rfl) (An rfl (An rfl (An rfl (L2 [.tmp 50,.tmp 51] zdq rfl (YX pj pz (by omega) xW ge aZ (by omega) ls.1 ls.2.2) ?_)))))))))))))
 rintro _ w7 ⟨rfl,sum7,qm,txt7,rest,xy,gQ,gK,DB,DC,aA,qI⟩
 have z7:=aA.size
 refine qV (LQ rfl rfl) (qV (Lk rfl rfl) (An rfl (An rfl (L2 [.tmp 56] zcW rfl (YV xy (fun b e=>by have:=pz b e;omega) (by omega) gQ qm aZ (by omega) hN.symm (by rw[show T.length%512=T.length-512*(T.length / 512) by omega];exact gK) (fun b hb e=>by have:=pz b e;have:=qI b hb;omega) DB) ?_))))
 rintro _ w8 ⟨rfl,txt8,nS,DD,DE,xL,bj⟩
 have z8:=bj.size
 have o9:Kp (fun b=>¬X6 b∨b=wb) w6 w8:=aA.trans bj
 have DF:=o9.KD (aK.KD nx) (fun e=>e.elim (fun e=>e Dz) DA)
 refine qV (LQ rfl rfl) (qV (Lk rfl rfl) (py (Lc.qb (e:=[(0,_),(6,_),(7,_),(9,_),(11,_),(59,_)]) ?_)))
 refine Kx rfl (It (qN rfl (An rfl (qV (La (news:=[I (a:Int),I (N:Int)]) U97 rfl NL rfl (KP.cells (i:=0) (n:=2) DF rfl) rfl) (L2 [.tmp 61,.tmp 62] zcz rfl (ZK nS (fun b e=>by have:=pz b e;omega) (by omega) ls.1 (by omega) ls.2.2 qm DE) ?_)))))
 rintro _ w9 ⟨rb,rfl,xX,Ap,qj,aJ⟩
 have z9:=aJ.size
 have lrb:=xX.lt
 have hL:Laid txt8 a T:=Laid.of fun k hk=>⟨qj.VV (by omega) (by omega),DD k hk⟩
 subst hT
 have hO:StO Q3 txt8 (K+(S1 p g E).length / 512+2) a N (S1 p g E):=⟨by omega,by omega,hL,by omega⟩
 have qU:Kp (fun b=>¬X b) w w6:=(aL.kp.trans ax).trans (cb.trans aK).kp
 have m8:Kp (fun b=>¬X b) w w8:=qU.Kz o9 fun b e=>by
  rcases e with e| e
  ·exact .inr fun e2=>e (gy b e2)
  ·exact .inl (by have:=aL.size;omega)
 have lC:Kp (fun b=>¬X b) w w9:=m8.trans (aJ.KT fun b e e2=>e (gy b e2))
 have z2:=aL.size
 have pn:¬X rb:=fun e=>by have:=hX rb e;omega
 have hI:(z3C hO rb sum7).inv X w9:=⟨qj.less (fun b e=>e.imp (gy b) id),xX,pn⟩
 refine An rfl (qV (Ll rfl rfl) (qV (Ll rfl rfl) (KE rfl (KE rfl (py (run_seq (qN rfl (An rfl (qV (LQ rfl rfl) (py (Kx rfl (It (qN rfl ?_)))))))))))))
 refine An rfl (L2 [.tmp 69] zd0 rfl (z0h yG hO hI (fun b e=>by have:=hX b e;omega) x1 x2 (lC.KD hG (fun e=>e x1)) (lC.KD hU (fun e=>e x2))) ?_)
 rintro _ w10 ⟨k,x,rfl,x9,ly,J9,au⟩
 refine An rfl (qV (Ll rfl rfl) (qV (Ll rfl rfl) (KE rfl (KE rfl (qM rfl (An rfl (An rfl (qV (Mc rfl rfl) (MC (An rfl (An rfl (qV (z5d Z0 rfl rfl) (qV (LK rfl rfl) ?_)))))))))))))
 refine KE rfl (KE rfl (py (Lc.qb (e:=[(6,_),(7,_)]) ?_)))
 refine KG Tryz.func24 rfl (⟨_,rfl,⟨p,g,E,a,N,rb,sum7,k,x⟩,txt8,rfl,rfl,rfl,ls.2.1,ls.1,⟨by show w.heap.size≤k;omega,by show w.heap.size≤x;omega,by show w.heap.size≤rb;omega⟩,?_,fun y hy=>?_,lC.trans au⟩)
 ·rw[zn];exact NU.more (G:=⟨p,g,E,a,N,rb,sum7,k,x⟩) ⟨hO,J9⟩ (by omega) (by omega)
 ·show txt8 y=txt y;have hy:y<(a:Int)∨(a:Int)+(N:Int)≤y:=hy;rw[xL y hy,DC y (by omega)]
structure Wd where
 d:Nat
 Q:MP
 txt:Int→Bytes
 K:Nat
 G:GwP
 T:GwP
 a:Nat
def Wd.v (W:Wd):List Value:=[ptr W.d 0,ptr W.Q.s 0,ptr W.G.k 0,ptr W.T.k 0,I ((200-W.a:Nat):Int)]
structure WdM (W:Wd)(g:List (List Nat))(XX:Nat→Prop)(w:World):Prop where
 hg:NU W.G W.Q W.txt W.K (fun b=>XX b∧b≠W.G.rb) w
 ht:NU W.T W.Q W.txt W.K (fun b=>XX b∧b≠W.T.rb) w
 gg:W.G.g=g
 tg:W.T.g=RG g
 pre:Pre W.Q.L W.a
 a:W.a≤146
 L:W.Q.L.length=200
 K:W.K≤400
 gs:W.G.st+W.G.len≤W.T.st
 ts:W.T.st+W.T.len≤W.a
theorem z1p {w:World}{g:List (List Nat)}(aw:N1 g)(aP:1≤g.length)(nw:g.length≤40){ga:Option Addr}{gc:Nat}(lN:GrM w (.slice ga g.length gc) g)(hG:KP w 1 (Nu .gamma) 298)(hU:KP w 2 (Nu .unary) 298)(fr fo:Int)(lL: -9223372036854775808≤fr∧fr≤9223372036854775807)(DG: -9223372036854775808≤fo∧fo≤9223372036854775807):
  Le Tryz.prog 8 [.slice ga g.length gc,I fr,I fo] w fun v w'=>∃(W:Wd) (XX:Nat→Prop),v= .tuple #[.agg W.v.toArray,.bool true]∧WdM W g XX w'∧Ext w w'∧∀b,b<w.heap.size→XX b∧b≠W.G.rb∧b≠W.T.rb:=by
 have r1:=P8 fr 12 (by decide)
 have r2:=Ri fr 12 (by decide)
 have l1:=hG.lt
 have l2:=hU.lt
 refine KA (e:=[(0,_),(1,_),(2,_)]) Tryz.func8 rfl Tryz.ntmps8 rfl rfl (qN rfl (KL rfl rfl (MN (cs:=[_,_,_,_,_]) YN rfl) ?_))
 rintro _ w1 ⟨bW,rfl,Km,ad,FF⟩
 have z1:=ad.size
 have lW:=FF.lt
 refine KE rfl (qM rfl (qV (Nc (parts:=[(0,.const (Value.int .i64 200)),(1,.const (Value.int .i64 1))]) (cs:=[_,_]) z4k rfl zdn rfl rfl) (L2 [.tmp 19] zcP rfl (z6b 200 1 _ (by unfold Uh;decide)) ?_)))
 rintro _ w2 ⟨d,Fd,rfl,hD,af,Ja⟩
 refine An rfl (qV (Ll rfl rfl) (qV (Ll rfl rfl) (KE rfl (KE rfl (qM rfl (L2 [.const (Value.int .i64 2),.const (Value.int .i64 200)] zcF rfl (z29 200 (by decide) _) ?_))))))
 rintro _ w3 ⟨m,gi,rfl,hE,hm,rR,ah⟩
 have z2:=af.size
 have z3:=ah.size
 have Jb:=hD.ext ah
 refine An rfl (qV (Ll rfl rfl) (qV (Ll rfl rfl) (KE rfl (KE rfl (qM rfl (An rfl (An rfl (qV (yrt rfl rfl (by decide)) (Lz rfl rfl (qV (yrt rfl rfl (by decide)) ?_))))))))))
 rw[show(fr.tmod 12+12).tmod 12=ZS fr 12 from rfl]
 obtain⟨nf,Jc,DH,Jd⟩:∃nf:Nat,1+ZS fr 12=(nf:Int)∧1≤nf∧nf≤12:=⟨(1+ZS fr 12).toNat,by omega,by omega,by omega⟩
 refine Lz rfl rfl ?_
 rw[Jc]
 have gz:(List.replicate 200 false).length=200:=List.length_replicate
 have Je:¬Fd m∧¬Fd gi:=⟨fun e=>by have:=hD.lt _ e;omega,fun e=>by have:=hD.lt _ e;omega⟩
 refine An rfl (L2 [.tmp 28,.tmp 33,.tmp 34] zd6 rfl (z2k (L:=List.replicate 200 false) (by rw[gz];exact Jb) hE Je nf DH (by omega)) ?_)
 rintro _ w4 ⟨P,rfl,hM,hI,Jf,Jg,FG,Jh,aB⟩
 have z4:=aB.size
 have cF:Ext w w4:=((ad.trans af).trans ah).trans aB
 have DI:=((af.trans ah).trans aB).KD FF
 obtain⟨X,hX⟩:∃X:Nat→Prop,(fun b=>b<w.heap.size∨b=bW)=X:=⟨_,rfl⟩
 have DJ:∀b,X b→b<w1.heap.size:=fun b e=>by rw[←hX] at e;omega
 have ny:∀b,b<w.heap.size→X b:=fun b e=>by rw[←hX];exact .inl e
 have zo:X bW:=by rw[←hX];exact .inr rfl
 have kD:Sp P (fun _=>zeros 512) 0 X w4:=⟨P,hM,hI,⟨rfl,rfl,rfl,rfl,rfl,rfl,rfl,rfl,rfl⟩,fun b hb e=>by
  have:=DJ b e;rcases Jh b hb with e|e|e| e
  ·have:=Ja b e;omega
  ·omega
  ·omega
  ·omega⟩
 have kz:Pre P.L 2:=by
  rw[FG];exact⟨Nat.le_refl _,by rw[gz];omega,fun i h1 h2=>by omega,fun i h1 h2=>by rw[gz] at h2;rw[List.getElem?_replicate,if_pos h2]⟩
 have Kn:P.L.length=200:=by rw[FG,gz]
 refine An rfl (qV (Ll rfl rfl) (qV (Ll rfl rfl) (KE rfl (KE rfl (py (Lc.qb (e:=[(0,_),(2,_),(6,_),(7,_),(8,_),(9,_),(10,_),(11,_),(12,_),(13,_)]) ?_))))))
 refine run_seq (qN rfl (An rfl (qV (LQ rfl rfl) (Lq (An rfl (An rfl (qV (LQ rfl rfl) (Lq (qV (Lk rfl rfl) (An rfl (An rfl (qV (LQ rfl rfl) (Lq ?_)))))))))))))
 refine qV (Lk rfl rfl) (An rfl (An rfl (qV (LO RR rfl rfl) (qV (Lk rfl rfl) (py (Kx rfl (It (qN rfl (An rfl (An rfl (An rfl (L2 [.tmp 56] zcb rfl (Ys fo DG _) ?_))))))))))))
 rintro _ w5 ⟨p1,rfl,Ar,lV,aR⟩
 have z5:=aR.size
 have bz:=cF.trans aR
 have Ji:∀b,X b→b<w5.heap.size:=fun b e=>by have:=DJ b e;omega
 refine L2 [.tmp 54,.tmp 55,.tmp 57] zc2 rfl (Zr (kD.ext' aR) Ji (by omega) (ny 1 l1) (ny 2 l2) (bz.KD hG) (bz.KD hU) aw aP nw (lN.ext bz) Ar lV kz (by omega)) ?_
 rintro _ w6 ⟨G,txt6,rfl,Jj,Ko,Kq,Jk,⟨n1,n2,n3⟩,f7,Kr,aS⟩
 have gY:Ext w w6:=bz.Kz aS (fun b e=>by
  rcases Nat.lt_or_ge b w.heap.size with h| h
  ·exact absurd (ny b h) e
  ·exact h)
 have z6:=aS.size
 have DK:=aS.KD (aR.KD DI) (fun e=>e zo)
 have Du:(MV P.L 2 G.len true).length=P.L.length:=MJ (by omega)
 have nz:Pre (MV P.L 2 G.len true) (2+G.len):=XY kz (by omega)
 obtain⟨Q6,DL⟩:∃Q6,P.Mi (MV P.L 2 G.len true)=Q6:=⟨_,rfl⟩
 have DM:Q6.L=MV P.L 2 G.len true:=by rw[←DL];rfl
 have sT:Q6.s=P.s∧Q6.d=P.d∧Q6.m=P.m:=by rw[←DL];exact⟨rfl,rfl,rfl⟩
 rw[DL] at f7
 rw[←DM] at Du nz
 obtain⟨gb,go,gc',je,DN⟩:=lN.r aP
 cases je
 refine An rfl (qV (Ll rfl rfl) (qV (Ll rfl rfl) (KE rfl (KE rfl (py (Lc.qb (e:=[(0,_),(2,_),(6,_),(7,_),(8,_),(10,_),(12,_),(14,_),(15,_)]) ?_))))))
 refine qN rfl (An rfl (An rfl (L2 [.tmp 63] zdo rfl (ZM aw (DN.ext gY)) ?_)))
 rintro _ w7 ⟨bt,rfl,Jl,bL⟩
 have gd:=gY.trans bL
 have z7:=bL.size
 have ql:=f7.ext bL
 have m9:=Sx g
 refine An rfl (qV (z5a rfl rfl) ?_)
 obtain⟨fo2,xY⟩:∃z,IntKind.i64.wrap (fo+1)=z:=⟨_,rfl⟩
 have xZ: -9223372036854775808≤fo2∧fo2≤9223372036854775807:=by
  rw[←xY,IntKind.wrap_i64];omega
 rw[xY]
 refine L2 [.tmp 66] zcb rfl (Ys fo2 xZ _) ?_
 rintro _ w8 ⟨p2,rfl,rg,nE,cE⟩
 have z8:=cE.size
 have bF:=ql.ext cE
 have sU:=gd.trans cE
 obtain⟨X2,fW⟩:∃X2:Nat→Prop,(fun b=>(X b∨b=G.x∨b=G.k)∨b=G.rb)=X2:=⟨_,rfl⟩
 have gU:∀b,X b→X2 b:=fun b e=>by rw[←fW];exact .inl (.inl e)
 have nS:Sp Q6 txt6 (0+200) X2 w8:=by rw[←fW];exact bF.sp
 have DO:∀b,X2 b→b<w8.heap.size:=fun b e=>bF.lt1 b (by rw[←fW] at e;exact e)
 have DP:GrM w8 (.slice (some ⟨bt,0,none⟩) (RG g).length (RG g).length) (RG g):=(Jl.ext cE).gr
 have nJ:=Zr nS DO (by omega) (gU _ (ny 1 l1)) (gU _ (ny 2 l2)) (sU.KD hG) (sU.KD hU) (z4I aw) (by omega) (by omega) DP rg nE nz (by omega)
 rw[sT.1,m9] at nJ
 refine L2 [.tmp 62,.tmp 64,.tmp 67] zc2 rfl (nJ) ?_
 rintro _ w9 ⟨T,txt9,rfl,Jm,Ks,Kt,Jn,⟨t1,t2,t3⟩,cO,DQ,aJ⟩
 have z9:=aJ.size
 have fI:Ext w w9:=sU.Kz aJ (fun b e=>by
  rcases Nat.lt_or_ge b w.heap.size with h| h
  ·exact absurd (gU b (ny b h)) e
  ·exact h)
 have DR:=aJ.KD ((bL.trans cE).KD DK) (fun e=>e (gU _ zo))
 have FH:(MV Q6.L (2+G.len) T.len true).length=Q6.L.length:=MJ (by omega)
 have nA:Pre (MV Q6.L (2+G.len) T.len true) (2+G.len+T.len):=XY nz (by omega)
 obtain⟨Q9,DS⟩:∃Q9,Q6.Mi (MV Q6.L (2+G.len) T.len true)=Q9:=⟨_,rfl⟩
 have DT:Q9.L=MV Q6.L (2+G.len) T.len true:=by rw[←DS];rfl
 have sV:Q9.s=Q6.s∧Q9.d=Q6.d∧Q9.m=Q6.m:=by rw[←DS];exact⟨rfl,rfl,rfl⟩
 rw[DS] at cO
 rw[←DT] at FH nA
 have y4:=cO.sp
 have sW:=cO.lt1
 have Jo:NU G Q9 txt9 (0+200+200) (fun b=>(X b∨b=G.x∨b=G.k)∨b=T.x∨b=T.k∨b=T.rb) w9:=bF.zab aJ (fun b e=>by rw[←fW] at e;exact e) (fun j e=> .inl e) (fun j e=>e.imp id fun e=>by
   have h1:=sW T.x (.inl (.inr (.inl rfl)));have h2:=sW T.k (.inl (.inr (.inr rfl)));have h3:=sW T.rb (.inr rfl)
   omega) (y4.less fun b e=>by
   rw[←fW];rcases e with(e|e|e|e)| e
   ·exact .inl (.inl (.inl e))
   ·exact .inl (.inr (.inl e))
   ·exact .inl (.inr (.inr e))
   ·exact .inr e
   ·exact .inl (.inl (.inr e))) sV.1 FH (by omega) (fun y h1 h2=>DQ y (.inl (by omega)))
 have gG:=y4.room nA (by omega)
 rw[sV.2.2,sT.2.2,Jf] at gG
 refine An rfl (qV (Ll rfl rfl) (qV (Ll rfl rfl) (KE rfl (KE rfl (qM rfl (An rfl (An rfl (An rfl (An rfl (An rfl (L2 [.tmp 75] zcn rfl (gG) ?_)))))))))))
 rintro _ w10 ⟨rfl,bB⟩
 have y5:=bB.KD DR
 rw[show Q9.L.length-(2+G.len+T.len)=200-(2+G.len+T.len) by omega]
 refine qV (Nc (parts:=[(0,.tmp 71),(1,.tmp 72),(2,.tmp 73),(3,.tmp 74),(4,.tmp 76)]) (cs:=[_,_,_,_,_]) YN rfl zcp rfl rfl) (An rfl (An rfl (An rfl (qV (LK rfl rfl) (KR rfl (Lo (news:=[_,_,_,_,_]) YN rfl rfl rfl rfl y5 (by simp)) ?_)))))
 rintro w11 ⟨y6,aM⟩
 refine KE rfl (py (Lc.qb (e:=[(6,_),(7,_)]) ?_))
 refine L8 Tryz.func8 (.cell U30 rfl YN rfl (KP.cells (n:=5) y6 (news:=[_,_,_,_,_]) rfl) rfl (.tmp rfl .nil)) ?_
 obtain⟨XX,gy⟩:∃XX:Nat→Prop,(fun b=>X b∨b=G.x∨b=G.k∨b=G.rb∨b=T.x∨b=T.k∨b=T.rb)=XX:=⟨_,rfl⟩
 have FI:=bF.rbX
 have FJ:=cO.rbX
 have xH:=bF.xk
 have FK:=cO.xk
 have zG:=bF.lt1 _ (.inr rfl)
 have zGk:=bF.lt1 _ (.inl xH.1)
 have zGx:=bF.lt1 _ (.inl xH.2.1)
 have ld:∀b,X b→b<w1.heap.size:=DJ
 have DU:NU G Q9 txt9 400 (fun b=>XX b∧b≠G.rb) w11:=by
  refine NU.less (Y:=fun b=>(X b∨b=G.x∨b=G.k)∨b=T.x∨b=T.k∨b=T.rb) ((Jo.ext bB).own aM fun j e=>?_) (fun b e=>?_) ?_
  ·subst e;exact⟨.inl (.inl zo),by omega,by omega,by omega,by omega⟩
  ·rw[←gy] at e;rcases e with⟨e|e|e|e|e,h⟩
   ·exact .inl (.inl e)
   ·exact .inl (.inr (.inl e))
   ·exact .inl (.inr (.inr e))
   ·exact absurd e h
   ·exact .inr e
  ·rw[←gy];exact⟨⟨.inr (.inr (.inl rfl)),fun e=>FI (e▸xH.1)⟩,⟨.inr (.inl rfl),fun e=>FI (e▸xH.2.1)⟩,⟨.inl (ny 1 l1),by omega⟩,⟨.inl (ny 2 l2),by omega⟩⟩
 have DV:NU T Q9 txt9 400 (fun b=>XX b∧b≠T.rb) w11:=by
  refine NU.less (Y:=fun j=>X2 j∨j=T.x∨j=T.k) ((cO.ext bB).own aM fun j e=>?_) (fun b e=>?_) ?_
  ·subst e;exact⟨.inl (gU _ zo),by omega,by omega,by omega,by omega⟩
  ·rw[←gy] at e;rw[←fW];rcases e with⟨e|e|e|e|e|e|e,h⟩
   ·exact .inl (.inl (.inl e))
   ·exact .inl (.inl (.inr (.inl e)))
   ·exact .inl (.inl (.inr (.inr e)))
   ·exact .inl (.inr e)
   ·exact .inr (.inl e)
   ·exact .inr (.inr e)
   ·exact absurd e h
  ·rw[←gy];exact⟨⟨.inr (.inr (.inr (.inr (.inr (.inl rfl))))),fun e=>FJ (e▸FK.1)⟩,⟨.inr (.inr (.inr (.inr (.inl rfl)))),fun e=>FJ (e▸FK.2.1)⟩,⟨.inl (ny 1 l1),by omega⟩,⟨.inl (ny 2 l2),by omega⟩⟩
 refine⟨_,rfl,⟨d,Q9,txt9,400,G,T,2+G.len+T.len⟩,XX,?_,⟨DU,DV,Jj,Jm,nA,?_,?_,?_,?_,?_⟩,?_,fun b hb=>⟨by rw[←gy];exact .inl (ny b hb),fun e=>?_,fun e=>?_⟩⟩
 ·unfold Wd.v;rw[sV.1,sT.1]
  rfl
 ·show 2+G.len+T.len≤146;omega
 ·show Q9.L.length=200;omega
 ·exact Nat.le_refl _
 ·show G.st+G.len≤T.st;omega
 ·show T.st+T.len≤2+G.len+T.len;omega
 ·exact(fI.trans bB).Kz aM fun b e=>by omega
 ·have e:b=G.rb:=e;omega
 ·have e:b=T.rb:=e;omega
theorem za8:N1 [[1],[2],[]]:=⟨fun l hl=>by
 simp only[List.mem_cons,List.not_mem_nil,or_false] at hl
 rcases hl with rfl|rfl|rfl<;>exact⟨by decide,by decide⟩,by decide,by decide⟩
theorem z2B {w:World}(hG:KP w 1 (Nu .gamma) 298)(hU:KP w 2 (Nu .unary) 298):Le Tryz.prog 9 [] w fun v w'=>v= .bool true∧Ext w w':=by
 refine KA (e:=[]) Tryz.func9 rfl Tryz.ntmps9 rfl rfl (qN rfl (KE rfl (qM rfl (KL rfl rfl (Tb (parts:=[(0,.const (Value.int .u32 1))]) (cs:=[_]) (zs:=[Value.int .u32 0]) L9 KY rfl (by kernel_rfl) rfl rfl rfl (by decide)) ?_))))
 rintro _ w1 ⟨b1,rfl,⟨bT,ad,ai⟩,j7⟩
 refine KL rfl rfl (Tb (parts:=[(0,.const (Value.int .u32 2))]) (cs:=[_]) (zs:=[Value.int .u32 0]) L9 KY rfl (by kernel_rfl) rfl rfl rfl (by decide)) ?_
 rintro _ w2 ⟨b2,rfl,⟨bM,af,ak⟩,cH⟩
 refine KL rfl rfl (Tb (parts:=[]) (cs:=[]) (zs:=[]) L9 KY rfl (by kernel_rfl) rfl rfl rfl (by decide)) ?_
 rintro _ w3 ⟨b3,rfl,⟨eL,ah,ar⟩,cI⟩
 refine KL rfl rfl (Tb (parts:=[(0,.tmp 14),(1,.tmp 15),(2,.tmp 16)]) (cs:=[_,_,_]) (zs:=[Value.slice none 0 0,Value.slice none 0 0,Value.slice none 0 0]) Rb OC rfl (by kernel_rfl) rfl rfl rfl (by decide)) ?_
 rintro _ w4 ⟨b4,rfl,⟨gA,aB,aI⟩,dP⟩
 have lN:GrM w4 (.slice (some ⟨b4,0,none⟩) 3 3) [[1],[2],[]]:=by
  refine⟨⟨_,dP.rd,fun i l hl=>?_⟩⟩
  match i,hl with
  | 0, hl =>
    cases hl
    exact⟨_,_,rfl,Nat.le_refl _,((j7.rd.ext af).ext ah).ext aB⟩
  | 1, hl =>
    cases hl
    exact⟨_,_,rfl,Nat.le_refl _,(cH.rd.ext ah).ext aB⟩
  | 2, hl =>
    cases hl
    exact⟨_,_,rfl,Nat.le_refl _,cI.rd.ext aB⟩
  |i+3,hl=>cases hl
 have cF:=((ad.trans af).trans ah).trans aB
 have z4:=cF.size
 refine L2 [.tmp 17,.const (Value.int .i64 1),.const (Value.int .i64 0)] cf8 rfl (z1p (g:=[[1],[2],[]]) za8 (by decide) (by decide) lN (cF.KD hG) (cF.KD hU) 1 0 (by decide) (by decide)) ?_
 rintro _ w5 ⟨W,XX,rfl,hW,aR,gy⟩
 have bz:=cF.trans aR
 have z5:=bz.size
 refine An rfl (qV (Ll rfl rfl) (qV (Ll rfl rfl) (KL rfl rfl (MN (cs:=[_,_,_,_,_]) YN rfl) ?_)))
 rintro _ w6 ⟨b6,rfl,nD,aK,aW⟩
 have z6:=aK.size
 refine KR rfl (Lo (news:=W.v) YN rfl rfl rfl rfl aW (by simp)) ?_
 rintro w7 ⟨bG,aA⟩
 have gJ:KP w7 b6 [ptr W.d 0,ptr W.Q.s 0,ptr W.G.k 0,ptr W.T.k 0,I ((200-W.a:Nat):Int)] 30:=bG
 have l7:=bG.lt
 have z7:=aA.size
 have i9:=aK.kp.trans aA
 have gu:=hW.hg.lt
 have ic:=hW.hg.xk
 have i1:=gu _ ic.1
 have i2:=gu _ ic.2.1
 have i3:=gu _ ic.2.2.1
 have i4:=gu _ ic.2.2.2
 have ql:NU W.G W.Q W.txt W.K (fun b=>(XX b∧b≠W.G.rb)∨b=b6) w7:=(hW.hg.grow aK (Y:=fun b=>(XX b∧b≠W.G.rb)∨b=b6) (fun j e=>e.imp id fun e=>by have:=aW.lt;omega) (fun j e=> .inl e)).own aA fun j e=>by subst e;exact⟨.inr rfl,by omega,by omega,by omega,by omega⟩
 have pA:∀b,b<w.heap.size→(XX b∧b≠W.G.rb)∨b=b6:=fun b hb=> .inl ⟨(gy b (by omega)).1,(gy b (by omega)).2.1⟩
 have ao:=hW.gg
 have eO:W.G.g.length=3:=by rw[ao];rfl
 have ha:=hW.a
 have hL:=hW.L
 have Jp:=hW.K
 have Jq:=hW.gs
 have sX:=hW.ts
 refine KE rfl (py (run_seq (qN rfl (An rfl (qV ((by first|exact LP rfl|exact Nq rfl)) ?_)))))
 refine py (Kx rfl (It (qN rfl (qV (KK Xh rfl) (qV (KJ RR rfl rfl gJ rfl) (qV (KK z3P rfl) (qV (KJ Z0 rfl rfl gJ rfl) (L2 [.tmp 25,.tmp 27,.const (Value.int .i64 0)] z9s rfl (WK ql (by omega) (by omega) hW.pre (by omega) (by omega) (root:=0) (by omega)) ?_))))))))
 rintro _ w8 ⟨rr,vb,txt8,rfl,kG,fd,h8,xL,bj⟩
 rw[eO,show(List.replicate 3 nv).set 0 0=[0,nv,nv] from rfl] at h8
 have s8:=Qo h8 (by omega) (by omega) (by decide)
 rw[ao,show Wi 0 [[1],[2],[]] [0,nv,nv]=([0,1,nv],true) by decide] at s8
 refine An rfl (qV (Ll rfl rfl) (qV (Ll rfl rfl) (KE rfl (KE rfl (py (run_seq (qN rfl (An rfl (qV (LQ rfl rfl) (py (Lc.qb (e:=[(0,_),(3,_),(32,_)]) ?_)))))))))))
 refine Kx rfl (It (qN rfl (An rfl (L2 [.tmp 34] z6P rfl (s8) ?_))))
 rintro _ w9 ⟨rfl,txt9,h9,DQ,aJ⟩
 have s9:=Qo h9 (by omega) (by omega) (by decide)
 rw[ao,show Wi (0+1) [[1],[2],[]] [0,1,nv]=([0,1,2],true) by decide] at s9
 refine An rfl (qV (Ll rfl rfl) (qV (Ll rfl rfl) (KE rfl (KE rfl (qM rfl (An rfl (L2 [.tmp 39] z6P rfl (s9) ?_)))))))
 rintro _ w10 ⟨rfl,txt10,fg,xO,au⟩
 have s10:=Qo fg (by omega) (by omega) (by decide)
 rw[ao,show Wi (0+1+1) [[1],[2],[]] [0,1,2]=([0,1,2],false) by decide] at s10
 refine An rfl (qV (Ll rfl rfl) (qV (Ll rfl rfl) (KE rfl (KE rfl (qM rfl (An rfl (L2 [.tmp 44] z6P rfl (s10) ?_)))))))
 rintro _ w11 ⟨rfl,txt11,m4,DW,aM⟩
 refine An rfl (qV (Ll rfl rfl) (qV (Ll rfl rfl) (KE rfl (KE rfl (qM rfl (An rfl (L2 [.tmp 49,.const (Value.int .i64 2)] z98 rfl (WI m4 (i:=2) (x:=2) rfl) ?_)))))))
 rintro _ w12 ⟨rfl,EB,aU⟩
 refine An rfl (qV (Ll rfl rfl) (qV (Ll rfl rfl) (KE rfl (KE rfl (py (Lc.qb (e:=[(0,_),(5,_),(7,_),(9,_),(11,_),(12,_)]) ?_))))))
 refine qN rfl (An rfl (qV ((by first|exact LP rfl|exact Nq rfl)) ?_))
 refine An rfl (An rfl (qV ((by first|exact LP rfl|exact Nq rfl)) ?_))
 refine qV (LK rfl rfl) (An rfl (An rfl (qV (LK rfl rfl) (An rfl (An rfl (qV (Mc rfl rfl) (qV (LK rfl rfl) (An rfl (An rfl (qV (Mc rfl rfl) (MC (qV (LK rfl rfl) (KE rfl ?_)))))))))))))
 refine py (KG Tryz.func9 rfl (⟨_,rfl,rfl,?_⟩))
 have DX:=bz.trans aK
 have Ku:∀b,b<w.heap.size→b≠rr:=fun b hb=>by omega
 refine(((((DX.Kz aA fun b e=>by omega).Kz bj fun b e=>?_).Kz aJ fun b e=>?_).Kz au fun b e=>?_).Kz aM fun b e=>?_).Kz aU fun b e=>?_
 all_goals rcases Nat.lt_or_ge b w.heap.size with h| h
 all_goals first|omega|skip
 ·exact absurd (pA b h) e
 ·exact e.elim (fun e=>absurd (.inl (pA b h)) e) (fun e=>by omega)
 ·exact e.elim (fun e=>absurd (.inl (pA b h)) e) (fun e=>by omega)
 ·exact e.elim (fun e=>absurd (.inl (pA b h)) e) (fun e=>by omega)
 ·exact absurd (.inl (.inl (pA b h))) e
section
variable {G:GwP}{w w':World}{Q:MP}{txt:Int→Bytes}{K:Nat}{X Y:Nat→Prop}{rr vb sv r:Nat}{s:T9}{aw:N1 G.g}
structure XQ (G:GwP)(Q:MP)(txt:Int→Bytes)(K:Nat)(X:Nat→Prop)(rr vb sv:Nat)(aw:N1 G.g)(r:Nat)(s:T9)(w:World):Prop where
 m:PR G Q txt K X rr vb sv s.t s.done (O6 s.d) w
 i:BfI G.g aw r s
 ok:Up s.d
 r:r<G.g.length
theorem Up.new {n r:Nat}:Up (T9.new n r).d:=fun u k hu=>by
 unfold T9.new at hu
 dsimp only at hu
 by_cases e:r=u
 ·subst e;rcases Nat.lt_or_ge r n with h| h
  ·rw[List.getElem?_set_self (by simpa using h)] at hu;cases hu;decide
  ·rw[List.getElem?_eq_none (by simpa using h)] at hu;cases hu
 ·rw[List.getElem?_set_ne e,List.getElem?_replicate] at hu;split at hu
  ·cases hu
  ·cases hu
theorem z2R {n r:Nat}:O6 (T9.new n r).d=(List.replicate n nv).set r 0:=by
 unfold O6 T9.new
 rw[List.map_set,List.map_replicate];rfl
theorem XQ.new (h:PR G Q txt K X rr vb sv 0 false ((List.replicate G.g.length nv).set r 0) w)(aw:N1 G.g)(hr:r<G.g.length):XQ G Q txt K X rr vb sv aw r (T9.new G.g.length r) w:=
 ⟨by rw[z2R];exact h,BfI.new aw hr,Up.new,hr⟩
theorem z0K (h:XQ G Q txt K X rr vb sv aw r s w)(hK:K≤800000000000)(hd:s.done=false):Le Tryz.prog 11 [ptr rr 0] w fun v w'=>v= .tuple #[.bool (s.step G.g).done,I 0]∧∃txt',XQ G Q txt' (K+3200) X rr vb sv aw r (s.step G.g) w'∧(∀y:Int,y<(sv:Int)∨(sv:Int)+1≤y→txt' y=txt y)∧Kp (fun b=>¬X b∨b=rr) w w':=by
 have hr:=h.r
 have ht:=h.i.zc7 h.r hd
 have hn:=h.m.n
 have hm:=h.m
 rw[hd] at hm
 have hl:=hm.len
 have hv:RD (O6 s.d).length 128=1:=by
  rw[hl];unfold RD;omega
 have y7:=Zn (t:=s.t) (show s.t+1<4294967295 by omega) G.g (List.range G.g.length) (p:=(s.d,false)) h.ok
 have e1:Wi s.t G.g (O6 s.d)=(O6 (W2 s.t G.g s.d).1,(W2 s.t G.g s.d).2):=y7.1
 have hs:=Qo hm hK (by omega) (by omega)
 rw[e1,hv] at hs
 refine hs.mono ?_
 rintro v w' ⟨rfl,txt',h',hy,hk⟩
 exact⟨rfl,txt',⟨h',h.i.step hd,y7.2,hr⟩,hy,hk⟩
def vN (o:Option Nat):Nat:=match o with
 |none=>18446744073709551615
 |some k=>k
theorem z2X (h:XQ G Q txt K X rr vb sv aw r s w)(hd:s.done=true){u:Nat}(hu:u<G.g.length):Le Tryz.prog 12 [ptr rr 0,I (u:Int)] w fun v w'=>v= .tuple #[KV (vN (dF s.d u)),I 0]∧XQ G Q txt K X rr vb sv aw r s w'∧Kp (fun b=>¬(X b∨b=G.rb)) w w':=by
 have hm:=h.m
 rw[hd] at hm
 have hl:=h.i.len
 have hg:s.d[u]? =some s.d[u]:=List.getElem?_eq_getElem (by omega)
 have hx:(O6 s.d)[u]? =some (dN s.d[u]):=by rw[Tz,hg];rfl
 refine(WI hm hx).mono ?_
 rintro v w' ⟨rfl,h',hk⟩
 refine⟨?_,⟨by rw[hd];exact h',h.i,h.ok,h.r⟩,hk⟩
 have e:(if dN s.d[u]=4294967295 then 18446744073709551615 else dN s.d[u])=vN (dF s.d u):=by
  unfold dF;rw[hg]
  cases ho:s.d[u] with
  |none=>rfl
  | some k =>
    have:=h.ok u k (by rw[hg,ho]);show(if k=4294967295 then 18446744073709551615 else k)=k;rw[if_neg (by have e:k<4294967296-1:=this;omega)]
 rw[e]
theorem XQ.grow (h:XQ G Q txt K X rr vb sv aw r s w)(hx:Ext w w')(bD:∀j,X j→Y j)(hY:∀j,Y j→X j∨(w.heap.size≤j∧j<w'.heap.size)):XQ G Q txt K Y rr vb sv aw r s w':=
 ⟨h.m.grow hx hY bD,h.i,h.ok,h.r⟩
end
section
variable {G:GwP}{w w':World}{Q:MP}{txt:Int→Bytes}{K:Nat}{X Y S':Nat→Prop}{rr vb sv r:Nat}{s:T9}{aw:N1 G.g}
theorem XQ.step (h:XQ G Q txt K X rr vb sv aw r s w)(hk:Kp S' w w')(hS:∀j,S' j→X j∧j≠G.k∧j≠G.x∧j≠1∧j≠2∧j≠rr∧j≠vb)(bD:∀j,X j→Y j)(hY:∀j,Y j→X j∨(w.heap.size≤j∧j<w'.heap.size)):XQ G Q txt K Y rr vb sv aw r s w':=
 ⟨⟨h.m.g.step hk (fun j e=>⟨(hS j e).1,(hS j e).2.1,(hS j e).2.2.1,(hS j e).2.2.2.1,(hS j e).2.2.2.2.1⟩) hY bD,hk.KD h.m.run (fun e=>(hS _ e).2.2.2.2.2.1 rfl),h.m.vec.kp hk (fun e=>(hS _ e).2.2.2.2.2.2 rfl),⟨bD _ h.m.xr.1,bD _ h.m.xr.2⟩,h.m.ne,h.m.Qu,h.m.len,h.m.n,h.m.t⟩,h.i,h.ok,h.r⟩
theorem XQ.lts (h:XQ G Q txt K X rr vb sv aw r s w):rr<w.heap.size∧vb<w.heap.size∧G.k<w.heap.size∧G.x<w.heap.size∧1<w.heap.size∧2<w.heap.size:=by
 have h1:=h.m.g.lt
 have h2:=h.m.g.xk
 exact⟨h1 _ h.m.xr.1,h1 _ h.m.xr.2,h1 _ h2.1,h1 _ h2.2.1,h1 _ h2.2.2.1,h1 _ h2.2.2.2⟩
end
structure R1 (g:List (List Nat))(s:T9)(v i:Nat)(nb:List Bool):Prop where
 len:nb.length=g.length
 z4f:∀x u k,(x<v∨(x=v∧u∈(KW g v).take i))→u∈KW g x→dF s.d x=some k→dF s.d u=some (k+1)→nb[u]? =some true
theorem R1.zero {g:List (List Nat)}{s:T9}:R1 g s 0 0 (List.replicate g.length false):=⟨by simp,fun x u k h=>by
 rcases h with h|⟨-,h⟩
 ·omega
 ·simp at h⟩
theorem R1.next {g:List (List Nat)}{s:T9}{v i:Nat}{nb:List Bool}(h:R1 g s v i nb)(hi:(KW g v).length≤i∨dF s.d v=none):R1 g s (v+1) 0 nb:=⟨h.len,fun x u k hx hu h1 h2=>by
 rcases hx with hx|⟨-,hx⟩
 ·by_cases e:x=v
  ·subst e;rcases hi with hi|hi
   ·exact h.z4f x u k (.inr ⟨rfl,by rw[List.take_of_length_le hi];exact hu⟩) hu h1 h2
   ·rw[hi] at h1;cases h1
  ·exact h.z4f x u k (.inl (by omega)) hu h1 h2
 ·simp at hx⟩
theorem R1.step {g:List (List Nat)}{s:T9}{v i u k j:Nat}{nb:List Bool}{b:Bool}(h:R1 g s v i nb)(Jr:(KW g v)[i]? =some u)(hv:dF s.d v=some k)(hu:dF s.d u=some j)(hb:b=true↔nb[u]? =some true∨j=k+1)(nu:u<g.length):R1 g s v (i+1) (nb.set u b):=⟨by rw[List.length_set];exact h.len,fun x y k' hx hy h1 h2=>by
 have hl:=h.len
 by_cases e:y=u
 ·subst e;rw[List.getElem?_set_self (by omega)]
  congr 1
  rw[hb];rcases hx with hx|⟨hx,hm⟩
  ·exact .inl (h.z4f x y k' (.inl hx) hy h1 h2)
  ·subst hx
   right
   rw[hv] at h1;rw[hu] at h2;cases h1;cases h2;rfl
 ·rw[List.getElem?_set_ne (fun e2=>e e2.symm)];refine h.z4f x y k' ?_ hy h1 h2;rcases hx with hx|⟨hx,hm⟩
  ·exact .inl hx
  ·refine .inr ⟨hx,?_⟩;rw[List.take_add_one,Jr] at hm;rcases List.mem_append.1 hm with hm|hm
   ·exact hm
   ·simp at hm;exact absurd hm e⟩
theorem along_ret {w : World}(hG : KP w 1 (Nu .gamma) 298)(hU : KP w 2 (Nu .unary) 298)(n root fr fo : Int)(hn : -9223372036854775808 ≤ n ∧ n ≤ 9223372036854775807)(iJ : -9223372036854775808 ≤ root ∧ root ≤ 9223372036854775807)(lL : -9223372036854775808 ≤ fr ∧ fr ≤ 9223372036854775807)(DG : -9223372036854775808 ≤ fo ∧ fo ≤ 9223372036854775807){ea : Option Addr}{ec : Nat}{es : List (Nat × Nat)}(rP : es.length ≤ 9000000000000000000)(hE : EdR w ea es) : Le Tryz.prog 3 [I n, .slice ea es.length ec, I root, I fr, I fo] w fun v w' => v = .bool true ∧ Ext w w' := by
 refine KA (e:=[(0,_),(1,_),(2,_),(3,_),(4,_)]) Tryz.func3 rfl Tryz.ntmps3 rfl rfl (qN rfl (KE rfl (qM rfl (An rfl (L2 [.tmp 28] cf7 rfl (XG n hn _) ?_)))))
 rintro _ w ⟨m,rfl,nU,e8,rfl⟩
 refine An rfl (L2 [.tmp 29,.tmp 30] cf6 rfl (z27 nU e8 rP hE) ?_)
 rintro _ w1 ⟨g,bg,rfl,iY,aw,lH,ad⟩
 have r1:=P8 root (g.length:Int) (by omega)
 have r2:=Ri root (g.length:Int) (by omega)
 refine KE rfl (qM rfl (An rfl (An rfl (qV (LG Rb rfl) (qV (yrt rfl rfl (by omega)) (An rfl (qV (LG Rb rfl) (Lz rfl rfl (An rfl (qV (LG Rb rfl) (qV (yrt rfl rfl (by omega)) ?_)))))))))))
 rw[show(root.tmod (g.length:Int)+(g.length:Int)).tmod (g.length:Int)=ZS root (g.length:Int) from rfl]
 obtain⟨r,hr,Kv⟩:∃r:Nat,ZS root (g.length:Int)=(r:Int)∧r<g.length:=⟨(ZS root (g.length:Int)).toNat,by omega,by omega⟩
 rw[hr]
 have y8:=lH.gr
 have aP:1≤g.length:=by omega
 have nw:g.length≤40:=by omega
 refine KE rfl (qM rfl (An rfl (An rfl (An rfl (L2 [.tmp 43,.tmp 44,.tmp 45] cf8 rfl (z1p aw aP nw y8 (ad.KD hG) (ad.KD hU) fr fo lL DG) ?_)))))
 rintro _ w5 ⟨W,XX,rfl,hW,aR,gy⟩
 have bz:=ad.trans aR
 have z5:=bz.size
 refine An rfl (qV (Ll rfl rfl) (qV (Ll rfl rfl) (KL rfl rfl (MN (cs:=[_,_,_,_,_]) YN rfl) ?_)))
 rintro _ w6 ⟨b6,rfl,nD,aK,aW⟩
 have z6:=aK.size
 refine KR rfl (Lo (news:=W.v) YN rfl rfl rfl rfl aW (by simp)) ?_
 rintro w7 ⟨bG,aA⟩
 have gJ:KP w7 b6 [ptr W.d 0,ptr W.Q.s 0,ptr W.G.k 0,ptr W.T.k 0,I ((200-W.a:Nat):Int)] 30:=bG
 have l7:=bG.lt
 have z7:=aA.size
 have gd:=(bz.trans aK).Kz aA fun b e=>by omega
 refine KE rfl (py (Lc.qb (e:=[(2,_),(10,_),(11,_),(12,_),(13,_)]) ?_))
 refine run_seq (qN rfl (An rfl (qV ((by first|exact LP rfl|exact Nq rfl)) ?_)))
 refine An rfl (L2 [] cf9 rfl (z2B (gd.KD hG) (gd.KD hU)) ?_)
 rintro _ w8 ⟨rfl,cE⟩
 refine qV ((by first|exact LP rfl|exact Nq rfl)) ?_
 refine qV (Lk rfl rfl) ?_
 have gu:=hW.hg.lt
 have ic:=hW.hg.xk
 have i1:=gu _ ic.1
 have i2:=gu _ ic.2.1
 have i3:=gu _ ic.2.2.1
 have i4:=gu _ ic.2.2.2
 obtain⟨X,hX⟩:∃X:Nat→Prop,(fun b=>(XX b∧b≠W.G.rb)∨b=b6)=X:=⟨_,rfl⟩
 have ql:NU W.G W.Q W.txt W.K X w7:=by
  rw[←hX];exact(hW.hg.grow aK (Y:=fun b=>(XX b∧b≠W.G.rb)∨b=b6) (fun j e=>e.imp id fun e=>by have:=aW.lt;omega) (fun j e=> .inl e)).own aA fun j e=>by subst e;exact⟨.inr rfl,by omega,by omega,by omega,by omega⟩
 have pA:∀b,b<w1.heap.size→X b:=fun b hb=>by rw[←hX];exact .inl ⟨(gy b hb).1,(gy b hb).2.1⟩
 have lw:X b6:=by rw[←hX];exact .inr rfl
 have ao:=hW.gg
 have eO:W.G.g.length=g.length:=by rw[ao]
 have ha:=hW.a
 have hL:=hW.L
 have Jp:=hW.K
 have Jq:=hW.gs
 have sX:=hW.ts
 have bU:=cE.KD gJ
 refine py (Kx rfl (It (qN rfl (qV (KK Xh rfl) (qV (KJ RR rfl rfl bU rfl) (qV (KK z3P rfl) (qV (KJ Z0 rfl rfl bU rfl) (An rfl (L2 [.tmp 57,.tmp 59,.tmp 60] z9s rfl (WK (ql.ext cE) (by omega) (by omega) hW.pre (by omega) (by omega) (root:=r) (by omega)) ?_)))))))))
 rintro _ w9 ⟨rr,vb,txt9,rfl,kG,fd,h9,DQ,aJ⟩
 have qn:N1 W.G.g:=by rw[ao];exact aw
 have FM:=XQ.new h9 qn (by omega)
 obtain⟨Q,hQ⟩:∃Q,W.Q.Mi (MV W.Q.L W.a 1 true)=Q:=⟨_,rfl⟩
 obtain⟨Y,hY⟩:∃Y:Nat→Prop,(fun b=>X b∨b=rr∨b=vb)=Y:=⟨_,rfl⟩
 rw[hQ,hY] at FM
 have nj:∀b,X b→Y b:=fun b e=>by rw[←hY];exact .inl e
 have rp:∀b,X b→b<w8.heap.size:=fun b e=>by have:=ql.lt b e;have:=cE.size;omega
 have z15:=aR.size
 have z8:=cE.size
 have z9:=aJ.size
 have cT:Ext w1 w9:=((((aR.trans aK).Kz aA fun b e=>by omega).trans cE)).Kz aJ fun b e=>by
  rcases Nat.lt_or_ge b w1.heap.size with h| h
  ·exact absurd (pA b h) e
  ·exact h
 have Js:w1.heap.size≤rr:=by have:=cE.size;omega
 have pn:b6≠rr:=by have:=cE.size;omega
 have cy:=aJ.KD bU (fun e=>e lw)
 refine An rfl (qV (Ll rfl rfl) (qV (Ll rfl rfl) (KE rfl (KE rfl (py (run_seq (qN rfl (An rfl (qV (LQ rfl rfl) (py (Kx rfl (It (run_seq ?_)))))))))))))
 refine qN rfl (KE rfl (py (Lc.qb (e:=[(2,_),(10,_),(11,_),(12,_),(14,_),(16,_)]) ?_)))
 refine KB (MQ (α:=T9) (T9.new W.G.g.length r) (fun s=>[(2,I (r:Int)),(11,.slice (some ⟨bg,0,none⟩) g.length g.length),(12,ptr b6 0),(14,ptr rr 0),(16,I (s.t:Int))]) (fun s w'=>(∃txt K,XQ W.G Q txt K Y rr vb W.a qn r s w'∧K≤1000+3300*s.t)∧s.done=false∧Ext w1 w'∧KP w' b6 [ptr W.d 0,ptr W.Q.s 0,ptr W.G.k 0,ptr W.T.k 0,I ((200-W.a:Nat):Int)] 30) (fun s=>g.length+1-s.t) ?hI ?hround)
 case hI=>exact⟨⟨txt9,_,FM,by show W.K+3≤1000+3300*0;omega⟩,rfl,cT,cy⟩
 case hround =>
  rintro s w10 ⟨⟨txt10,K10,hN,hK⟩,FN,bB,dU⟩ ih
  try dsimp only
  have ki:=hN.i.zc7 hN.r FN;refine run_seq (qN rfl (An rfl (An rfl (qV (LG Rb rfl) (qV (Qh rfl rfl) (MC (py (KS rfl (It (run_seq (KB (qN rfl (An rfl ?_)))))))))))));refine L2 [.tmp 73] z6P rfl (z0K hN (by omega) FN) ?_;rintro _ w11 ⟨rfl,txt11,eE,DW,aM⟩
  have aT:Ext w1 w11:=bB.Kz aM fun b e=>by
   rcases Nat.lt_or_ge b w1.heap.size with h| h
   ·exact e.elim (fun e=>absurd (nj b (pA b h)) e) (fun e=>by omega)
   ·exact h
  have aF:=aM.KD dU (fun e=>e.elim (fun e=>e (nj b6 lw)) (fun e=>pn e));refine An rfl (qV (Ll rfl rfl) (qV (Ll rfl rfl) (KE rfl (KE rfl (py (run_seq (qN rfl (An rfl (qV (LQ rfl rfl) (py (Kx rfl (It (qN rfl ?_)))))))))))));by_cases hd:(s.step W.G.g).done=true
  ·obtain ⟨s2, dB⟩ : ∃ s2, s.step W.G.g = s2 := ⟨_, rfl⟩; rw [dB] at hd eE ⊢; rw [hd]; refine An rfl ?_; have hI := eE.i; have vx : 1 ≤ W.G.g.length := by omega
   refine py (KS rfl (KO rfl (qN rfl (KE rfl (py (run_seq (qN rfl (KE rfl (py (KB (MQ (α:=Nat×Value) ((0,.slice none 0 0)) (fun p=>[(2,I (r:Int)),(11,.slice (some ⟨bg,0,none⟩) g.length g.length),(12,ptr b6 0),(14,ptr rr 0),(19,p.2),(20,I (p.1:Int))]) (fun p w'=>p.1≤g.length∧(∃Y2:Nat→Prop,(∀b,Y b→Y2 b)∧XQ W.G Q txt11 (K10+3200) Y2 rr vb W.a qn r s2 w'∧∀b,p.2.ownBlock=some b→Y2 b∧w11.heap.size≤b)∧Sl w' p.2 41 1 p.1 ((List.range p.1).map fun u=>KV (vN (dF s2.d u)))∧Ext w1 w'∧w11.heap.size≤w'.heap.size∧KP w' b6 [ptr W.d 0,ptr W.Q.s 0,ptr W.G.k 0,ptr W.T.k 0,I ((200-W.a:Nat):Int)] 30) (fun p=>g.length-p.1) ?hI ?hround)))))))))))
   case hI=>exact⟨Nat.zero_le _,⟨Y,fun _ h=>h,eE,fun b hb=>by cases hb⟩,Sl.nil _ _ _,aT,Nat.le_refl _,aF⟩
   case hround =>
    rintro⟨v,dv⟩ w12 ⟨hv,⟨Y2,DY,fF,lE⟩,gh,aC,z12,ba⟩ ih2
    try dsimp only
    refine run_seq (qN rfl (An rfl (An rfl (qV (LG Rb rfl) (qV (LW rfl rfl) (py (KQ rfl (fun hq=>?_) (fun hq=>?_))))))))
    ·have ey:v<g.length:=by omega
     refine It (run_seq (KB (qN rfl (An rfl (An rfl (L2 [.tmp 87,.tmp 88] z98 rfl (z2X fF hd (by omega)) ?_))))));rintro _ w13 ⟨rfl,kJ,ck⟩;refine An rfl (qV (Ll rfl rfl) (qV (Ll rfl rfl) (KE rfl (KE rfl (py (run_seq (qN rfl (An rfl (qV (LQ rfl rfl) (py (Kx rfl (It (KF rfl ?_)))))))))))));refine An rfl (An rfl (KL rfl rfl (Tb (parts:=[(0,.tmp 95)]) (cs:=[_]) (zs:=[Value.int .u64 0]) Uo Nf rfl (by kernel_rfl) rfl rfl rfl (by decide)) ?_));rintro _ w14 ⟨b14,rfl,⟨kO,cN,cC⟩,DZ⟩
     have aX:Ext w1 w13:=aC.Kz ck fun b e=>by
      rcases Nat.lt_or_ge b w1.heap.size with h| h
      ·exact absurd (.inl (DY b (nj b (pA b h)))) e
      ·exact h
     have cU:=ck.KD ba (fun e=>e (.inl (DY _ (nj _ lw))));have rB:=(gh.kp ck (fun b hb e=>e (.inl (lE b hb).1))).ext cN;have z13:=ck.size;have z14:=cN.size;refine KL rfl rfl (pap Uo Nf rfl (by decide) rfl rfl rB DZ.rd (by intro c hc;simp at hc;subst hc;rfl) (by omega) (by simp only[maxLen];omega)) ?_;rintro dv' w15 ⟨oD,eW,y9,-⟩;have z15:=eW.size;obtain⟨q1,q2,q3,q4,q5,q6⟩:=eE.lts;obtain⟨Y3,zp⟩:∃Y3:Nat→Prop,(fun b=>Y2 b∨dv'.ownBlock=some b)=Y3:=⟨_,rfl⟩
     have eF:XQ W.G Q txt11 (K10+3200) Y3 rr vb W.a qn r s2 w15:=(kJ.grow cN (Y:=Y2) (fun j e=>e) (fun j e=> .inl e)).step eW (fun j e=>by
      have:=lE j e
      exact⟨this.1,by omega,by omega,by omega,by omega,by omega,by omega⟩) (fun j e=>by rw[←zp];exact .inl e) (fun j e=>by
      rw[←zp] at e;rcases e with e| e
      ·exact .inl e
      ·have hj:=oD.lt e;rcases y9 j e with e2|e2
       ·exact .inl (lE j e2).1
       ·exact .inr ⟨e2,hj⟩)
     have j6:w1.heap.size≤w11.heap.size:=aT.size;have E0:Ext w1 w15:=(aX.trans cN).Kz eW fun b e=>by have:=(lE b e).2;omega
     have lb6:=aF.lt;have cV:=eW.KD (cN.KD cU) (fun e=>by have:=(lE _ e).2;omega)
     have fT:((List.range v).map fun u=>KV (vN (dF s2.d u)))++[KV (vN (dF s2.d v))]=(List.range (v+1)).map fun u=>KV (vN (dF s2.d u)):=by
      rw[List.range_succ,List.map_append];rfl
     refine KE rfl (py (KC (KF rfl (An rfl (Lz rfl rfl (KE rfl (py ?_)))))))
     exact(ih2 (v+1,dv') _ ⟨by show v+1≤g.length;omega,⟨Y3,fun b h=>by rw[←zp];exact .inl (DY b h),eF,fun b hb=>⟨by rw[←zp];exact .inr hb,by
      rcases y9 b hb with e| e
      ·exact(lE b e).2
      ·omega⟩⟩,by rw[←fT];exact oD,E0,by omega,cV⟩ (by show g.length-(v+1)<g.length-v;omega)).qb
    ·have ey : v = g.length := by omega
     subst ey
     obtain⟨db,dO,dc,rfl,E1⟩:∃db dO dc,dv= .slice (some ⟨db,dO,none⟩) g.length dc∧∀u,u<g.length→w12.cell? ⟨db,dO+u*1,none⟩=some (KV (vN (dF s2.d u))):=by
      rcases gh.rd.2 with⟨c,-,h0⟩|⟨gb,go,gc,e,hc⟩
      ·omega
      ·exact⟨gb,go,gc,e,fun u hu=>by rw[Nat.mul_one];exact hc u _ (by rw[List.getElem?_map,List.getElem?_range hu];rfl)⟩
     obtain⟨gb,go,gc,je,DN⟩:=(y8.ext aC).r aP;cases je;have kF:=fF.m.g.sp;have eJ:maxLen=9223372036854775807:=rfl;refine KO rfl (qN rfl (An rfl (qV (LG Rb rfl) (KL rfl rfl (pmk (c:=g.length) (n:=g.length) U44 PS rfl rfl rfl (by omega) (by omega) (by omega)) ?_))));rintro _ w16 ⟨bn,rfl,⟨lO,bP,iO⟩,-⟩;have lbn:=iO.lt;refine KE rfl (py (run_seq (qN rfl (KE rfl (py (KB (MQ (α:=Nat×List Bool) ((0,List.replicate g.length false)) (fun p=>[(2,I (r:Int)),(11,.slice (some ⟨bg,0,none⟩) g.length g.length),(12,ptr b6 0),(19,.slice (some ⟨db,dO,none⟩) g.length dc),(23,.slice (some ⟨bn,0,none⟩) g.length g.length),(24,I (p.1:Int))]) (fun p w'=>p.1≤g.length∧R1 g s2 p.1 0 p.2∧KP w' bn (p.2.map .bool) 4∧Ext w12 w') (fun p=>g.length-p.1) ?hI ?hround)))))))
     case hI=>exact⟨Nat.zero_le _,R1.zero,by rw[List.map_replicate];exact iO,bP⟩
     case hround =>
      rintro⟨v,nb⟩ w17 ⟨hv,pB,ya,dg⟩ ih3
      try dsimp only
      refine run_seq (qN rfl (An rfl (An rfl (qV (LG Rb rfl) (qV (LW rfl rfl) (py (KQ rfl (fun Aq=>?_) (fun Aq=>?_))))))))
      ·have ey : v < g.length := by omega
       have eO:g[v]? =some (KW g v):=by unfold KW;rw[List.getElem?_eq_getElem ey];rfl
       have aD:(KW g v).length≤g.length:=aw.len (List.mem_of_getElem? eO);refine It (run_seq (KB (qN rfl (KE rfl (py (KB (MQ (α:=Nat×List Bool) ((0,nb)) (fun p=>[(2,I (r:Int)),(11,.slice (some ⟨bg,0,none⟩) g.length g.length),(12,ptr b6 0),(19,.slice (some ⟨db,dO,none⟩) g.length dc),(23,.slice (some ⟨bn,0,none⟩) g.length g.length),(24,I (v:Int)),(25,I (p.1:Int))]) (fun p w'=>p.1≤(KW g v).length∧R1 g s2 v p.1 p.2∧KP w' bn (p.2.map .bool) 4∧Ext w12 w') (fun p=>(KW g v).length-p.1) ?hI ?hround)))))))
       case hI=>exact⟨Nat.zero_le _,pB,ya,dg⟩
       case hround =>
        rintro⟨i,nb⟩ w18 ⟨hi,pB,jt,jK⟩ ih4;obtain⟨a,c,fm,eK⟩:=DN.ext jK v _ eO;have eZ:=Lv jK (E1 v ey)
        try dsimp only
        refine run_seq (qN rfl (An rfl (An rfl (An rfl (qV (Lt Rb OC rfl rfl (by omega)) (qV (Lb L9 rfl rfl fm) (qV (LG L9 rfl) ?_)))))));by_cases cL:i<(KW g v).length
        ·by_cases mI:dF s2.d v=none
         ·rw[mI,show vN none=18446744073709551615 from rfl] at eZ;refine qV (LW rfl rfl) (MC (An rfl (An rfl (An rfl (qV (Lt Uo Nf rfl rfl (by omega)) (qV (Lb M3 rfl rfl eZ) (qV (LQ rfl rfl) (Lq (qV (LK rfl rfl) (py (Kx rfl (KO rfl (KC ?_)))))))))))));refine KF rfl (An rfl (Lz rfl rfl (KE rfl (py ?_))));exact(ih3 (v+1,nb) _ ⟨by show v+1≤g.length;omega,pB.next (.inr mI),jt,jK⟩ (by show g.length-(v+1)<g.length-v;omega)).qb
         ·obtain⟨k,hk⟩:∃k,dF s2.d v=some k:=by
           cases e:dF s2.d v with
           |none=>exact absurd e mI
           |some k=>exact⟨k,rfl⟩
          obtain⟨u,hu⟩:∃u,(KW g v)[i]? =some u:=⟨_,List.getElem?_eq_getElem cL⟩;have FO:u∈KW g v:=List.mem_of_getElem? hu;have nu:u<g.length:=Pc aw v u FO;have ii:=(hI.lev.has v k hk).1;have x9:=ii.z6Q qn eE.r;obtain⟨j,hj,FP⟩:∃j,j≤k+1∧Oe (VD qn) r j u:=ii.zbo (by show u∈KW W.G.g v;rw[ao];exact FO);have E2:=(hI.all hd u j).2 FP;have Kw:=FP.z6Q qn eE.r;obtain⟨lb,lo,rfl,zj⟩:=eK i u hu;have tQ:=Lv jK (E1 u nu);rw[hk,show vN (some k)=k from rfl] at eZ;rw[E2,show vN (some j)=j from rfl] at tQ;refine qV (LW rfl rfl) (MC (An rfl (An rfl (An rfl (qV (Lt Uo Nf rfl rfl (by omega)) (qV (Lb M3 rfl rfl eZ) (qV (LQ rfl rfl) (MC (qV (LK rfl rfl) (py (KS rfl (It (run_seq ?_)))))))))))));refine KB (qN rfl (An rfl (An rfl (qV (Lt Rb OC rfl rfl (by omega)) (qV (Lb L9 rfl rfl fm) (An rfl (qV (Lt L9 KY rfl rfl (by omega)) (qV (Lb Mg rfl rfl zj) (KE rfl (py (run_seq (run_seq ?_))))))))))));have aP:=Ext.L4 w18;refine KN (fun w'=>Ext w18 w') (by kernel_rfl) rfl (KH 0 rfl (KM rfl) aP (KH 1 rfl (KM rfl) aP (KH 2 rfl (Lt Uo Nf rfl rfl (by omega)) aP (qT 3 rfl (fun _ h=>Lb M3 rfl rfl (Lv h tQ)) aP (KH 4 rfl (Mc rfl rfl) aP (Pw (KH 5 rfl (KM rfl) aP (KH 6 rfl (KM rfl) aP (KH 7 rfl (KM rfl) aP (KH 8 rfl (Lt Uo Nf rfl rfl (by omega)) aP (KH 10 rfl (KM rfl) aP (KH 11 rfl (KM rfl) aP (KH 12 rfl (Lt Uo Nf rfl rfl (by omega)) aP ?_)))))))))))));refine qT 9 rfl (fun _ h=>Lb M3 rfl rfl (Lv h tQ)) aP (qT 13 rfl (fun _ h=>Lb M3 rfl rfl (Lv h eZ)) aP (KH 14 rfl (OD rfl rfl) aP (KH 15 rfl (LH rfl rfl) aP (Pw (KH 16 rfl (Lk rfl rfl) aP (qE (Kx rfl (It ?_))))))));have jr:nb.length=g.length:=pB.len;obtain⟨b0,oX⟩:∃b0,nb[u]? =some b0:=⟨_,List.getElem?_eq_getElem (by omega)⟩
          have E3:w18.cell? ⟨bn,0+u*1,none⟩=some (.bool b0):=by
           rw[jt.cell,Nat.zero_add,Nat.mul_one,List.getElem?_map,oX];rfl
          have aa:=aP.trans (Ext.L4 w18.drew);have qo:=aa.KD jt;refine L5 [19] (fun w'=>Ext w18 w') (by kernel_rfl) rfl (qL [18,19] 0 rfl (fun _ h=>KM rfl) aa (qL [18,19] 1 rfl (fun _ h=>KM rfl) aa (qL [4,5,6,7,8,9,10,11,12,13,14,15,16,17,18,19] 2 rfl (fun _ h=>KM rfl) aa (qL [4,5,6,7,8,9,10,11,12,13,14,15,16,17,18,19] 3 rfl (fun _ h=>KM rfl) aa (qL [5,6,7,8,9,10,11,12,13,14,15,16,17,18,19] 4 rfl (fun _ h=>Lt U44 PS rfl rfl (by omega)) aa (qL [6,7,8,9,10,11,12,13,14,15,16,17,18,19] 5 rfl (fun _ h=>Lb U4 rfl rfl (Lv h E3)) aa ?_))))))
          cases b0 with
          | true =>
            refine qL [7,8,9,10,11,12,13,14,15,16,17,18,19] 6 rfl (fun _ h=>KM rfl) aa (PK [9,10,16,17,18,19] (i:=7) rfl (by kernel_rfl) rfl rfl (aa) (PK [9,10,16,17,18,19] (i:=8) rfl (by kernel_rfl) rfl rfl (aa) (PK [10,16,17,18,19] (i:=9) rfl (by kernel_rfl) rfl rfl (aa) (PK [16,17,18,19] (i:=10) rfl (by kernel_rfl) rfl rfl (aa) (PK [13,14,15,16,17,18,19] (i:=11) rfl (by kernel_rfl) rfl rfl (aa) (PK [13,14,15,16,17,18,19] (i:=12) rfl (by kernel_rfl) rfl rfl (aa) (PK [14,15,16,17,18,19] (i:=13) rfl (by kernel_rfl) rfl rfl (aa) (PK [15,16,17,18,19] (i:=14) rfl (by kernel_rfl) rfl rfl (aa) (PK [16,17,18,19] (i:=15) rfl (by kernel_rfl) rfl rfl (aa) (PK [17,18,19] (i:=16) rfl (by kernel_rfl) rfl rfl (aa) (qL [18,19] 17 rfl (fun _ h=>LK rfl rfl) aa (qL [19] 18 rfl (fun _ h=>Lt U44 PS rfl rfl (by omega)) aa (Lu [19] (by kernel_rfl) (by kernel_rfl) ?_)))))))))))));refine qO 19 (Lm (i:=19) rfl rfl (Mn PS rfl rfl rfl qo (by simp;omega)) ?_);rintro w19 ⟨jL,kM⟩;refine⟨trivial,?_⟩;have cT:Ext w12 w19:=(jK.trans aa).Kz kM fun b e=>by have:=bP.size;omega
            have dT:(nb.map Value.bool).set (0+u*1) (.bool true)=(nb.set u true).map Value.bool:=by
             rw[Nat.zero_add,Nat.mul_one,List.map_set]
            rw[dT] at jL;refine qE (KC (KF rfl (An rfl (Lz rfl rfl (KE rfl (py ?_))))))
            exact(ih4 (i+1,nb.set u true) _ ⟨by show i+1≤(KW g v).length;omega,pB.step hu hk E2 (by simp[oX]) nu,jL,cT⟩ (by show(KW g v).length-(i+1)<(KW g v).length-i;omega)).qb
          | false =>
            refine qL [7,8,9,10,11,12,13,14,15,16,17,18,19] 6 rfl (fun _ h=>KM rfl) aa (qL [9,10,16,17,18,19] 7 rfl (fun _ h=>KM rfl) aa (qL [9,10,16,17,18,19] 8 rfl (fun _ h=>KM rfl) aa (qL [10,16,17,18,19] 9 rfl (fun _ h=>Lt Uo Nf rfl rfl (by omega)) aa (qL [13,14,15,16,17,18,19] 11 rfl (fun _ h=>KM rfl) aa (qL [13,14,15,16,17,18,19] 12 rfl (fun _ h=>KM rfl) aa (qL [14,15,16,17,18,19] 13 rfl (fun _ h=>Lt Uo Nf rfl rfl (by omega)) aa (qL [16,17,18,19] 10 rfl (fun _ h=>Lb M3 rfl rfl (Lv h tQ)) aa (qL [15,16,17,18,19] 14 rfl (fun _ h=>Lb M3 rfl rfl (Lv h eZ)) aa (qL [16,17,18,19] 15 rfl (fun _ h=>OD rfl rfl) aa (qL [17,18,19] 16 rfl (fun _ h=>Mc rfl rfl) aa (qL [18,19] 17 rfl (fun _ h=>Lk rfl rfl) aa (qL [19] 18 rfl (fun _ h=>Lt U44 PS rfl rfl (by omega)) aa (Lu [19] (by kernel_rfl) (by kernel_rfl) ?_)))))))))))));refine qO 19 (Lm (i:=19) rfl rfl (Mn PS rfl rfl rfl qo (by simp;omega)) ?_);rintro w19 ⟨jL,kM⟩;refine⟨trivial,?_⟩;have cT:Ext w12 w19:=(jK.trans aa).Kz kM fun b e=>by have:=bP.size;omega
            have dT:(nb.map Value.bool).set (0+u*1) (.bool (decide ((j:Int)=(((k+1)%18446744073709551616:Nat):Int))))=(nb.set u (decide ((j:Int)=(((k+1)%18446744073709551616:Nat):Int)))).map Value.bool:=by
             rw[Nat.zero_add,Nat.mul_one,List.map_set]
            rw[dT] at jL;refine qE (KC (KF rfl (An rfl (Lz rfl rfl (KE rfl (py ?_))))));exact(ih4 (i+1,nb.set u (decide ((j:Int)=(((k+1)%18446744073709551616:Nat):Int)))) _ ⟨by show i+1≤(KW g v).length;omega,pB.step hu hk E2 (by rw[oX];simp;omega) nu,jL,cT⟩ (by show(KW g v).length-(i+1)<(KW g v).length-i;omega)).qb
        ·refine qV (LW rfl rfl) (Lq (An rfl (qS (qS (qS (qS (qS (qV (Lk rfl rfl) (py (Kx rfl (KO rfl (KC (KF rfl ?_)))))))))))));refine An rfl (Lz rfl rfl (KE rfl (py ?_)));exact(ih3 (v+1,nb) _ ⟨by show v+1≤g.length;omega,pB.next (.inl (by omega)),jt,jK⟩ (by show g.length-(v+1)<g.length-v;omega)).qb
      ·have ey : v = g.length := by omega
       subst ey;have jr:nb.length=g.length:=pB.len;refine KO rfl (run_seq (qN rfl (KE rfl (py (KB (MQ (α:=Nat) (0) (fun v=>[(2,I (r:Int)),(11,.slice (some ⟨bg,0,none⟩) g.length g.length),(12,ptr b6 0),(19,.slice (some ⟨db,dO,none⟩) g.length dc),(23,.slice (some ⟨bn,0,none⟩) g.length g.length),(27,I (v:Int))]) (fun v w'=>v≤g.length∧w'=w17) (fun v=>g.length-v) ?hI ?hround))))))
       case hI=>exact⟨Nat.zero_le _,rfl⟩
       case hround =>
        rintro v w18 ⟨hv,rfl⟩ ih5
        try dsimp only
        refine run_seq (qN rfl (An rfl (An rfl (qV (LG Rb rfl) (qV (LW rfl rfl) (py (KQ rfl (fun bJ=>?_) (fun bJ=>?_))))))))
        ·have ey : v < g.length := by omega
         have eZ:=Lv dg (E1 v ey);have yb:=(hI.all hd r 0).2 Oe.root;refine It (run_seq (KB (qN rfl (An rfl (An rfl (qV (Lt Uo Nf rfl rfl (by omega)) ?_))))));by_cases FQ:v=r
         ·subst FQ;rw[yb,show vN (some 0)=0 from rfl] at eZ;refine qV (Lb M3 rfl rfl eZ) (qV (Mc rfl rfl) (MC (An rfl (An rfl (qV (Mc rfl rfl) (MC (qV (YW rfl rfl U4) (An rfl (An rfl (An rfl (qV (LQ rfl rfl) (Lq (An rfl ?_)))))))))))));refine qS (qS (qS (qS (qS (qV (Lk rfl rfl) (An rfl (qS (qS (qS (qS (qS (qV (Lk rfl rfl) (qV (Lk rfl rfl) ?_)))))))))))));refine py (Kx rfl (It (KC (KF rfl (An rfl (Lz rfl rfl (KE rfl (py ?_))))))));exact(ih5 (v+1) _ ⟨by omega,rfl⟩ (by omega)).qb
         ·cases mI:dF s2.d v with
          | none =>
            rw[mI,show vN none=18446744073709551615 from rfl] at eZ;refine qV (Lb M3 rfl rfl eZ) (qV (Mc rfl rfl) (Lq (An rfl (An rfl (qV (Mc rfl rfl) (Lq (qV (YW rfl rfl U4) (An rfl (An rfl (An rfl (qV (LQ rfl rfl) (MC (An rfl ?_)))))))))))));refine An rfl (An rfl (qV (Lt Uo Nf rfl rfl (by omega)) (qV (Lb M3 rfl rfl eZ) (qV (LQ rfl rfl) (Lq (qV (LK rfl rfl) (An rfl (qS (qS (qS (qS (qS (qV (Lk rfl rfl) ?_)))))))))))));refine qV (Lk rfl rfl) (py (Kx rfl (It (KC (KF rfl (An rfl (Lz rfl rfl (KE rfl (py ?_)))))))))
            exact(ih5 (v+1) _ ⟨by omega,rfl⟩ (by omega)).qb
          | some k =>
            rw[mI,show vN (some k)=k from rfl] at eZ;have ii:=(hI.lev.has v k mI).1;have x9:=ii.z6Q qn eE.r;have iT:k≠0:=fun e=>FQ (by subst e;exact ii.zero)
            have yd:nb[v]? =some true:=by
             obtain⟨k',rfl⟩:∃k',k=k'+1:=⟨k-1,by omega⟩;obtain⟨x,hx,tR⟩:=ii.pred;have tR:v∈KW g x:=by rw[←ao];exact tR
             have ly:x<g.length:=by
              rcases Nat.lt_or_ge x g.length with h| h
              ·exact h
              ·unfold KW at tR;rw[List.getElem?_eq_none h] at tR;cases tR
             exact pB.z4f x v k' (.inl ly) tR ((hI.all hd x k').2 hx) mI
            have E3:w18.cell? ⟨bn,0+v*1,none⟩=some (.bool true):=by
             rw[ya.cell,Nat.zero_add,Nat.mul_one,List.getElem?_map,yd];rfl
            refine qV (Lb M3 rfl rfl eZ) (qV (Mc rfl rfl) (Lq (An rfl (An rfl (qV (Mc rfl rfl) (Lq (qV (YW rfl rfl U4) (An rfl (An rfl (An rfl (qV (LQ rfl rfl) (MC (An rfl ?_)))))))))))));refine An rfl (An rfl (qV (Lt Uo Nf rfl rfl (by omega)) (qV (Lb M3 rfl rfl eZ) (qV (LQ rfl rfl) (MC (qV (LK rfl rfl) (An rfl (An rfl (An rfl (qV (Lt U44 PS rfl rfl (by omega)) (qV (Lb U4 rfl rfl E3) (qV ((by first|exact LP rfl|exact Nq rfl)) ?_))))))))))));refine qV (LK rfl rfl) (qV (Lk rfl rfl) (py (Kx rfl (It (KC (KF rfl (An rfl (Lz rfl rfl (KE rfl (py ?_))))))))));exact(ih5 (v+1) _ ⟨by omega,rfl⟩ (by omega)).qb
        ·have qp:=dg.KD ba;refine KO rfl (qN rfl (qV (KK Xh rfl) (qV (KJ RR rfl rfl qp rfl) ?_)));have tt:Q.s=W.Q.s:=by rw[←hQ];rfl
         have ki:=TZ (kF.ext' dg);rw[tt] at ki;refine L2 [.tmp 201] zc0 rfl (ki) ?_;rintro _ w19 ⟨a1,a2,a3,a4,a5,rfl,cT⟩;refine qV (yfd z8J rfl rfl) (qV (Qh rfl rfl) (MC (An rfl ?_)));have jL:=cT.KD qp;have ye:=TZ (kF.ext' (dg.trans cT));rw[tt] at ye;refine qV (KK Xh rfl) (qV (KJ RR rfl rfl jL rfl) (L2 [.tmp 207] zc0 rfl (ye) ?_));rintro _ w20 ⟨c1,c2,c3,c4,c5,rfl,E4⟩;refine qV (yfd z8d rfl rfl) (qV (Mc rfl rfl) (MC (qV (LK rfl rfl) (KE rfl (py (KG Tryz.func3 rfl ?_))))));exact⟨_,rfl,rfl,ad.trans (((aC.trans dg).trans cT).trans E4)⟩
  ·have jQ:(s.step W.G.g).done=false:=by cases e:(s.step W.G.g).done with
    |false=>rfl
    |true=>exact absurd e hd
   rw[jQ];refine An rfl (py (Kx rfl (It (KC (KF rfl (An rfl (Lz rfl rfl (KE rfl (py ?_)))))))));exact(ih (s.step W.G.g) _ ⟨⟨txt11,K10+3200,eE,by show K10+3200≤1000+3300*(s.t+1);omega⟩,jQ,aT,aF⟩ (by show g.length+1-(s.t+1)<g.length+1-s.t;omega)).qb
end Go.Proofs.YtpldpcjdjcgicaaGreatDoor
namespace Go.Proofs.YtpldpcjdjcgicaaGreatDoor
open Go Go.ChangeShapes Go.WideShapes Go.ChangeAt Go.RowKit
set_option linter.all false

def To (P:Program)(ts:List TypeId):Bool:=ts.all fun t=>P.readableRec t&&decide (t<P.types.size)

theorem RU {H:Type}{enc:TypeId×Value→H}{P:Program}(hl:laidOutB P=true){W W':World}(hb:Below W.heap.size W W'):
  ∀ {ts : List TypeId} {vs : List Value} {ds : List (DataW H)} {ps : List MemPlace}, To P ts = true → DataW.TrodAll enc P W 0 (fun _ => true) true ts vs ds ps →
    DataW.TrodAll enc P W' 0 (fun b=>decide (b<W.heap.size)) true ts vs ds ps
 |[],[],[],_,_,h=>h
 | t :: ts, v :: vs, d :: ds, _, hr, h => by
   obtain⟨p,q,h1,h2,rfl⟩:=h;simp only[To,List.all_cons,Bool.and_eq_true,decide_eq_true_eq] at hr
   exact⟨p,q,Below.trod hl hr.1.1 hr.1.2 h1 hb (by obtain⟨m,hm⟩:=h1;exact DataW.trod_lt m _ _ _ hm),RU hl hb hr.2 h2,rfl⟩
 |[],[],_::_,_,_,h=>h.elim
 |[],_::_,_,_,_,h=>h.elim
 |_::_,[],_,_,_,h=>h.elim
 |_::_,_::_,[],_,_,h=>h.elim

theorem TM {H:Type}{enc:TypeId×Value→H}{P:Program}{W:World}{base:Nat}{spare:Nat→Bool}{held:Bool}:
  ∀{ts:List TypeId} {vs:List Value} {ds:List (DataW H)} {ps:List MemPlace},DataW.TrodAll enc P W base spare held ts vs ds ps→ds.length=ts.length
 |[],[],[],_,_=>rfl
 | t :: ts, v :: vs, d :: ds, _, h => by
   obtain⟨p,q,h1,h2,rfl⟩:=h
   simpa using TM h2
 |[],[],_::_,_,h=>h.elim
 |[],_::_,_,_,h=>h.elim
 |_::_,[],_,_,h=>h.elim
 |_::_,_::_,[],_,h=>h.elim

theorem own:ownKnob Tryz.prog.godebug=none:=by kernel_rfl
theorem laidOut:laidOutB Tryz.prog=true:=by kernel_rfl
end Go.Proofs.YtpldpcjdjcgicaaGreatDoor
namespace Go.Proofs.YtpldpcjdjcgicaaGreatDoor
open Go Go.ChangeShapes Go.WideShapes Go.ChangeAt Go.RowKit Go.Deep
set_option linter.all false
set_option maxRecDepth 100000
section
variable {H:Type}{enc:TypeId×Value→H}{W:World}{sp:Nat→Bool}
theorem z3Z (n:Int)(h:(Lit.int .u32 n).wf=true):Value.int .u32 n=Lg n.toNat∧n.toNat<4294967296:=by
 simp[Lit.wf,IntKind.min,IntKind.max,IntKind.signed,IntKind.bits] at h
 exact⟨by unfold Lg;congr;omega,by omega⟩
theorem i64_in (n:Int)(h:(Lit.int .i64 n).wf=true): -9223372036854775808≤n∧n≤9223372036854775807:=by
 simp[Lit.wf,IntKind.min,IntKind.max,IntKind.signed,IntKind.bits] at h;omega
theorem z3v {w:World}{b off:Nat}{spot:Option Nat}{v:Value}(h:w.cell? ⟨b,off,spot⟩=some v):spot=none:=by
 unfold World.cell? at h
 split at h
 ·cases spot with
  |none=>rfl
  |some s=>simp at h
 ·cases h
theorem open_edges {fuel:Nat}{v:Value}{x:DataW H×List MemPlace}(h:DataW.trod enc Tryz.prog W 0 sp true fuel 22 [v]=some x)(hw:∀n∈x.1.weights Tryz.prog 22,n≤reachBytes):∃(ea:Option Addr) (ec:Nat) (es:List (Nat×Nat)),v= .slice ea es.length ec∧EdR W ea es∧es.length≤9000000000000000000:=by
 rcases open_slice_pairs U22 U65 (by kernel_rfl) rfl rfl (by kernel_rfl) (by kernel_rfl) h with⟨hv,hx⟩|⟨a,len,cap,m,n,V0,V1,D0,D1,P0,P1,hv,-,hl,hm,yM,hx,nB⟩
 ·cases hv;exact⟨none,0,[],rfl,fun i e he=>by simp at he,by simp⟩
 ·cases hv;have eJ:maxLen=9223372036854775807:=rfl;have gL:len≤m:=by rw[yM];split<;>omega
  have hk:∀i,i<len→∃e:Nat×Nat,e.1<4294967296∧e.2<4294967296∧W.cell? (a.add (i*2))=some (Lg e.1)∧W.cell? (a.add (i*2+1))=some (Lg e.2):=fun i hi=>by
   obtain⟨c0,c1,h0,h1⟩:=nB i (by omega);obtain⟨n0,e0,-,f0⟩:=DataW.trod_int Mg h0;obtain⟨n1,e1,-,f1⟩:=DataW.trod_int Mg h1;have e0:V0 i= .int .u32 n0:=by simpa using e0
   have e1:V1 i= .int .u32 n1:=by simpa using e1
   obtain⟨q0,b0⟩:=z3Z n0 f0;obtain⟨q1,b1⟩:=z3Z n1 f1;exact⟨(n0.toNat,n1.toNat),b0,b1,by rw[c0,e0,q0],by rw[c1,e1,q1]⟩
  obtain⟨E,hE⟩:∃E:Nat→Nat×Nat,∀i,i<len→(E i).1<4294967296∧(E i).2<4294967296∧W.cell? (a.add (i*2))=some (Lg (E i).1)∧W.cell? (a.add (i*2+1))=some (Lg (E i).2):=
   choose_lt (α:=Nat×Nat) (n:=len) (p:=fun i e=>e.1<4294967296∧e.2<4294967296∧W.cell? (a.add (i*2))=some (Lg e.1)∧W.cell? (a.add (i*2+1))=some (Lg e.2)) hk
  refine⟨some a,cap,(List.range len).map E,by simp,fun i e he=>?_,?_⟩
  ·rw[List.getElem?_map] at he;rcases Nat.lt_or_ge i len with hi|hi
   ·rw[List.getElem?_range hi] at he;obtain rfl:=MA he;obtain⟨g1,g2,g3,g4⟩:=hE i hi;obtain⟨b,off,spot⟩:=a;have h3:=(hE 0 (by omega)).2.2.1;rw[Nat.zero_mul] at h3;simp only[Addr.add,if_true] at h3;obtain rfl:=z3v h3;rw[Mr] at g3 g4;exact⟨g1,g2,b,off,rfl,g3,by rw[Nat.add_assoc];exact g4⟩
   ·rw[List.getElem?_eq_none (by simpa using hi)] at he;cases he
  ·have nZ:=hw ((len+(m-len))*8) (by rw[hx];simp[DataW.weights,U22,show Tryz.prog.bytesOf 65=8 by kernel_rfl]);simp[reachBytes] at nZ;simp;omega
end
end Go.Proofs.YtpldpcjdjcgicaaGreatDoor
namespace Go.Proofs.YtpldpcjdjcgicaaGreatDoor
open Go Go.ChangeShapes Go.WideShapes Go.ChangeAt Go.RowKit
set_option linter.all false
theorem law_lifted_tied {H:Type}{enc:TypeId×Value→H}{C:Checked}{os:Os}{f:FuncId}{fn:Func}{s:ChangeSpec}{t:TypeId}{ts:List TypeId}{laid:List (String×DataW Unit)}
  (own:ownKnob C.prog.godebug=none) (started:os.Started) (hl:laidOutB C.prog=true) (noInit:C.prog.inits.idxOf? f=none) (hfn:C.prog.funcs[f]? =some fn)
  (hts:fn.params.toList=ts) (hrd:To C.prog ts=true) (hrt:fn.resultTypes=#[t]) (hb:C.prog.underlying t=some .bool) (hsv:s.vars=[])
  (hpl:(laid.all fun x=>x.2.handleName?.isNone)=true)
  (hspec:∀ds:List (DataW H),ds.length=ts.length→s.fn H ds={results:=[.lit (.bool true)],args:=ds})
  (witness:∃(w:World) (tape:Tape) (i:Input),w.os=os∧(w.forCall tape i).Shaped C.prog∧i.vars=[]∧Input.okWide C.prog (w.forCall tape i) .any w.heap.size f i∧
   ((s.pre enc C.prog fn [] false (w.forCall tape i).memory i.args∧laidMetH C.prog laid (w.forCall tape i).memory)∧sizedMet enc C.prog fn (OpenSpec.ofChange s) false (w.forCall tape i).memory i.args)∧({}:Assume).holds C.prog (lone (Frame.enter C.prog f i.args .normal) [] (w.forCall tape i)))
  (hret:∀(W:World) (base:Nat) (args:List Value) (ds:List (DataW H)) (ps:List MemPlace),W.ShapedOpen C.prog→laidMet C.prog laid W→
   (∀(j:Nat) t v,ts[j]? =some t→args[j]? =some v→Value.okWide C.prog W .any base t v)→
   DataW.TrodAll enc C.prog W 0 (fun _=>true) true ts args ds ps→W.noneFrozen ps→
   (DataW.weightsEach C.prog ts ds).all (·≤reachBytes)=true→
   Le C.prog f args W fun v w'=>v= .bool true∧Ext W w'):
  ReturnsInHanded {} C os f .any (fun w args=>(s.pre enc C.prog fn [] false w args∧laidMetH C.prog laid w)∧sizedMet enc C.prog fn (OpenSpec.ofChange s) false w args) (s.post enc C.prog fn false true false false):=by
 refine returnsInHanded_of_calls own started noInit witness ?_
 intro w tape i _ hsh _ hok hpre hholds
 obtain⟨_,_,_,fn',hfn',_,_,_,_,hval⟩:=hok
 have e:fn'=fn:=Option.some.inj (hfn'.symm.trans hfn)
 subst e
 obtain⟨⟨⟨ds,gs,before,hw,hc⟩,hx⟩,hz⟩:=hpre
 have hW:=DataW.Whole.of_heap (w':=w.forCall tape i) (by rfl) hw
 have hW':=hW
 have hsz0:(DataW.weightsEach C.prog (fn'.params.toList++s.plain.varTypes C.prog) (ds++gs)).all (·≤reachBytes)=true:=hz.weights hw
 obtain⟨p,q,hA,hV,rfl,hfz,_⟩:=hW
 rw[hsv] at hV
 obtain⟨rfl,rfl⟩:=trodVars_none hV
 rw[hts] at hA
 have hlen:=TM hA
 have hsz:(DataW.weightsEach C.prog ts ds).all (·≤reachBytes)=true:=by
  have hv:s.plain.varTypes C.prog=[]:=by simp[ChangeSpec.plain,DataSpec.varTypes,hsv]
  rw[hts,hv,List.append_nil,List.append_nil] at hsz0;exact hsz0
 have hL:laidMet C.prog laid (w.forCall tape i):=by
  rw[MakeChecks.laidMetH_plain _ _ _ hpl] at hx;exact hx.of_heap (by rfl)
 have hr:=hret _ w.heap.size i.args.toList ds p hsh hL (fun j t v h1 h2=>hval j t v (by rw[←hts] at h1;simpa using h1) (by simpa using h2)) hA (by rw[List.append_nil] at hfz;exact hfz) hsz
 unfold Le at hr;rw[Array.toArray_toList] at hr
 refine Calls.mono hr fun x W' ⟨v,hx,hv,hext⟩=>?_
 subst hx;subst hv
 have bel:=hext.below
 refine ChangeSpec.post_blind ⟨ds,[],p++[],[],p,[],hW',?_,?_,?_,bel.frame _,fun h=>by cases h⟩
 ·rw[List.append_nil,hspec ds hlen,hrt];exact trodAll_mk1 (shut_bool hb _)
 ·rw[List.append_nil,hspec ds hlen,hts];exact RU hl bel hrd hA
 ·rw[hsv,List.append_nil,hspec ds hlen]
  rfl
theorem pair_cells {P:Program}{W:World}{t fuel:Nat}{cs:Array Value}{f0 f1:Field}{ka kb:IntKind}{a b:Int}{p:List MemPlace}(hs:P.underlying t=some (.struct #[f0,f1]))(hc:P.cellsOf t=2)(o0:f0.offset=0)(o1:f1.offset=1)
  (c0:P.cellsOf f0.type=1) (c1:P.cellsOf f1.type=1) (u0:P.underlying f0.type=some (.int ka)) (u1:P.underlying f1.type=some (.int kb))
  (hd:DataW.trod (fun _=>()) P W 0 (fun _=>true) false fuel t cs.toList=some (.agg [.lit (.int ka a),.lit (.int kb b)],p)):cs.toList=[.int ka a,.int kb b]:=by
 obtain⟨y0,y1,n,hx,hl,h0,h1⟩:=trod_struct2 hs hd
 obtain⟨v0,e0,rfl,-⟩:=DataW.trod_int u0 h0
 obtain⟨v1,e1,rfl,-⟩:=DataW.trod_int u1 h1
 rw[hc] at hl
 rw[o0,c0] at e0
 rw[o1,c1] at e1
 simp at hx
 obtain⟨⟨rfl,rfl⟩,-⟩:=hx
 match hcs:cs.toList,hl with
 | [x, y], _ =>
   rw[hcs] at e0 e1;simp at e0 e1;rw[e0,e1]
theorem z1Q {P:Program}{W:World}{n:String}{g T:Nat}{cs:Array Value}{l:List Value}(hW:W.ShapedOpen P)(hgs:g<P.globals.size)(hz:(((begin P (fun _ _=>0) default).world.heap[g]?).bind Obj.row?).map (·.2)=some T)(hg:P.globalNamed n=some g)(hv:W.var? P n=some cs)(hcs:cs.toList=l):KP W g l T:=by
 cases hr:((begin P (fun _ _=>0) default).world.heap[g]?).bind Obj.row? with
 |none=>rw[hr] at hz;cases hz
 | some x =>
   obtain⟨z,t⟩:=x;rw[hr] at hz;obtain rfl:t=T:=Option.some.inj hz;obtain⟨c,hh,-,-⟩:=hW.1 g z t hgs hr;simp only[World.var?,hg,Option.bind_some,hh] at hv;have hc:c=cs:=by simpa using hv
   subst hc;refine⟨(0,0),by rw[hh,←hcs],fun i _ e=>by simp at e⟩
theorem laid_two {W:World}{laid:List (String×DataW Unit)}(hlaid:laid=[("wattle/list.gamma",.agg [.lit (.int .u8 1),.lit (.int .u64 0)]),("wattle/list.unary",.agg [.lit (.int .u8 0),.lit (.int .u64 0)])])(hW:W.ShapedOpen Tryz.prog)(h:laidMet Tryz.prog laid W):KP W 1 [.int .u8 1,.int .u64 0] 298∧KP W 2 [.int .u8 0,.int .u64 0] 298:=by
 subst hlaid
 obtain⟨ps,hL,-,hB⟩:=h
 obtain⟨g0,t0,cs0,fuel0,p0,q0,hg0,ht0,hv0,hd0,hL,hps⟩:=hL
 obtain⟨g1,t1,cs1,fuel1,p1,q1,hg1,ht1,hv1,hd1,hL,hqs⟩:=hL
 obtain rfl:=Option.some.inj ((show Tryz.prog.globalNamed "wattle/list.gamma"=some 1 by kernel_rfl).symm.trans hg0)
 obtain rfl:=Option.some.inj ((show Tryz.prog.globalNamed "wattle/list.unary"=some 2 by kernel_rfl).symm.trans hg1)
 obtain rfl:=Option.some.inj ((show(Tryz.prog.globals[1]?).map (·.type)=some 298 by kernel_rfl).symm.trans ht0)
 obtain rfl:=Option.some.inj ((show(Tryz.prog.globals[2]?).map (·.type)=some 298 by kernel_rfl).symm.trans ht1)
 have e0:=pair_cells Tryz.underlying298 (by kernel_rfl) rfl rfl (by kernel_rfl) (by kernel_rfl) Tryz.underlying5 Tryz.underlying41 hd0
 have e1:=pair_cells Tryz.underlying298 (by kernel_rfl) rfl rfl (by kernel_rfl) (by kernel_rfl) Tryz.underlying5 Tryz.underlying41 hd1
 have hgs:∀g:Nat,g<3→g<Tryz.prog.globals.size:=fun g hg=>Nat.lt_of_lt_of_le hg (of_decide_eq_true (by kernel_rfl))
 exact⟨z1Q hW (hgs 1 (by decide)) (by kernel_rfl) hg0 hv0 e0,z1Q hW (hgs 2 (by decide)) (by kernel_rfl) hg1 hv1 e1⟩
noncomputable def limWorld (os:Os):World:=
 let w0:=World.holding Tryz.prog os ⟨#[],#[],[]⟩
 { w0 with heap := w0.heap.modify 1 fun
   | .cells _ t frozen=> .cells #[.int .u8 1,.int .u64 0] t frozen
   |o=>o}
end Go.Proofs.YtpldpcjdjcgicaaGreatDoor
