/- Texts TrKa, TrKf, TrKg, TrNw, TrOk, TrTo, TrWh, one behind the other (what the statement TreeStores does not use is left out). -/
import Derived.Test.YtocnhaoilnojmaaGreatTQp1
import Derived.Test.YtocnhaoilnojmaaGreatTQp5
import Derived.Test.YtocnhaoilnojmaaGreatTQp4
namespace Go.Proofs.YtocnhaoilnojmaaGreat
open Go Go.RowKit
set_option linter.all false
set_option maxRecDepth 100000
def PutAt (p : Nat) (k v : Bytes) (bt bk bv bp : Nat) (H : Nat) : Prop := ∀ (w : World) (T : Tr) (nb : Int → Nat) (F : Nat → Prop) (no : Int) (lo : Bytes) (hi : Option Bytes) (ns : List Int) (es : Es),
 TreeA w p T nb F → PutC w F p k v bt bk bv bp → Bn T.size T.nodes H no lo hi ns es → ns.Nodup → inB lo hi k → keyOk k → 3 + k.length + v.length ≤ mostE T.size → GivS T → (∀ x ∈ T.given, 1 ≤ x ∧ x ≤ 2147483647) → (∀ x, T.nodes x ≠ none → 1 ≤ x ∧ x ≤ 2147483647) → H ≤ T.given.length → T.count ≤ 1000000000 → (∀ c ps, T.nodes no = some (innNd c ps) → ps ≠ []) →
 Ret Tryz.prog 68 [I no, ptr bt 0, ptr bk 0, ptr bv 0, ptr bp 0] w fun val w' => ∃ T' nb' F', TreeA w' p T' nb' F' ∧ PutPost T H no lo hi ns es k v val T' ∧ Kp F w w' ∧ (∀ i, F' i → F i ∨ w.heap.size ≤ i) ∧ ∀ x, T.nodes x ≠ none → x ∉ ns → nb' x = nb x
theorem putAt_leaf {p : Nat} {k v : Bytes} {bt bk bv bp : Nat} : PutAt p k v bt bk bv bp 1 := by
 intro w T nb F no lo hi ns es h hc hB bj cx hk fS hg mG po aM jk aT
 have hl := rise_len hg.rise mG
 exact put_leaf_ret h hc hB cx hk fS hg mG (by omega) (.inr aM) jk
section
variable {w : World}
set_option maxHeartbeats 4000000 in
theorem putAt_inner {p : Nat} {k v : Bytes} {bt bk bv bp h0 : Nat} (ih : PutAt p k v bt bk bv bp (h0 + 1)) : PutAt p k v bt bk bv bp (h0 + 2) := by
 intro w T nb F no lo hi ns es h hc hB bj cx hk fS hg mG po aM jk aT
 have hz : sizeOk (T.size : Int) := size_ok h
 obtain ⟨z1, z2, -⟩ := id hz
 have A6 : orderE T.size ≤ 1000 ∧ 8 ≤ orderE T.size := by unfold orderE; omega
 obtain ⟨c, ps, ns', hn, iq, fj, bX, lR, aO, a, lo', af, nm, em, e1, e2, ha, kD, nZ, o4, ry, bE, gM, iP, fP, cr, gR⟩ := inner_step hz hB bj cx
 obtain ⟨i, ii⟩ : ∃ i, wayI (ps.map (·.1)) k = i := ⟨_, rfl⟩
 rw [ii] at ha gR
 have m0 : i ≤ ps.length := by have := wayI_le (ps.map (·.1)) k; rw [ii, List.length_map] at this; exact this
 have bc : hasE es k ↔ hasE em k := by rw [gM]; exact hasE_mid iP fP
 have nX : insE es k v = e1 ++ (insE em k v ++ e2) := by rw [gM]; exact insE_mid iP fP
 obtain ⟨mN, mC, mO, gv, kn, kc, ko, O⟩ := h.opn
 obtain ⟨q, hq, hM, eY, -⟩ := h.nodeF hn
 obtain ⟨qb, qk, qv, qc⟩ := q
 dsimp only at hq
 subst hq
 have aq := hM.blk
 have hC := hM.kids
 dsimp only at aq hC
 have kcl : (innNd c ps).kids.length = ps.length + 1 := by simp [innNd]
 rw [kcl] at hC
 obtain ⟨gc, cc, rfl⟩ := some_of hC (by omega)
 have ve := hM.bd.cs a (List.mem_of_getElem? (show (innNd c ps).kids[_]? = some a from ha))
 have jo : a ∈ c :: ps.map (·.2) := List.mem_of_getElem? ha
 have bN := hc.t
 have eM := hc.k
 have lN := hc.f
 have eW := h.lt
 have a7 := Ext.drew0 w
 refine ret_of_run (e := [(0, _), (1, _), (2, _), (3, _), (4, _)]) Tryz.func68 rfl Tryz.ntmps68 rfl rfl (qN rfl (zqa rfl (zqa rfl (qM rfl (qV ((by first | exact yld U24 rfl rfl bN rfl | exact yld U24 rfl rfl O.blk rfl | exact yld U24 rfl rfl aq rfl | exact yld U24 rfl rfl eM rfl)) ?_)))))
 refine qV (ynk rfl) (qV (yfa fl74_5 rfl) (qV ((by first | exact yld U71 rfl rfl bN rfl | exact yld U71 rfl rfl O.blk rfl | exact yld U71 rfl rfl aq rfl | exact yld U71 rfl rfl eM rfl)) ?_))
 refine zqm rfl (qV (ylk (k := no) (K := KZ) U71 (ky_int U3) ti81 rfl rfl O.nm.l) ?_)
 rw [show (getL kn no).getD (.pointer none) = ptr (nb no) 0 by rw [O.ng no, hn]; rfl]
 refine zqa rfl (rEnd (run_seq (qN rfl (zqm rfl (qV (ynk rfl) (qV (yfa fl84_0 rfl) (qV ((by first | exact yld U4 rfl rfl bN rfl | exact yld U4 rfl rfl O.blk rfl | exact yld U4 rfl rfl aq rfl | exact yld U4 rfl rfl eM rfl)) ?_)))))))
 refine rEnd (run_false rfl (run_skip (qN rfl (zqm rfl (qV ((by first | exact yld U9 rfl rfl bN rfl | exact yld U9 rfl rfl O.blk rfl | exact yld U9 rfl rfl aq rfl | exact yld U9 rfl rfl eM rfl)) ?_)))))
 refine zqc [.tmp 95, .tmp 96] cf46 rfl (way_ret k aq hM.r hM.bd fj.2) ?_
 rintro _ w ⟨rfl, rfl⟩
 rw [show wayI (innNd c ps).keys k = i from ii]
 refine zqa rfl (rEnd (run_seq (run_drawL [9] (fun w' => Ext w w') (by kernel_rfl) rfl (qL [9, 10, 11, 12, 13, 14] 0 rfl (fun _ h=>(by first | exact yld U110 rfl rfl (h.blk aq) rfl | exact yld U110 rfl rfl (h.blk lN) rfl)) a7 ?_))))
 refine qL [2, 3, 4, 6, 7, 8, 9, 10, 11, 12, 13, 14] 1 rfl (fun _ h=>ymv rfl) a7 (qL [3, 4, 6, 7, 8, 9, 10, 11, 12, 13, 14] 2 rfl (fun _ h=>ynk rfl) a7 (qL [4, 6, 7, 8, 9, 10, 11, 12, 13, 14] 3 rfl (fun _ h=>yfa fl84_3 rfl) a7 (qL [6, 7, 8, 9, 10, 11, 12, 13, 14] 4 rfl (fun _ h=>(by first | exact yld U82 rfl rfl (h.blk aq) rfl | exact yld U82 rfl rfl (h.blk lN) rfl)) a7 ?_)))
 refine qL [6, 7, 8, 9, 10, 11, 12, 13, 14] 5 rfl (fun _ h=>ymv rfl) a7 (qL [7, 8, 9, 10, 11, 12, 13, 14] 6 rfl (fun _ h=>yis U82 ti89 rfl rfl (by omega)) a7 (qL [8, 9, 10, 11, 12, 13, 14] 7 rfl (fun _ hS => yldc U89 rfl rfl (rd_u32 ((hC.ext hS).rd) (by omega) ha)) a7 (qL [9, 10, 11, 12, 13, 14] 8 rfl (fun _ h=>ycvSi64 rfl U89 U3 (by omega)) a7 (hLate [9] (by kernel_rfl) (by kernel_rfl) (qO 9 (nCall (i := 9) rfl rfl rfl (ycv' (args := [.tmp 107]) cf68 rfl rfl) (ih _ T nb F (a : Int) lo' af nm em (h.ext a7) (hc.kp a7.kp (fun i hi => .inl hi)) kD nZ o4 hk fS hg mG po (by omega) jk (fun c' ps' fY e => by have := full_inn (aO a jo) hz fY; rw [e] at this; simp at this)) ?_))))))
 rintro v1 w1 ⟨T1, nb1, F1, h1, ⟨kN, fb, ig⟩, aC, hY, x8⟩
 refine ⟨trivial, ?_⟩
 have dJ : T1.size = T.size := fb.size
 have ql : ∀ x ∈ T1.given, 1 ≤ x ∧ x ≤ 2147483647 := fun x hx => (fb.giv x hx).elim (mG x) (fun e => po x e.1)
 have lK : T1.given.length ≤ 2147483647 := by have := rise_len fb.srt.rise ql; omega
 have fd : Kp F w w1 := a7.kp.trans aC
 have ni := a7.size
 have fe : ∀ i, F1 i → F i ∨ w.heap.size ≤ i := fun i hi => (hY i hi).imp id (fun e => by omega)
 have cJ : PutC w1 F1 p k v bt bk bv bp := hc.kp fd fe
 have jp := cJ.t
 have x9 : nb1 no = nb no := x8 no (by rw [hn]; simp) ry
 have tP : ∀ x, T.nodes x ≠ none → x ∉ ns → nb1 x = nb x := fun x hx iq => x8 x hx (fun hm => iq (bE x hm))
 have BM := fb.len
 rcases ig with ⟨rfl, ⟨nm', tQ, ox⟩, fw⟩ | ⟨up, more, rfl, ⟨n1', n2', f1, f2, lq, dL, cz, ox, lF, jO, vP, BF, m4, sI⟩⟩
 ·refine zqt 10 rfl (ymv rfl) trivial (zqt 11 rfl (yex rfl rfl) trivial (zqt 12 rfl (yex rfl rfl) trivial (zqt 13 rfl (yas rfl) trivial (zqt 14 rfl (yas rfl) trivial (qE (Run.qb (e := [(0, _), (1, _), (6, _), (7, _), (8, _), (12, _), (13, _), (14, _)]) ?_)))))); refine run_seq (qN rfl (zqm rfl (qV (yeq rfl rfl) (rEnd (run_true rfl (qN rfl (qV (yld U24 rfl rfl jp rfl) (zqm rfl (zqm rfl ?_))))))))); obtain ⟨ns1, M, kO⟩ := cr T1.nodes nm' _ tQ ox; have M1 : Mid T1.size h0 T1.nodes no lo hi c ps ns1 (e1 ++ (insE em k v ++ e2)) a := by rw [dJ]; exact M
  refine zqc [.tmp 113, .tmp 114, .tmp 115] cf47 rfl (even_all h1 M1 (aT c ps hn) m0 ha (fw (aO a jo)) fb.srt (by omega)) ?_; rintro _ w2 ⟨rfl, T2, F2, ns2, h2, b1, b2, b3, b4, ⟨ps', dZ, tT⟩, am, ce⟩; rw [dJ] at b1; refine qM rfl (zqa rfl (zqa rfl (rEnd (run_ret Tryz.func68 rfl (⟨_, rfl, T2, nb1, F2, h2, ⟨by rw [b4, kN]; simp only [bc], (fb.trans b3).mono (by omega), .inl ⟨rfl, ⟨ns2, by rw [nX]; exact b1, kO.trans b2⟩, fun bL m hm => ?_⟩⟩, fd.trans_new am (fun i hi => (fe i hi).symm), fun i hi => ?_, tP⟩)))))
  ·rw [dZ] at hm; cases hm; have := bL _ hn; rw [innNd_low] at this; intro e; have : ps' = [] := by simpa [innNd] using e
   subst this; simp at tT; omega
  ·have := fd.size; rcases ce i hi with e | e
   ·exact fe i e
   ·exact .inr (by omega)
 ·obtain ⟨pF, ns1, vi, qo, tU, tV, kP, oy⟩ := gR T1.nodes up more n1' n2' f1 f2 dL cz ox lF jO vP BF m4 sI; obtain ⟨P, hP⟩ : ∃ P, P = ps.take i ++ (up, more) :: ps.drop i := ⟨_, rfl⟩; have vG : P.length = ps.length + 1 := by rw [hP]; simp; omega
  have Ai : (innNd c P).keys = ((innNd c ps).keys).take i ++ up :: ((innNd c ps).keys).drop i := by rw [hP]; simp [innNd]
  have xd : (innNd c P).kids = ((innNd c ps).kids).take (i + 1) ++ more :: ((innNd c ps).kids).drop (i + 1) := by rw [hP]; simp [innNd]
  rw [← hP] at vi qo tU tV kP; rw [← lq, ← nX] at vi; have dj : T1.nodes no = some (innNd c ps) := by rw [pF]; exact hn
  have Ei : 1 ≤ (more : Int) ∧ (more : Int) ≤ 2147483647 := by
   rcases fb.nod (more : Int) (Bn.some cz _ cz.mem) with e | e
   ·exact po _ e
   ·exact mG _ e
  obtain ⟨q1, dM, bC, je, ij⟩ := h1.nodeF dj; obtain ⟨q1b, q1k, q1v, q1c⟩ := q1; dsimp only at dM; subst dM; have cK := bC.blk; have vh := bC.keys; have lT := bC.vals; have wU := bC.kids; have cM := bC.d1; have df := bC.d2; have lW := bC.d3; dsimp only at cK vh lT wU cM df lW; have cy : (innNd c ps).keys.length = ps.length := by simp [innNd]
  rw [kcl] at wU; rw [cy] at vh
  have qp : (innNd c P).Bd := by
   obtain ⟨d1, d2, d3, d4, d5, d6⟩ := bC.bd; refine ⟨by rw [Ai]; simp at d1 ⊢; omega, by simp [innNd], by rw [xd]; simp; omega, fun x hx => ?_, by simp [innNd], fun x hx => ?_⟩
   ·have := qo.1 x hx; omega
   ·rw [xd] at hx; rcases List.mem_append.1 hx with e | e
    ·exact d6 x (List.mem_of_mem_take e)
    ·rcases List.mem_cons.1 e with rfl | e
     ·omega
     ·exact d6 x (List.mem_of_mem_drop e)
  rw [← x9]; refine zqt 10 rfl (ymv rfl) trivial (zqt 11 rfl (yex rfl rfl) trivial (zqt 12 rfl (yex rfl rfl) trivial (zqt 13 rfl (yas rfl) trivial (zqt 14 rfl (yas rfl) trivial (qE (Run.qb (e := [(0, _), (1, _), (6, _), (7, _), (8, _), (12, _), (13, _), (14, _)]) ?_)))))); refine run_seq (qN rfl (zqm rfl (qV (yeq rfl rfl) (rEnd (run_if rfl (fun wO => ?_) (fun wO => ?_))))))
  ·exact absurd wO (by omega)
  ·have qq := h1.lt; obtain ⟨Q, hQ⟩ : ∃ Q : Nat → Prop, Q = fun g => q1k.ownBlock = some g ∨ q1c.ownBlock = some g := ⟨_, rfl⟩
   have dt : ∀ g, Q g → F1 g := fun g hg => by
    rw [hQ] at hg; exact (je g (hg.elim (fun e => .inr (.inl e)) (fun e => .inr (.inr (.inr e))))).1
   have e7 : ¬ Q (nb1 no) := fun e => by
    rw [hQ] at e; exact e.elim cM.1 cM.2.2
   have aQ : ∀ g, q1k.ownBlock = some g → Q g := fun g hg => by rw [hQ]; exact .inl hg
   have ew : ∀ g, q1c.ownBlock = some g → Q g := fun g hg => by rw [hQ]; exact .inr hg
   have dw : ∀ g, Q g → g < w1.heap.size := fun g hg => qq g (dt g hg); refine run_skip (run_seq ?_)
   -- AT: Code.region
   have rz : T1.count = T.count + if hasE es k then 0 else 1 := by rw [kN]; simp only [bc]
   refine run_cut (fun e' w2 => ∃ F2 T2, e' = [(0, I no), (1, ptr bt 0), (6, S []), (7, I 0), (8, ptr (nb1 no) 0)] ∧ T2 = T1.setN no (innNd c P) ∧ TreeA w2 p T2 nb1 F2 ∧ Kp F w w2 ∧ ∀ g, F2 g → F g ∨ w.heap.size ≤ g) ?eR (fun eR => ?iu)
   case eR =>
    rintro e' w2 ⟨F2, T2, rfl, fQ, h2, am, ce⟩; have dE := hc.kp am ce; have cD := dE.t; obtain ⟨mN2, mC2, mO2, gv2, kn2, kc2, ko2, O2⟩ := h2.opn; refine qN rfl (qV ((by first | exact yld U24 rfl rfl cD rfl | exact yld U24 rfl rfl O2.blk rfl)) ?_); refine qV (ynk rfl) (qV (yfa fl74_7 rfl) (qV ((by first | exact yld U72 rfl rfl cD rfl | exact yld U72 rfl rfl O2.blk rfl)) ?_)); refine zqm rfl (rEffP rfl (zmuB (k := no) (K := KZ) U72 (ky_int U3) rfl rfl rfl O2.cm) ?_); rintro w3 ⟨ef, ak⟩
    have h3 := O2.setC w3 _ (updI T2.changed no true) ef ak (fun x => by
     rw [getL_put]; by_cases e : x = no
     ·subst e; simp [flag, updI]
     ·rw [if_neg e, O2.cg]; simp [updI, e])
    obtain ⟨T3, kI⟩ : ∃ X, X = ({ T2 with changed := updI T2.changed no true } : Tr) := ⟨_, rfl⟩; rw [← kI] at h3; have r9 : T3.size = T.size := by rw [kI, fQ]; exact dJ
    have bH : Kp F2 w2 w3 := ak.mono' (fun k hk => by rw [hk]; exact O2.fp.2.2.1); have cV : Kp F w w3 := am.trans_new bH (fun i hi => (ce i hi).symm); have sB : T3.nodes no = some (innNd c P) := by rw [kI, fQ]; exact updI_same _ _ _
    obtain ⟨mN3, mC3, mO3, gv3, kn3, kc3, ko3, O3⟩ := h3.opn; obtain ⟨q3, wY, jl, kJ, cY⟩ := h3.nodeF sB; obtain ⟨q3b, q3k, q3v, q3c⟩ := q3; dsimp only at wY; subst wY; have cL := jl.blk; have pN := jl.kids; dsimp only at cL pN; have tk : (innNd c P).kids.length = P.length + 1 := by simp [innNd]
    rw [tk] at pN; obtain ⟨gc3, cc3, rfl⟩ := some_of pN (by omega); have pi : PutC w3 F2 p k v bt bk bv bp := dE.kp bH (fun i hi => .inl hi); have dC := pi.t; refine rEnd (run_seq (run_seq ?_)); have av := Ext.drew0 w3; refine run_draw (fun w' => Ext w3 w') (by kernel_rfl) rfl (zqt 0 rfl (ymv rfl) av (zqt 1 rfl (ynk rfl) av (zqt 2 rfl (yfa fl84_3 rfl) av (qT 3 rfl (fun _ h=>(by first | exact yld U82 rfl rfl (h.blk cL) rfl | exact yld U82 rfl rfl (h.blk dC) rfl | exact yld U82 rfl rfl (h.blk O3.blk) rfl)) av ?_)))); refine zqt 4 rfl (yln U82 rfl) av (qT 5 rfl (fun _ h=>(by first | exact yld U24 rfl rfl (h.blk cL) rfl | exact yld U24 rfl rfl (h.blk dC) rfl | exact yld U24 rfl rfl (h.blk O3.blk) rfl)) av ?_); refine zqt 6 rfl (ynk rfl) av (zqt 7 rfl (yfa fl74_3 rfl) av (qT 8 rfl (fun _ h=>(by first | exact yld U3 rfl rfl (h.blk cL) rfl | exact yld U3 rfl rfl (h.blk dC) rfl | exact yld U3 rfl rfl (h.blk O3.blk) rfl)) av ?_)); refine zqt 9 rfl (yle rfl rfl) av (qE ?_); have eV := am.size; have jS := bH.size; have jT := av.size; have gQ : T3 = (T1.setN no (innNd c P)).mark no := by rw [kI, fQ]; rfl
    have BN : T3.count = T1.count := by rw [gQ]; rfl
    have tK : Evo T1 T3 0 := by rw [gQ]; exact Evo.set fb.srt dj
    rw [r9]; refine run_if rfl (fun hb => ?_) (fun hb => ?_)
    ·refine qN rfl (zqa rfl (zqa rfl (rEnd (run_ret Tryz.func68 rfl ?_)))); obtain ⟨b1, b2⟩ := put_inn1 hz vi qo (by omega) ⟨lR.1, tV⟩ tU kP oy.nd; refine ⟨_, rfl, T3, nb1, F2, h3.ext av, ⟨by rw [BN]; exact rz, (fb.trans tK).mono (by omega), .inl ⟨rfl, ⟨_, by rw [gQ]; exact b1, oy.trans (by rw [gQ]; exact b2)⟩, fun _ m hm => ?_⟩⟩, cV.trans av.kp, ce, tP⟩; rw [sB] at hm; cases hm; intro e; have : P.length = 0 := by have := congrArg List.length e; simpa [innNd] using this
     omega
    ·obtain ⟨no', gs, f4⟩ : ∃ a l, T1.given = a :: l := by
      cases e : T1.given with
      | nil => rw [e] at BM; simp at BM; omega
      | cons a l => exact ⟨a, l, rfl⟩
     have BG := ql no' (by rw [f4]; simp); have dp := fb.srt.free no' (by rw [f4]; simp); obtain ⟨f, hf⟩ : ∃ f : Nat, no' = (f : Int) := ⟨no'.toNat, by omega⟩; subst hf; have ot : no ≠ (f : Int) := fun e => by rw [← e, dj] at dp; cases dp.1
     obtain ⟨up2, c2, jf, xe⟩ := put_inn2 hz vi qo (by omega) (by omega) ⟨lR.1, tV⟩ tU kP oy.nd (by rw [dj]; simp) dp.1 (by omega); have i3 : NdM w3.drew (innNd c P) ⟨nb1 no, q3k, q3v, .slice (some ⟨gc3, 0, none⟩) (P.length + 1) cc3⟩ := jl.kp av.kp (fun _ _ => id); have oz := part_ret i3 (by omega) rfl jf; have qW : (P.length + 1) / 2 - 1 + 1 = (P.length + 1) / 2 := by omega
     rw [qW] at oz; dsimp only at oz; refine run_skip (qN rfl (zqm rfl (zqc [.tmp 157] cf73 rfl (oz) ?_))); rintro _ w5 ⟨kv2, cv2, q5, rfl, kK, xf, eU, rx, vd, f9, ok5, oc5, okk5, occ5⟩; have iy : ∀ i, F2 i → i < w3.drew.heap.size := (h3.ext av).lt
     obtain ⟨F5, h5, iF⟩ := cY w5 _ q5 kK eU ((av.kp).trans (f9.mono' (fun i hi => .inl hi))) (fun i hi => by
      rcases hi with e | e | e | e
      ·exact .inl (.inl (by rw [e, kK]))
      ·exact .inr (fun hh => by have := ok5 i e; have := iy i hh; omega)
      ·exact .inl (.inr (.inr (.inl (by rw [xf] at e; exact e))))
      ·exact .inr (fun hh => by have := oc5 i e; have := iy i hh; omega))
     obtain ⟨T5, li⟩ : ∃ X, X = T3.setN no (innNd c (P.take ((P.length + 1) / 2 - 1))) := ⟨_, rfl⟩; rw [← li] at h5; have lg := f9.size; have jm := h5.lt; refine zqm rfl (qV (yex rfl rfl) (qV (yex rfl rfl) (rValP rfl rfl (pal (cs := [_, _, _, _]) ti84 rfl) ?_))); rintro _ w6 ⟨b6, rfl, sQ, bq, bT⟩; have nh := bq.size; refine zqa rfl (rEffP rfl (zstA (news := [.bool false, kv2, .slice none 0 0, cv2]) ti84 rfl rfl (by simp only [List.all_cons, List.all_nil, oneV_sl rx, oneV_sl vd, Bool.and_true]; rfl) rfl bT (by simp)) ?_); rintro w7 ⟨dy, dP⟩; have kj := dP.size; have aK : Ext w5 w7 := bq.trans_new dP (fun i hi => by omega); have pj : Blk w7 b6 [.bool false, kv2, .slice none 0 0, cv2] 84 := dy; have h7 := h5.ext aK; have dz : Kp F2 w3 w5 := (av.kp).trans (f9.mono' (fun i hi => by rw [hi]; exact (kJ _ (.inl rfl)).1)); have nP : Kp F w w5 := cV.trans_new dz (fun i hi => (ce i hi).symm); have jn : Kp F w w7 := nP.trans aK.kp
     have dO : ∀ i, F5 i → F i ∨ w.heap.size ≤ i := fun i hi => by
      rcases iF i hi with e | e
      ·exact ce i e
      ·rcases e with e | e | e | e
       ·exact ce i (by rw [e, kK]; exact (kJ _ (.inl rfl)).1)
       ·exact .inr (by have := ok5 i e; omega)
       ·exact ce i (kJ i (.inr (.inr (.inl (by rw [xf] at e; exact e))))).1
       ·exact .inr (by have := oc5 i e; omega)
     have lp : ∀ i, kv2.ownBlock = some i → ¬ F5 i := fun i hi hh => by
      obtain ⟨a1, a2, -⟩ := okk5 i hi; rcases iF i hh with e | e
      ·have := iy i e; omega
      ·exact a2 e
     have xg : ∀ i, cv2.ownBlock = some i → ¬ F5 i := fun i hi hh => by
      obtain ⟨a1, a2⟩ := occ5 i hi; rcases iF i hh with e | e
      ·have := iy i e; omega
      ·exact a2 e
     have jX := hc.kp jn dO; have eC := jX.t
     have Gx : NdP w7 (innNd c2 (P.drop ((P.length + 1) / 2))) kv2 (.slice none 0 0) cv2 := by
      obtain ⟨d1, d2, d3, d4, d5, d6⟩ := qp; have hd : (P.drop ((P.length + 1) / 2)).length ≤ P.length := by rw [List.length_drop]; omega
      refine ⟨?_, Sl.nil _ _ _, ?_, ⟨by simp [innNd] at d1 ⊢; omega, by simp [innNd], by simp [innNd] at d3 ⊢; omega, fun x hx => ?_, by simp [innNd], fun x hx => ?_⟩, fun g hg => ⟨by simp [Value.ownBlock], (okk5 g hg).2.2⟩, fun g hg => by simp [Value.ownBlock] at hg⟩
      ·have e : (innNd c2 (P.drop ((P.length + 1) / 2))).keys.length = (P.drop ((P.length + 1) / 2)).length := by simp [innNd]
       rw [e]; exact rx.ext aK
      ·have e : (innNd c2 (P.drop ((P.length + 1) / 2))).kids.length = (P.drop ((P.length + 1) / 2)).length + 1 := by simp [innNd]
       rw [e]; exact vd.ext aK
      ·obtain ⟨y, hy, rfl⟩ := List.mem_map.1 (show x ∈ (P.drop ((P.length + 1) / 2)).map (·.1) from hx); exact d4 y.1 (List.mem_map.2 ⟨y, List.mem_of_mem_drop hy, rfl⟩)
      ·rcases List.mem_cons.1 (show x ∈ c2 :: (P.drop ((P.length + 1) / 2)).map (·.2) from hx) with rfl | hx
       ·exact d6 _ (List.mem_cons_of_mem _ (List.mem_map.2 ⟨_, List.mem_of_getElem? jf, rfl⟩))
       ·obtain ⟨y, hy, rfl⟩ := List.mem_map.1 hx; exact d6 y.2 (List.mem_cons_of_mem _ (List.mem_map.2 ⟨y, List.mem_of_mem_drop hy, rfl⟩))
     have tM : T5.given = (f : Int) :: gs := by rw [li, kI, fQ]; exact f4
     have tN : T5.nodes (f : Int) = none := by rw [li, kI, fQ]; show updI (updI T1.nodes no _) no _ (f : Int) = none; rw [updI_ne (Ne.symm ot), updI_ne (Ne.symm ot)]; exact dp.1
     have BK : ∀ i, ownP kv2 (.slice none 0 0) cv2 i → ¬ F5 i := fun i hi => by
      rcases hi with e | e | e
      ·exact lp i e
      ·simp [Value.ownBlock] at e
      ·exact xg i e
     have gS := fresh_ret h7 tM (by rw [f4] at lK; simp at lK; omega) Gx BK tN; rw [show (innNd c2 (P.drop ((P.length + 1) / 2))).leaf = false from rfl] at gS; refine rEnd (Run.qb (e := [(1, _), (6, _), (7, _), (13, _), (15, _)]) ?_); refine qN rfl (zqm rfl (qV ((by first | exact yld U24 rfl rfl pj rfl | exact yld U24 rfl rfl eC rfl)) ?_)); refine qV ((by first | exact yldA U84 rfl ti84 rfl (Blk.cells (n := 4) pj (news := [_, _, _, _]) rfl) rfl | exact yldA U84 rfl ti84 rfl (Blk.cells (n := 4) eC (news := [_, _, _, _]) rfl) rfl)) ?_; refine zqc [.tmp 162, .tmp 163] cf67 rfl (gS) ?_; rintro _ w8 ⟨rfl, b8, F8, h8, lY, rm⟩; refine zqa rfl (zqa rfl (rEnd (run_ret Tryz.func68 rfl ?_)))
     have BL : (({ T5 with given := gs } : Tr).setN (f : Int) (innNd c2 (P.drop ((P.length + 1) / 2)))).mark (f : Int) = ((({ (T1.setN no (innNd c (P.take ((P.length + 1) / 2 - 1)))).mark no with given := gs } : Tr).setN (f : Int) (innNd c2 (P.drop ((P.length + 1) / 2))))).mark (f : Int) := by
      rw [li, gQ]
      have e5 : ∀ (a b : Nd), updI (updI T1.nodes no (some b)) no (some a) = updI T1.nodes no (some a) := fun a b => by
       funext x; unfold updI; split <;> rfl
      show ({ T1 with nodes := updI (updI (updI T1.nodes no _) no _) _ _, given := gs, changed := _ } : Tr) = { T1 with nodes := updI (updI T1.nodes no _) _ _, given := gs, changed := _ }; rw [e5]
      rfl
     rw [BL] at h8; obtain ⟨m1, m2, g1, g2, q1', q2', q3', q4', q5', q6', q7', q8', q9'⟩ := xe; refine ⟨_, rfl, _, _, F8, h8, ⟨rz, ?_, .inr ⟨up2, f, rfl, m1, m2, g1, g2, q1', q2', q3', oy.trans q4', q5', q6', q7', q8', q9', by omega⟩⟩, jn.trans_new lY (fun i hi => (dO i hi).symm), fun i hi => ?_, fun x hx Aj => ?_⟩
     ·have e1 : Evo T1 ((T1.setN no (innNd c (P.take ((P.length + 1) / 2 - 1)))).mark no) 0 := Evo.set fb.srt dj; have e2 := Evo.fresh (n := innNd c2 (P.drop ((P.length + 1) / 2))) e1.srt (show _ = (f : Int) :: gs from f4); exact (fb.trans (e1.trans e2)).mono (by omega)
     ·rcases rm i hi with e | e | e
      ·exact dO i e
      ·exact .inr (by omega)
      ·rcases e with e | e | e
       ·exact .inr (by have := (okk5 i e).1; omega)
       ·simp [Value.ownBlock] at e
       ·exact .inr (by have := (occ5 i e).1; omega)
     ·have xh : x ≠ (f : Int) := fun e => by
       have := oy.d2 x hx Aj; rw [e, dp.1, ← e] at this; exact hx this.symm
      rw [updI_ne xh]; exact tP x hx Aj
   case iu =>
    have cr : ∀ {l : List Bytes}, ∀ c' ∈ l.map S, c'.oneCell' = true := fun c' hc => by obtain ⟨z, -, rfl⟩ := List.mem_map.1 hc; rfl
    have ey : ∀ {l : List Nat}, ∀ c' ∈ l.map u32v, c'.oneCell' = true := fun c' hc => by obtain ⟨z, -, rfl⟩ := List.mem_map.1 hc; rfl
    have eL := Ext.drew0 w1; have ab : Kp Q w1 w1.drew := eL.kp; have eD := vh.ext eL; have iA := wU.ext eL; have bO := eL.size; refine run_drawL [22,25] (fun w' => Kp Q w1 w') (by kernel_rfl) rfl (qL [20, 21, 22, 23, 24, 25] 0 rfl (fun _ h=>ymv rfl) ab (hTakeU (i := 1) rfl (by kernel_rfl) rfl rfl (fun _ => ymv rfl) (ab) (qL [3, 4, 5, 9, 19, 20, 21, 22, 23, 24, 25] 2 rfl (fun _ h=>ymv rfl) ab (qL [4, 5, 9, 19, 20, 21, 22, 23, 24, 25] 3 rfl (fun _ h=>ynk rfl) ab (qL [5, 9, 19, 20, 21, 22, 23, 24, 25] 4 rfl (fun _ h=>yfa fl84_1 rfl) ab (qL [9, 19, 20, 21, 22, 23, 24, 25] 5 rfl (fun _ h=>yld U23 rfl rfl (h.blk cK e7) rfl) ab (qL [9, 19, 20, 21, 22, 23, 24, 25] 6 rfl (fun _ h=>ymv rfl) ab (qL [8, 9, 19, 20, 21, 22, 23, 24, 25] 7 rfl (fun _ h=>ymv rfl) ab (qL [11, 12, 13, 19, 20, 21, 22, 23, 24, 25] 10 rfl (fun _ h=>ymv rfl) ab (qL [12, 13, 19, 20, 21, 22, 23, 24, 25] 11 rfl (fun _ h=>ynk rfl) ab (qL [13, 19, 20, 21, 22, 23, 24, 25] 12 rfl (fun _ h=>yfa fl84_3 rfl) ab (qL [19, 20, 21, 22, 23, 24, 25] 13 rfl (fun _ h=>yld U82 rfl rfl (h.blk cK e7) rfl) ab (qL [15, 19, 20, 21, 22, 23, 24, 25] 14 rfl (fun _ h=>ymv rfl) ab ?_))))))))))))); refine qL [19, 20, 21, 22, 23, 24, 25] 15 rfl (fun _ h=>yad rfl rfl (by omega)) ab (qL [17, 18, 19, 20, 21, 22, 23, 24, 25] 16 rfl (fun _ h=>ymv rfl) ab (qL [18, 19, 20, 21, 22, 23, 24, 25] 17 rfl (fun _ h=>ycv32 rfl U3 U89) ab (hTwoL (i := 8) (j := 18) (by kernel_rfl) ?_ ?_)))
    ·refine nValPL (i := 8) rfl rfl rfl (pbs (parts := [(0, .tmp 124)]) (cs := [_]) (zs := [Value.string ⟨#[]⟩]) U23 ti9 rfl (by kernel_rfl) rfl rfl rfl (by decide)) ?_; rintro _ w8 ⟨b8, rfl, ⟨Ag, br, da⟩, db⟩; refine ⟨ab.trans br.kp, ?_⟩; have ab := ab.trans (br.kp (S := Q)); have eD := eD.ext br; have iA := iA.ext br
     try have dS := dS.ext br
     have Ah : w1.heap.size ≤ b8 := by omega
     have bO := Nat.le_trans bO br.size; refine hTwoL (i := 9) (j := 18) (by kernel_rfl) ?_ ?_
     ·refine nCallL (i := 9) rfl rfl rfl (yc (args := [.tmp 122, .tmp 123, .tmp 125]) cf69 rfl) (insS_ret (i := i) eD db rfl cr m0 (by omega) (fun b hb e => by have e : b8 = b := oinj e; have := dw _ (aQ _ hb); omega)) ?_; rintro kv9 w9 ⟨bS, aH, cN⟩; refine ⟨ab.trans (aH.mono' aQ), ?_⟩; have ab := ab.trans (aH.mono' aQ); have iA := iA.kp aH (fun g hg e => (df g e).2 hg)
      try have dS := dS.kp aH (fun g hg e => by have e' : b18 = g := oinj hg; have := dw _ (aQ _ e); omega)
      have cN : ∀ g, kv9.ownBlock = some g → q1k.ownBlock = some g ∨ w1.heap.size ≤ g := fun g hg => (cN g hg).imp id (fun e => Nat.le_trans bO e); have bO := Nat.le_trans bO aH.size; refine hOneL (i := 18) (by kernel_rfl) (nValPL (i := 18) rfl rfl rfl (pbs (parts := [(0, .tmp 134)]) (cs := [_]) (zs := [Value.int .u32 0]) U82 ti89 rfl (by kernel_rfl) rfl rfl rfl (by decide)) ?_); rintro _ w18 ⟨b18, rfl, ⟨xi, cE, xj⟩, dS⟩; refine ⟨ab.trans cE.kp, ?_⟩; have ab := ab.trans (cE.kp (S := Q))
      try have eD := eD.ext cE
      have iA := iA.ext cE
      try have db := db.ext cE
      try have bS := bS.ext cE
      have xl : w1.heap.size ≤ b18 := by omega
      have bO := Nat.le_trans bO cE.size; have oA := fun (g : Nat) (hg : kv9.ownBlock = some g) => bS.lt hg; refine hOneL (i := 19) (by kernel_rfl) (nCallL (i := 19) rfl rfl rfl (yc (args := [.tmp 130, .tmp 132, .tmp 135]) cf72 rfl) (insU_ret (i := i + 1) iA dS rfl ey (by omega) (by omega) (fun b hb e => by have e : b18 = b := oinj e; have := dw _ (ew _ hb); omega)) ?_); rintro cv19 w19 ⟨jq, ff, dq⟩; refine ⟨ab.trans (ff.mono' ew), ?_⟩; have ab := ab.trans (ff.mono' ew); have bS := bS.kp ff (fun g hg e => (cN g hg).elim (fun e' => (df g e').2 e) (fun e' => by have := dw _ (ew _ e); omega))
      have eZ : ∀ g, w1.heap.size ≤ g → kv9.ownBlock = some g → cv19.ownBlock ≠ some g := fun g hg h1 h2 => by
       rcases dq g h2 with e | e
       ·have := dw _ (ew _ e); omega
       ·have := oA g h1; omega
      have dq : ∀ g, cv19.ownBlock = some g → q1c.ownBlock = some g ∨ w1.heap.size ≤ g := fun g hg => (dq g hg).imp id (fun e => Nat.le_trans bO e); refine qL [21, 22, 23, 24, 25] 20 rfl (fun _ h=>ynk rfl) ab (qL [22, 23, 24, 25] 21 rfl (fun _ h=>yfa fl84_1 rfl) ab (hLate [22] (by kernel_rfl) (by kernel_rfl) (qO 22 (nEffP (i := 22) rfl rfl (zst ti23 rfl rfl (oneV_sl bS) (ab.blk cK e7) (by simp)) ?_)))); rintro w22 ⟨dx, oB⟩; refine ⟨trivial, ?_⟩; refine zqt 23 rfl (ynk rfl) trivial (zqt 24 rfl (yfa fl84_3 rfl) trivial (qO 25 (nEffP (i := 25) rfl rfl (zst ti82 rfl rfl (oneV_sl jq) dx (by simp)) ?_))); rintro w25 ⟨oC, bK⟩; refine ⟨trivial, ?_⟩; refine qE (Run.qb (e := [(0, _), (1, _), (6, _), (7, _), (8, _), (13, _)]) ?_); have bz := oB.trans bK
      have ld : ∀ g, kv9.ownBlock = some g → g ≠ nb1 no := fun g hg e => by
       rcases cN g hg with h | h
       ·rw [e] at h; exact cM.1 h
       ·have := cK.lt; omega
      have de : ∀ g, cv19.ownBlock = some g → g ≠ nb1 no := fun g hg e => by
       rcases dq g hg with h | h
       ·rw [e] at h; exact cM.2.2 h
       ·have := cK.lt; omega
      obtain ⟨ic, dF⟩ := bC.re (w' := w25) (n' := innNd c P) (kv' := kv9) (vv' := q1v) (cv' := cv19) oC (by
        rw [Ai]; have := bS.kp bz ld; simp only [List.map_append, List.map_cons, List.map_take, List.map_drop, List.length_append, List.length_cons, List.length_take, List.length_drop, cy]; rw [show min i ps.length + (ps.length - i + 1) = ps.length + 1 by omega]
        exact this) (by
        have e : (innNd c P).vals = (innNd c ps).vals := rfl; rw [e]
        exact (lT.kp ab (fun g hg e => by
         rw [hQ] at e; rcases e with e | e
         ·exact (df g e).1 hg
         ·exact lW g hg e)).kp bz (fun g hg e => cM.2.1 (by rw [← e]; exact hg))) (by
        rw [xd]; have := jq.kp bz de; rw [Nat.mod_eq_of_lt (show more < 4294967296 by omega)] at this; simp only [List.map_append, List.map_cons, List.map_take, List.map_drop, List.length_append, List.length_cons, List.length_take, List.length_drop, kcl]; rw [show min (i + 1) (ps.length + 1) + (ps.length + 1 - (i + 1) + 1) = ps.length + 1 + 1 by omega]
        exact this) qp cN (fun g hg => .inl hg) dq (fun g hg => ⟨fun e => ⟨fun e' => by have := lT.lt e'; omega, eZ g hg e⟩, fun e => by have := lT.lt e; omega⟩)
      obtain ⟨F2, h2, ce⟩ := ij w25 _ ⟨nb1 no, kv9, q1v, cv19⟩ rfl ic ((ab.mono' (fun g hg => by
       rw [hQ] at hg
       exact hg.elim (fun e => .inr (.inl e)) (fun e => .inr (.inr (.inr e))))).trans (bz.mono' (fun g hg => .inl hg))) (fun g hg => (dF g hg).imp id (fun e hh => by have := qq g hh; omega))
      have oD : ∀ g, F2 g → F1 g ∨ w1.heap.size ≤ g := fun g hg => by
       rcases ce g hg with e | e
       ·exact .inl e
       ·exact (dF g e).imp (fun e => (je g e).1) id
      have rA := fd.size; refine (eR _ _ ⟨F2, _, rfl, rfl, h2, fd.trans_new (S := F) (S' := F1) ((ab.mono' dt).trans (bz.mono' (fun g hg => by rw [hg]; exact (je _ (.inl rfl)).1))) (fun i hi => (fe i hi).symm), fun g hg => ?_⟩).qb; rcases oD g hg with e | e
      ·exact fe g e
      ·exact .inr (by omega)
     ·refine nValPL (i := 18) rfl rfl rfl (pbs (parts := [(0, .tmp 134)]) (cs := [_]) (zs := [Value.int .u32 0]) U82 ti89 rfl (by kernel_rfl) rfl rfl rfl (by decide)) ?_; rintro _ w18 ⟨b18, rfl, ⟨xi, cE, xj⟩, dS⟩; refine ⟨ab.trans cE.kp, ?_⟩; have ab := ab.trans (cE.kp (S := Q))
      try have eD := eD.ext cE
      have iA := iA.ext cE
      try have db := db.ext cE
      try have bS := bS.ext cE
      have xl : w1.heap.size ≤ b18 := by omega
      have bO := Nat.le_trans bO cE.size; refine hOneL (i := 9) (by kernel_rfl) (nCallL (i := 9) rfl rfl rfl (yc (args := [.tmp 122, .tmp 123, .tmp 125]) cf69 rfl) (insS_ret (i := i) eD db rfl cr m0 (by omega) (fun b hb e => by have e : b8 = b := oinj e; have := dw _ (aQ _ hb); omega)) ?_); rintro kv9 w9 ⟨bS, aH, cN⟩; refine ⟨ab.trans (aH.mono' aQ), ?_⟩; have ab := ab.trans (aH.mono' aQ); have iA := iA.kp aH (fun g hg e => (df g e).2 hg)
      try have dS := dS.kp aH (fun g hg e => by have e' : b18 = g := oinj hg; have := dw _ (aQ _ e); omega)
      have cN : ∀ g, kv9.ownBlock = some g → q1k.ownBlock = some g ∨ w1.heap.size ≤ g := fun g hg => (cN g hg).imp id (fun e => Nat.le_trans bO e); have bO := Nat.le_trans bO aH.size; have oA := fun (g : Nat) (hg : kv9.ownBlock = some g) => bS.lt hg; refine hOneL (i := 19) (by kernel_rfl) (nCallL (i := 19) rfl rfl rfl (yc (args := [.tmp 130, .tmp 132, .tmp 135]) cf72 rfl) (insU_ret (i := i + 1) iA dS rfl ey (by omega) (by omega) (fun b hb e => by have e : b18 = b := oinj e; have := dw _ (ew _ hb); omega)) ?_); rintro cv19 w19 ⟨jq, ff, dq⟩; refine ⟨ab.trans (ff.mono' ew), ?_⟩; have ab := ab.trans (ff.mono' ew); have bS := bS.kp ff (fun g hg e => (cN g hg).elim (fun e' => (df g e').2 e) (fun e' => by have := dw _ (ew _ e); omega))
      have eZ : ∀ g, w1.heap.size ≤ g → kv9.ownBlock = some g → cv19.ownBlock ≠ some g := fun g hg h1 h2 => by
       rcases dq g h2 with e | e
       ·have := dw _ (ew _ e); omega
       ·have := oA g h1; omega
      have dq : ∀ g, cv19.ownBlock = some g → q1c.ownBlock = some g ∨ w1.heap.size ≤ g := fun g hg => (dq g hg).imp id (fun e => Nat.le_trans bO e); refine qL [21, 22, 23, 24, 25] 20 rfl (fun _ h=>ynk rfl) ab (qL [22, 23, 24, 25] 21 rfl (fun _ h=>yfa fl84_1 rfl) ab (hLate [22] (by kernel_rfl) (by kernel_rfl) (qO 22 (nEffP (i := 22) rfl rfl (zst ti23 rfl rfl (oneV_sl bS) (ab.blk cK e7) (by simp)) ?_)))); rintro w22 ⟨dx, oB⟩; refine ⟨trivial, ?_⟩; refine zqt 23 rfl (ynk rfl) trivial (zqt 24 rfl (yfa fl84_3 rfl) trivial (qO 25 (nEffP (i := 25) rfl rfl (zst ti82 rfl rfl (oneV_sl jq) dx (by simp)) ?_))); rintro w25 ⟨oC, bK⟩; refine ⟨trivial, ?_⟩; refine qE (Run.qb (e := [(0, _), (1, _), (6, _), (7, _), (8, _), (13, _)]) ?_); have bz := oB.trans bK
      have ld : ∀ g, kv9.ownBlock = some g → g ≠ nb1 no := fun g hg e => by
       rcases cN g hg with h | h
       ·rw [e] at h; exact cM.1 h
       ·have := cK.lt; omega
      have de : ∀ g, cv19.ownBlock = some g → g ≠ nb1 no := fun g hg e => by
       rcases dq g hg with h | h
       ·rw [e] at h; exact cM.2.2 h
       ·have := cK.lt; omega
      obtain ⟨ic, dF⟩ := bC.re (w' := w25) (n' := innNd c P) (kv' := kv9) (vv' := q1v) (cv' := cv19) oC (by
        rw [Ai]; have := bS.kp bz ld; simp only [List.map_append, List.map_cons, List.map_take, List.map_drop, List.length_append, List.length_cons, List.length_take, List.length_drop, cy]; rw [show min i ps.length + (ps.length - i + 1) = ps.length + 1 by omega]
        exact this) (by
        have e : (innNd c P).vals = (innNd c ps).vals := rfl; rw [e]
        exact (lT.kp ab (fun g hg e => by
         rw [hQ] at e; rcases e with e | e
         ·exact (df g e).1 hg
         ·exact lW g hg e)).kp bz (fun g hg e => cM.2.1 (by rw [← e]; exact hg))) (by
        rw [xd]; have := jq.kp bz de; rw [Nat.mod_eq_of_lt (show more < 4294967296 by omega)] at this; simp only [List.map_append, List.map_cons, List.map_take, List.map_drop, List.length_append, List.length_cons, List.length_take, List.length_drop, kcl]; rw [show min (i + 1) (ps.length + 1) + (ps.length + 1 - (i + 1) + 1) = ps.length + 1 + 1 by omega]
        exact this) qp cN (fun g hg => .inl hg) dq (fun g hg => ⟨fun e => ⟨fun e' => by have := lT.lt e'; omega, eZ g hg e⟩, fun e => by have := lT.lt e; omega⟩)
      obtain ⟨F2, h2, ce⟩ := ij w25 _ ⟨nb1 no, kv9, q1v, cv19⟩ rfl ic ((ab.mono' (fun g hg => by
       rw [hQ] at hg
       exact hg.elim (fun e => .inr (.inl e)) (fun e => .inr (.inr (.inr e))))).trans (bz.mono' (fun g hg => .inl hg))) (fun g hg => (dF g hg).imp id (fun e hh => by have := qq g hh; omega))
      have oD : ∀ g, F2 g → F1 g ∨ w1.heap.size ≤ g := fun g hg => by
       rcases ce g hg with e | e
       ·exact .inl e
       ·exact (dF g e).imp (fun e => (je g e).1) id
      have rA := fd.size; refine (eR _ _ ⟨F2, _, rfl, rfl, h2, fd.trans_new (S := F) (S' := F1) ((ab.mono' dt).trans (bz.mono' (fun g hg => by rw [hg]; exact (je _ (.inl rfl)).1))) (fun i hi => (fe i hi).symm), fun g hg => ?_⟩).qb; rcases oD g hg with e | e
      ·exact fe g e
      ·exact .inr (by omega)
    ·refine nValPL (i := 18) rfl rfl rfl (pbs (parts := [(0, .tmp 134)]) (cs := [_]) (zs := [Value.int .u32 0]) U82 ti89 rfl (by kernel_rfl) rfl rfl rfl (by decide)) ?_; rintro _ w18 ⟨b18, rfl, ⟨xi, cE, xj⟩, dS⟩; refine ⟨ab.trans cE.kp, ?_⟩; have ab := ab.trans (cE.kp (S := Q))
     try have eD := eD.ext cE
     have iA := iA.ext cE
     try have db := db.ext cE
     try have bS := bS.ext cE
     have xl : w1.heap.size ≤ b18 := by omega
     have bO := Nat.le_trans bO cE.size; refine hOneL (i := 8) (by kernel_rfl) (nValPL (i := 8) rfl rfl rfl (pbs (parts := [(0, .tmp 124)]) (cs := [_]) (zs := [Value.string ⟨#[]⟩]) U23 ti9 rfl (by kernel_rfl) rfl rfl rfl (by decide)) ?_); rintro _ w8 ⟨b8, rfl, ⟨Ag, br, da⟩, db⟩; refine ⟨ab.trans br.kp, ?_⟩; have ab := ab.trans (br.kp (S := Q)); have eD := eD.ext br; have iA := iA.ext br
     try have dS := dS.ext br
     have Ah : w1.heap.size ≤ b8 := by omega
     have bO := Nat.le_trans bO br.size; refine hOneL (i := 9) (by kernel_rfl) (nCallL (i := 9) rfl rfl rfl (yc (args := [.tmp 122, .tmp 123, .tmp 125]) cf69 rfl) (insS_ret (i := i) eD db rfl cr m0 (by omega) (fun b hb e => by have e : b8 = b := oinj e; have := dw _ (aQ _ hb); omega)) ?_); rintro kv9 w9 ⟨bS, aH, cN⟩; refine ⟨ab.trans (aH.mono' aQ), ?_⟩; have ab := ab.trans (aH.mono' aQ); have iA := iA.kp aH (fun g hg e => (df g e).2 hg)
     try have dS := dS.kp aH (fun g hg e => by have e' : b18 = g := oinj hg; have := dw _ (aQ _ e); omega)
     have cN : ∀ g, kv9.ownBlock = some g → q1k.ownBlock = some g ∨ w1.heap.size ≤ g := fun g hg => (cN g hg).imp id (fun e => Nat.le_trans bO e); have bO := Nat.le_trans bO aH.size; have oA := fun (g : Nat) (hg : kv9.ownBlock = some g) => bS.lt hg; refine hOneL (i := 19) (by kernel_rfl) (nCallL (i := 19) rfl rfl rfl (yc (args := [.tmp 130, .tmp 132, .tmp 135]) cf72 rfl) (insU_ret (i := i + 1) iA dS rfl ey (by omega) (by omega) (fun b hb e => by have e : b18 = b := oinj e; have := dw _ (ew _ hb); omega)) ?_); rintro cv19 w19 ⟨jq, ff, dq⟩; refine ⟨ab.trans (ff.mono' ew), ?_⟩; have ab := ab.trans (ff.mono' ew); have bS := bS.kp ff (fun g hg e => (cN g hg).elim (fun e' => (df g e').2 e) (fun e' => by have := dw _ (ew _ e); omega))
     have eZ : ∀ g, w1.heap.size ≤ g → kv9.ownBlock = some g → cv19.ownBlock ≠ some g := fun g hg h1 h2 => by
      rcases dq g h2 with e | e
      ·have := dw _ (ew _ e); omega
      ·have := oA g h1; omega
     have dq : ∀ g, cv19.ownBlock = some g → q1c.ownBlock = some g ∨ w1.heap.size ≤ g := fun g hg => (dq g hg).imp id (fun e => Nat.le_trans bO e); refine qL [21, 22, 23, 24, 25] 20 rfl (fun _ h=>ynk rfl) ab (qL [22, 23, 24, 25] 21 rfl (fun _ h=>yfa fl84_1 rfl) ab (hLate [22] (by kernel_rfl) (by kernel_rfl) (qO 22 (nEffP (i := 22) rfl rfl (zst ti23 rfl rfl (oneV_sl bS) (ab.blk cK e7) (by simp)) ?_)))); rintro w22 ⟨dx, oB⟩; refine ⟨trivial, ?_⟩; refine zqt 23 rfl (ynk rfl) trivial (zqt 24 rfl (yfa fl84_3 rfl) trivial (qO 25 (nEffP (i := 25) rfl rfl (zst ti82 rfl rfl (oneV_sl jq) dx (by simp)) ?_))); rintro w25 ⟨oC, bK⟩; refine ⟨trivial, ?_⟩; refine qE (Run.qb (e := [(0, _), (1, _), (6, _), (7, _), (8, _), (13, _)]) ?_); have bz := oB.trans bK
     have ld : ∀ g, kv9.ownBlock = some g → g ≠ nb1 no := fun g hg e => by
      rcases cN g hg with h | h
      ·rw [e] at h; exact cM.1 h
      ·have := cK.lt; omega
     have de : ∀ g, cv19.ownBlock = some g → g ≠ nb1 no := fun g hg e => by
      rcases dq g hg with h | h
      ·rw [e] at h; exact cM.2.2 h
      ·have := cK.lt; omega
     obtain ⟨ic, dF⟩ := bC.re (w' := w25) (n' := innNd c P) (kv' := kv9) (vv' := q1v) (cv' := cv19) oC (by
       rw [Ai]; have := bS.kp bz ld; simp only [List.map_append, List.map_cons, List.map_take, List.map_drop, List.length_append, List.length_cons, List.length_take, List.length_drop, cy]; rw [show min i ps.length + (ps.length - i + 1) = ps.length + 1 by omega]
       exact this) (by
       have e : (innNd c P).vals = (innNd c ps).vals := rfl; rw [e]
       exact (lT.kp ab (fun g hg e => by
        rw [hQ] at e; rcases e with e | e
        ·exact (df g e).1 hg
        ·exact lW g hg e)).kp bz (fun g hg e => cM.2.1 (by rw [← e]; exact hg))) (by
       rw [xd]; have := jq.kp bz de; rw [Nat.mod_eq_of_lt (show more < 4294967296 by omega)] at this; simp only [List.map_append, List.map_cons, List.map_take, List.map_drop, List.length_append, List.length_cons, List.length_take, List.length_drop, kcl]; rw [show min (i + 1) (ps.length + 1) + (ps.length + 1 - (i + 1) + 1) = ps.length + 1 + 1 by omega]
       exact this) qp cN (fun g hg => .inl hg) dq (fun g hg => ⟨fun e => ⟨fun e' => by have := lT.lt e'; omega, eZ g hg e⟩, fun e => by have := lT.lt e; omega⟩)
     obtain ⟨F2, h2, ce⟩ := ij w25 _ ⟨nb1 no, kv9, q1v, cv19⟩ rfl ic ((ab.mono' (fun g hg => by
      rw [hQ] at hg
      exact hg.elim (fun e => .inr (.inl e)) (fun e => .inr (.inr (.inr e))))).trans (bz.mono' (fun g hg => .inl hg))) (fun g hg => (dF g hg).imp id (fun e hh => by have := qq g hh; omega))
     have oD : ∀ g, F2 g → F1 g ∨ w1.heap.size ≤ g := fun g hg => by
      rcases ce g hg with e | e
      ·exact .inl e
      ·exact (dF g e).imp (fun e => (je g e).1) id
     have rA := fd.size; refine (eR _ _ ⟨F2, _, rfl, rfl, h2, fd.trans_new (S := F) (S' := F1) ((ab.mono' dt).trans (bz.mono' (fun g hg => by rw [hg]; exact (je _ (.inl rfl)).1))) (fun i hi => (fe i hi).symm), fun g hg => ?_⟩).qb; rcases oD g hg with e | e
     ·exact fe g e
     ·exact .inr (by omega)
theorem putAt_all {p : Nat} {k v : Bytes} {bt bk bv bp : Nat} : ∀ H, PutAt p k v bt bk bv bp (H + 1)
 | 0 => putAt_leaf
 | h + 1 => putAt_inner (putAt_all h)
end
theorem insE_len (es : Es) (k v : Bytes) : (insE es k v).length = es.length + if hasE es k then 0 else 1 := by
 by_cases h : hasE es k
 ·rw [insE_set h, if_pos h, List.length_set]; rfl
 ·have := posE_le es k; rw [insE_new h, if_neg h, List.length_append, List.length_cons, List.length_take, List.length_drop]; omega
theorem delE_len {es : Es} {k : Bytes} (h : hasE es k) : (delE es k).length + 1 = es.length := by
 have := hasE_lt h
 unfold delE
 rw [if_pos h, List.length_append, List.length_take, List.length_drop]
 omega
theorem InvP.stepR {T T' : Tr} {H H' g : Nat} {ns ns' : List Int} {es es' : Es} (h : InvP T H ns es) (e : EvoR T T' g) (b : Bn T.size T'.nodes H' T'.root [] none ns' es') (v : Ev T.nodes T'.nodes ns ns') (c : T'.count = es'.length) : InvP T' H' ns' es' := by
 have hn := e.num h.num h.gnum
 have hs : T'.size = T.size := (show Evo _ _ _ from e).size
 refine ⟨by rw [hs]; exact b, v.nd, fun x hx => ?_, c, hn.1, hn.2, e.giv, e.chgd h.chg⟩
 rcases v.d3 x hx with e | ⟨e1, e2⟩
 ·exact e
 ·exact absurd (h.all x e1) e2
theorem Inv.first {T : Tr} {H : Nat} {ns : List Int} {es : Es} (h : Inv T H ns es) (hz : sizeOk (T.size : Int)) (hr : T.root = 0) {f : Int} {gs : List Int} (hg : T.given = f :: gs) :
  es = [] ∧ H = 0 ∧ InvP { ((({ T with given := gs } : Tr).setN f (leafNd [])).mark f) with root := f } 1 [f] [] ∧ EvoR T { ((({ T with given := gs } : Tr).setN f (leafNd [])).mark f) with root := f } 1 := by
 rcases h.std with ⟨-, hH, iq, gM⟩ | ⟨e, -⟩
 ·have gz : EvoR T { ((({ T with given := gs } : Tr).setN f (leafNd [])).mark f) with root := f } 1 := (Evo.fresh h.giv hg).toR'; have hn := gz.num h.num h.gnum
  have cw : ∀ x, T.nodes x = none := fun x => by
   cases e : T.nodes x with
   | none => rfl
   | some n => have := h.all x (by rw [e]; simp); rw [iq] at this; cases this
  subst gM; refine ⟨rfl, hH, ⟨?_, by simp, fun x hx => ?_, h.cnt, hn.1, hn.2, gz.giv, gz.chgd h.chg⟩, gz⟩
  ·refine Bn.of_leaf (by have := hz.2.1; show T.size ≤ 4096; omega) (updI_same _ _ _) ⟨by simp, List.Pairwise.nil⟩ ?_ (by simp); have := hz.1; show 3 + entB [] ≤ T.size; simp [entB]; omega
  ·have aZ : updI T.nodes f (some (leafNd [])) x ≠ none := hx; by_cases e : x = f
   ·simp [e]
   ·rw [updI_ne e, cw] at aZ; exact absurd rfl aZ
 ·exact absurd hr e
theorem InvP.two {T T2 : Tr} {H g : Nat} {ns : List Int} {es es' : Es} (h : InvP T H ns es) (hz : sizeOk (T.size : Int)) (e : Evo T T2 g) {up : Bytes} {more : Nat} (t : Two T.size H T.nodes T2.nodes T.root [] none ns es' up more) {f : Int} {gs : List Int} (mp : T2.given = f :: gs) {r : Nat} (hr : T.root = (r : Int)) (hc : T2.count = es'.length) :
  ∃ ns', InvP { ((({ T2 with given := gs } : Tr).setN f (innNd r [(up, more)])).mark f) with root := f } (H + 1) ns' es' ∧ EvoR T { ((({ T2 with given := gs } : Tr).setN f (innNd r [(up, more)])).mark f) with root := f } (g + 1) := by
 obtain ⟨n1, n2, e1, e2, rfl, b1, b2, gz, lF, jO, vP, iM, jV, sI⟩ := t
 have BO : T2.nodes f = none := (e.srt.free f (by rw [mp]; simp)).1
 have lq := gz.nd
 have kg : ∀ y ∈ n1, y ≠ f := fun y hy e => b1.some y hy (by rw [e]; exact BO)
 have dD : ∀ y ∈ n2, y ≠ f := fun y hy e => b2.some y hy (by rw [e]; exact BO)
 have hE : EvoR T { ((({ T2 with given := gs } : Tr).setN f (innNd r [(up, more)])).mark f) with root := f } (g + 1) := (e.trans (Evo.fresh (n := innNd r [(up, more)]) e.srt mp)).toR'
 have tW : r ≠ 0 := by
  have := h.num T.root (h.bn.some _ h.bn.mem); omega
 have Gy : (r : Int) ≠ f := fun e' => kg _ b1.mem (by rw [hr]; exact e')
 have Gz : (more : Int) ≠ f := dD _ b2.mem
 have A6 : 8 ≤ orderE T.size := by have := hz.1; unfold orderE; omega
 obtain ⟨h0, rfl⟩ : ∃ h0, H = h0 + 1 := ⟨H - 1, by have := h.bn.pos; omega⟩
 refine ⟨f :: (n1 ++ n2), h.stepR hE ?_ (gz.trans (Ev.new (List.nodup_cons.2 ⟨fun hf => ?_, lq⟩) BO (fun x hx => (List.mem_cons.1 hx).symm) (fun x hx => List.mem_cons_of_mem _ hx) (List.mem_cons_self ..))) hc, hE⟩
 ·refine Bn.of_inner (c := r) (ps := [(up, more)]) (by have := hz.1; omega) (updI_same _ _ _) ⟨by simpa using vP, by simp [Rise]⟩ (by simp; omega) ⟨tW, by simpa using sI⟩ (by simpa using lF) (fun d hd m hm => ?_) ⟨n1, n2, e1, e2, rfl, rfl, ?_, ?_⟩
  ·have p8 : d = r ∨ d = more := by simpa using hd
   rcases p8 with rfl | rfl
   ·have mM : updI T2.nodes f (some (innNd d [(up, more)])) (d : Int) = some m := hm; rw [updI_ne Gy] at mM; exact iM m (by rw [hr]; exact mM)
   ·have mM : updI T2.nodes f (some (innNd r [(up, d)])) (d : Int) = some m := hm; rw [updI_ne Gz] at mM; exact jV m mM
  ·rw [← hr]; exact b1.away (fun y _ hy => updI_ne (kg y hy))
  ·exact b2.away (fun y _ hy => updI_ne (dD y hy))
 ·rcases List.mem_append.1 hf with hf | hf
  ·exact kg _ hf rfl
  ·exact dD _ hf rfl
theorem EvoR.mono {T T' : Tr} {a b : Nat} (h : EvoR T T' a) (dY : a ≤ b) : EvoR T T' b := Evo.mono h dY
theorem Two.two {z : Nat} {N N' : Nodes} {no : Int} {lo : Bytes} {hi : Option Bytes} {ns : List Int} {es : Es} {up : Bytes} {more : Nat} (hz : sizeOk (z : Int)) (t : Two z 1 N N' no lo hi ns es up more) : 2 ≤ es.length := by
 obtain ⟨n1, n2, e1, e2, rfl, b1, b2, -, -, -, -, iM, jV, -⟩ := t
 obtain ⟨z1, z2, -⟩ := id hz
 obtain ⟨h1, -⟩ := b1.leaf (by omega)
 obtain ⟨h2, -⟩ := b2.leaf (by omega)
 have a1 := iM _ h1
 have a2 := jV _ h2
 rw [leafNd_low] at a1 a2
 have e1n : e1 ≠ [] := fun e => a1 (by rw [e]; simp [entB]; omega)
 have e2n : e2 ≠ [] := fun e => a2 (by rw [e]; simp [entB]; omega)
 have := List.length_pos_iff.2 e1n
 have := List.length_pos_iff.2 e2n
 rw [List.length_append]
 omega
section
variable {w : World} {p : Nat} {T : Tr} {nb : Int → Nat} {F : Nat → Prop}
def TreeS (p : Nat) (F : Nat → Prop) (w w' : World) (T' : Tr) (H' : Nat) (ns' : List Int) (es' : Es) : Prop := ∃ nb' F', TreeA w' p T' nb' F' ∧ Inv T' H' ns' es' ∧ Kp F w w' ∧ ∀ k, F' k → F k ∨ w.heap.size ≤ k
def may (z : Nat) (k v : Bytes) : Prop := keyOk k ∧ 3 + k.length + v.length ≤ mostE z
instance (k : Bytes) : Decidable (keyOk k) := by unfold keyOk; infer_instance
instance (z : Nat) (k v : Bytes) : Decidable (may z k v) := by unfold may; infer_instance
set_option maxHeartbeats 4000000 in
theorem putT_ret (h : TreeA w p T nb F) {H : Nat} {ns : List Int} {es : Es} (hI : Inv T H ns es) (gM : es.length ≤ 900000) (k v : Bytes) (cy : k.length ≤ 140737488355328) (eQ : v.length ≤ 140737488355328) :
  Ret Tryz.prog 38 [ptr p 0, S k, S v] w fun val w' => (val = I 1 ∧ ¬ may T.size k v ∧ Ext w w') ∨ (val = I 3 ∧ may T.size k v ∧ T.given.length < H + 1 ∧ Ext w w') ∨ (val = I 0 ∧ may T.size k v ∧ H + 1 ≤ T.given.length ∧ ∃ T' H' ns', TreeS p F w w' T' H' ns' (insE es k v) ∧ EvoR T T' (H + 3)) := by
 have hz : sizeOk (T.size : Int) := size_ok h
 obtain ⟨z1, z2, -⟩ := id hz
 have wO : mostE T.size ≤ 1100 := by unfold mostE; omega
 have d8 := hI.gl
 obtain ⟨mN, mC, mO, gv, kn, kc, ko, O⟩ := h.opn
 obtain ⟨ga, gcp, mp, -⟩ := O.gs.rd.shape
 subst mp
 have Iw := (hI.cnts hz).2
 refine ret_of_run (e := [(0, _), (1, _), (2, _)]) Tryz.func38 rfl Tryz.ntmps38 rfl rfl (qN rfl (rValP rfl rfl (pbx rfl rfl) ?_))
 rintro _ w1 ⟨bt, rfl, Ab, aa, aj⟩
 refine rValP rfl rfl (pbx rfl rfl) ?_
 rintro _ w2 ⟨bk, rfl, r6, ad, ay⟩
 refine rValP rfl rfl (pbx rfl rfl) ?_
 rintro _ w3 ⟨bv, rfl, DC, ai, aN⟩
 have eV := aa.size
 have dH := ad.size
 have jS := ai.size
 have bN := (ad.trans ai).blk aj
 have eM := ai.blk ay
 have kH := aN
 have gO : Ext w w3 := (aa.trans ad).trans ai
 have e8 := gO.blk O.blk
 have ah := h.lt
 have oE : ¬ F bt := fun e => by have := ah _ e; omega
 have pP : ¬ F bk := fun e => by have := ah _ e; omega
 have tG : ¬ F bv := fun e => by have := ah _ e; omega
 refine zqa rfl (rEnd (run_seq (run_block (qN rfl (qV (yld U24 rfl rfl bN rfl) (qV (yeqpN U24 rfl rfl) (zqa rfl (rEnd (run_false rfl (run_seq ?_))))))))))
 have av := Ext.drew0 w3
 have fX : ∀ (b : Bool) (w0 : World), decide (keyOk k) = b → Ret Tryz.prog 66 [S k] w0 fun v' w' => v' = .bool b ∧ w' = w0 := fun b w0 hb => by
  have := key_ret k w0; rw [show decide (1 ≤ k.length ∧ k.length ≤ 64) = b from hb] at this; exact this
 by_cases hk : keyOk k
 ·refine run_draw (fun w' => Ext w3 w') (by kernel_rfl) rfl (qT 0 rfl (fun _ h=>(by first | exact yld U9 rfl rfl (h.blk bN) rfl | exact yld U9 rfl rfl (h.blk eM) rfl | exact yld U9 rfl rfl (h.blk kH) rfl | exact yld U9 rfl rfl (h.blk e8) rfl)) av ?_); refine zqo 1 [.tmp 14] rfl cf66 rfl (fX true _ (decide_eq_true hk)) ?_; rintro _ w4 ⟨rfl, rfl⟩; refine ⟨av, ?_⟩; refine zqt 2 rfl ((by first | exact yntd rfl | exact ynt rfl)) av ?_; refine zqt 3 rfl (ymv rfl) av (qT 4 rfl (fun _ h=>(by first | exact yld U9 rfl rfl (h.blk bN) rfl | exact yld U9 rfl rfl (h.blk eM) rfl | exact yld U9 rfl rfl (h.blk kH) rfl | exact yld U9 rfl rfl (h.blk e8) rfl)) av ?_); refine zqt 5 rfl (ylnS U9 rfl) av (zqt 6 rfl (yad rfl rfl (by omega)) av (qT 7 rfl (fun _ h=>(by first | exact yld U9 rfl rfl (h.blk bN) rfl | exact yld U9 rfl rfl (h.blk eM) rfl | exact yld U9 rfl rfl (h.blk kH) rfl | exact yld U9 rfl rfl (h.blk e8) rfl)) av ?_)); refine zqt 8 rfl (ylnS U9 rfl) av (zqt 9 rfl (yad rfl rfl (by omega)) av (qT 10 rfl (fun _ h=>(by first | exact yld U24 rfl rfl (h.blk bN) rfl | exact yld U24 rfl rfl (h.blk eM) rfl | exact yld U24 rfl rfl (h.blk kH) rfl | exact yld U24 rfl rfl (h.blk e8) rfl)) av ?_)); refine zqt 11 rfl (ynk rfl) av (zqt 12 rfl (yfa fl74_2 rfl) av (qT 13 rfl (fun _ h=>(by first | exact yld U3 rfl rfl (h.blk bN) rfl | exact yld U3 rfl rfl (h.blk eM) rfl | exact yld U3 rfl rfl (h.blk kH) rfl | exact yld U3 rfl rfl (h.blk e8) rfl)) av ?_)); refine zqt 14 rfl (ygt rfl rfl) av (zqt 15 rfl (ypF rfl rfl) av (zqt 16 rfl (yas rfl) av (qE (Run.qb (e := [(3, _), (4, _), (5, _), (6, _), (13, _)]) ?_)))); refine run_if rfl (fun hm => ?_) (fun hm => ?_)
  ·refine qN rfl (zqa rfl (rEnd (run_ret Tryz.func38 rfl ?_))); exact ⟨_, rfl, .inl ⟨rfl, fun hh => by have := hh.2; omega, gO.trans av⟩⟩
  ·have qr : may T.size k v := ⟨hk, by omega⟩; have aE : Ext w3 w3.drew.drew := av.trans (Ext.drew0 _); have dT := gO.trans aE; refine run_seq (run_draw (fun w' => Ext w3 w') (by kernel_rfl) rfl (qT 0 rfl (fun _ h=>(by first | exact yld U24 rfl rfl (h.blk bN) rfl | exact yld U24 rfl rfl (h.blk e8) rfl)) aE ?_)); refine zqt 1 rfl (ynk rfl) aE (zqt 2 rfl (yfa fl74_6 rfl) aE (qT 3 rfl (fun _ h=>(by first | exact yld U34 rfl rfl (h.blk bN) rfl | exact yld U34 rfl rfl (h.blk e8) rfl)) aE ?_)); refine zqt 4 rfl (yln U34 rfl) aE (qT 5 rfl (fun _ h=>(by first | exact yld U24 rfl rfl (h.blk bN) rfl | exact yld U24 rfl rfl (h.blk e8) rfl)) aE ?_); refine zqo 6 [.tmp 36] rfl cf25 rfl (need_ret (h.ext dT) hI (by omega)) ?_; rintro _ w4 ⟨rfl, rfl⟩; refine ⟨aE, ?_⟩; refine zqt 7 rfl (ylt rfl rfl) aE (zqt 8 rfl (yas rfl) aE (qE (run_if rfl (fun hf => ?_) (fun hf => ?_))))
   ·refine qN rfl (zqa rfl (rEnd (run_ret Tryz.func38 rfl ?_))); exact ⟨_, rfl, .inr (.inl ⟨rfl, qr, by omega, dT⟩)⟩
   ·have jr : H + 1 ≤ T.given.length := by omega
    have oF := aE.blk bN; have tX := aE.blk e8; obtain ⟨w4, GA⟩ : ∃ w4, w3.drew.drew = w4 := ⟨_, rfl⟩; rw [GA] at aE dT oF tX ⊢; have h4 := h.ext dT; have jT := aE.size; refine run_skip (run_inBlock (run_seq (qN rfl (qV ((by first | exact yld U24 rfl rfl oF rfl | exact yld U24 rfl rfl tX rfl)) ?_)))); refine qV (ynk rfl) (qV (yfa fl74_1 rfl) (qV ((by first | exact yld U3 rfl rfl oF rfl | exact yld U3 rfl rfl tX rfl)) ?_)); refine qV (yeq rfl rfl) (rEnd (run_cut (fun e' w5 => ∃ T1 nb1 F1 H1 ns1 g1, e' = [(3, ptr bt 0), (4, ptr bk 0), (5, ptr bv 0), (6, I 0)] ∧ TreeA w5 p T1 nb1 F1 ∧ InvP T1 H1 ns1 es ∧ EvoR T T1 g1 ∧ g1 + H1 ≤ H + 2 ∧ ((H1 = 1 ∧ es = []) ∨ H1 + 1 ≤ T1.given.length) ∧ (∀ c ps, T1.nodes T1.root = some (innNd c ps) → ps ≠ []) ∧ Kp F w4 w5 ∧ ∀ g, F1 g → F g ∨ w4.heap.size ≤ g) ?hk (fun hk => ?dG)))
    case hk =>
     rintro e' w5 ⟨T1, nb1, F1, H1, ns1, g1, rfl, h1, eN, fb, az, oG, cT, f9, hY⟩; have GB : bt < w4.heap.size ∧ bk < w4.heap.size ∧ bv < w4.heap.size := ⟨(aE.blk bN).lt, (aE.blk eM).lt, (aE.blk kH).lt⟩; have tY : ¬ F1 bt ∧ ¬ F1 bk ∧ ¬ F1 bv := ⟨fun e => (hY _ e).elim oE (by omega), fun e => (hY _ e).elim pP (by omega), fun e => (hY _ e).elim tG (by omega)⟩; have kQ := f9.blk (aE.blk bN) oE; have BP := f9.blk (aE.blk eM) pP; have BQ := f9.blk (aE.blk kH) tG; have mL := h1.lt; refine qN rfl (rValP rfl rfl (pal (cs := [_]) ti110 rfl) ?_); rintro _ w6 ⟨bp, rfl, A0, bq, bT⟩; refine qM rfl (qV (ymf (first := []) (caps := [.tmp 3, .tmp 4, .tmp 5, .tmp 7]) rfl rfl) (rEffP rfl (zst ti110 rfl rfl rfl bT (by simp)) ?_)); rintro w7 ⟨dy, aW⟩; have aK : Ext w5 w7 := bq.trans_new aW (fun i hi => by omega); have h7 := h1.ext aK; have tZ : ¬ F1 bp := fun e => by have := mL _ e; omega
     have jX : PutC w7 F1 p k v bt bk bv bp := ⟨aK.blk kQ, aK.blk BP, aK.blk BQ, dy, tY.1, tY.2.1, tY.2.2, tZ⟩; have GC := aK.size; have fT := Ext.drew0 w7; have kj := fT.size; have lK := eN.gl
     have fB : Ret Tryz.prog 68 [I T1.root, ptr bt 0, ptr bk 0, ptr bv 0, ptr bp 0] w7.drew fun val w' => ∃ T' nb' F', TreeA w' p T' nb' F' ∧ PutPost T1 H1 T1.root [] none ns1 es k v val T' ∧ Kp F1 w7.drew w' ∧ (∀ i, F' i → F1 i ∨ w7.drew.heap.size ≤ i) ∧ ∀ x, T1.nodes x ≠ none → x ∉ ns1 → nb' x = nb1 x := by
      have tt : PutC w7.drew F1 p k v bt bk bv bp := jX.kp fT.kp (fun i hi => .inl hi); have kg : T1.size = T.size := (show Evo _ _ _ from fb).size; have fS : 3 + k.length + v.length ≤ mostE T1.size := by rw [kg]; exact qr.2
      have kN : T1.count ≤ 1000000000 := by have := eN.cnt; omega
      rcases oG with ⟨e1, e2⟩ | uQ
      ·subst e1; subst e2; exact put_leaf_ret (h7.ext fT) tt eN.bn (inB_top k) hk fS eN.giv eN.gnum (by omega) (.inl rfl) kN
      ·obtain ⟨h0, rfl⟩ : ∃ h0, H1 = h0 + 1 := ⟨H1 - 1, by have := eN.bn.pos; omega⟩; exact putAt_all h0 _ T1 nb1 F1 T1.root [] none ns1 es (h7.ext fT) tt eN.bn eN.nd (inB_top k) hk fS eN.giv eN.gnum eN.num (by omega) kN cT
     obtain ⟨mN7, mC7, mO7, gv7, kn7, kc7, ko7, O7⟩ := h7.opn; have gU := O7.blk; have eC := jX.t; refine rEnd (run_seq (run_seq (run_drawL [5] (fun w' => Ext w7 w') (by kernel_rfl) rfl (qL [5, 6, 7, 8, 9, 10] 0 rfl (fun _ h=>(by first | exact yld U110 rfl rfl (h.blk dy) rfl | exact yld U110 rfl rfl (h.blk eC) rfl | exact yld U110 rfl rfl (h.blk gU) rfl)) fT ?_)))); refine qL [2, 3, 4, 5, 6, 7, 8, 9, 10] 1 rfl (fun _ h=>(by first | exact yld U24 rfl rfl (h.blk dy) rfl | exact yld U24 rfl rfl (h.blk eC) rfl | exact yld U24 rfl rfl (h.blk gU) rfl)) fT ?_; refine qL [3, 4, 5, 6, 7, 8, 9, 10] 2 rfl (fun _ h=>ynk rfl) fT (qL [4, 5, 6, 7, 8, 9, 10] 3 rfl (fun _ h=>yfa fl74_1 rfl) fT (qL [5, 6, 7, 8, 9, 10] 4 rfl (fun _ h=>(by first | exact yld U3 rfl rfl (h.blk dy) rfl | exact yld U3 rfl rfl (h.blk eC) rfl | exact yld U3 rfl rfl (h.blk gU) rfl)) fT ?_)); refine hLate [5] (by kernel_rfl) (by kernel_rfl) (qO 5 (nCall (i := 5) rfl rfl rfl (ycv' (args := [.tmp 56]) cf68 rfl rfl) (fB) ?_)); rintro v8 w8 ⟨T2, nb2, F2, h2, ⟨u0, gV, ig⟩, am, ce, -⟩; refine ⟨trivial, ?_⟩; have kg : T1.size = T.size := (show Evo _ _ _ from fb).size; have xm : sizeOk (T1.size : Int) := by rw [kg]; exact hz
     have BR : Kp F w4 w7.drew := f9.trans (aK.trans fT).kp; have kR : Kp F w4 w8 := BR.trans_new am (fun i hi => (hY i hi).symm); have GD := f9.size
     have fF : ∀ g, F2 g → F g ∨ w4.heap.size ≤ g := fun g hg => by
      rcases ce g hg with e | e
      ·exact hY g e
      ·exact .inr (by omega)
     have xn : T2.count = (insE es k v).length := by rw [insE_len, u0, eN.cnt]
     have js := kR.blk (aE.blk bN) oE; have oH : ¬ F2 bt := fun e => (fF _ e).elim oE (by omega); have BS := fb.trans gV.toR; rcases ig with ⟨rfl, cr, -⟩ | ⟨up, more, rfl, gR⟩
     ·obtain ⟨nsx, cz, kO⟩ := cr; have xo : InvP T2 H1 nsx (insE es k v) := eN.step gV cz kO xn; refine zqt 6 rfl (ymv rfl) trivial (zqt 7 rfl (yex rfl rfl) trivial (zqt 8 rfl (yex rfl rfl) trivial (zqt 9 rfl (yas rfl) trivial (zqt 10 rfl (yas rfl) trivial (qE (qN rfl (zqm rfl (qV (yne rfl rfl) (rEnd (run_false rfl (run_skip (qN rfl (qV (yld U24 rfl rfl js rfl) ?_))))))))))))); refine zqc [.tmp 78] cf48 rfl (settle_ret h2 xo) ?_; rintro _ w9 ⟨rfl, T3, H3, ns3, F3, h3, jY, GE, mF, ak, nG⟩; refine qM rfl (zqa rfl (rEnd (run_ret Tryz.func38 rfl ?_))); have mA := kR.size; refine ⟨_, rfl, .inr (.inr ⟨rfl, qr, jr, T3, H3, ns3, ⟨_, F3, h3, jY, dT.kp.trans (kR.trans_new ak (fun i hi => (fF i hi).symm)), fun g hg => ?_⟩, (BS.trans mF).mono (by omega)⟩)⟩; have xp := dT.size; rcases nG g hg with e | e
      ·exact (fF g e).imp id (fun e => by omega)
      ·exact .inr (by omega)
     ·refine zqt 6 rfl (ymv rfl) trivial (zqt 7 rfl (yex rfl rfl) trivial (zqt 8 rfl (yex rfl rfl) trivial (zqt 9 rfl (yas rfl) trivial (zqt 10 rfl (yas rfl) trivial (qE (qN rfl (zqm rfl (qV (yne rfl rfl) (rEnd (run_cut (fun e' w10 => ∃ T3 H3 ns3 nb3 F3, e' = [(3, ptr bt 0), (6, I 0)] ∧ TreeA w10 p T3 nb3 F3 ∧ InvP T3 H3 ns3 (insE es k v) ∧ EvoR T T3 (H + 3) ∧ Kp F w4 w10 ∧ ∀ g, F3 g → F g ∨ w4.heap.size ≤ g) ?rB (fun rB => ?BU)))))))))))
      case rB =>
       rintro e' w10 ⟨T3, H3, ns3, nb3, F3, rfl, h3, jY, mF, eF, nG⟩; have xq := eF.blk (aE.blk bN) oE; refine qN rfl (qV (yld U24 rfl rfl xq rfl) (zqc [.tmp 78] cf48 rfl (settle_ret h3 jY) ?_)); rintro _ w11 ⟨rfl, T4, H4, ns4, F4, GF, ua, Ix, wd, BT, Ej⟩; refine qM rfl (zqa rfl (rEnd (run_ret Tryz.func38 rfl ?_))); have il := eF.size; have xp := dT.size; refine ⟨_, rfl, .inr (.inr ⟨rfl, qr, jr, T4, H4, ns4, ⟨_, F4, GF, ua, dT.kp.trans (eF.trans_new BT (fun i hi => (nG i hi).symm)), fun g hg => ?_⟩, (mF.trans wd).mono (by omega)⟩)⟩; rcases Ej g hg with e | e
       ·exact (nG g e).imp id (fun e => by omega)
       ·exact .inr (by omega)
      case BU =>
       refine run_if rfl (fun hm => ?_) (fun hm => ?_)
       ·have m5 : T2.given.length ≤ 2147483647 := by
         have := rise_len gV.srt.rise (fun x hx => (gV.toR.num eN.num eN.gnum).2 x hx); omega
        obtain ⟨f, gs, f4⟩ : ∃ f gs, T2.given = f :: gs := by
         cases e : T2.given with
         | nil =>
           have dr := gV.len; rw [e] at dr; simp at dr; rcases oG with ⟨e1, e2⟩ | uQ
           ·subst e1; subst e2; have := gR.two xm; rw [insE_len] at this; simp at this; split at this <;> omega
           ·omega
         | cons a l => exact ⟨a, l, rfl⟩
        have uQ := eN.num T1.root (eN.bn.some _ eN.bn.mem); obtain ⟨r, hr⟩ : ∃ r : Nat, T1.root = (r : Int) := ⟨T1.root.toNat, by omega⟩; have pC : T2.root = (r : Int) := by rw [gV.root]; exact hr
        obtain ⟨ns3, jY, mF⟩ := eN.two xm gV gR f4 hr xn
        have Iy : 1 ≤ (more : Int) ∧ (more : Int) ≤ 2147483647 := by
         obtain ⟨n1, n2, e1, e2, -, -, cz, -⟩ := gR; exact (gV.toR.num eN.num eN.gnum).1 _ (cz.some _ cz.mem)
        have eu : 1 ≤ up.length ∧ up.length ≤ 64 := by
         obtain ⟨n1, n2, e1, e2, -, -, -, -, -, -, hu, -⟩ := gR; exact hu
        obtain ⟨mN8, mC8, mO8, gv8, kn8, kc8, ko8, O8⟩ := h2.opn; have m6 : Blk w8 p [I (T2.size : Int), I ((r : Nat) : Int), I (mostE T2.size : Int), I (orderE T2.size : Int), I (T2.count : Int), .map (some mN8), gv8, .map (some mC8), .map (some mO8)] 74 := by rw [← pC]; exact O8.blk
        have BV := Ext.drew0 w8; have ab : Kp F2 w8 w8.drew := BV.kp; have jt : Ext w8 w8.drew := BV; have fg := h2.lt; have bO := BV.size; have mA := kR.size; have xp := dT.size; refine run_drawL [16] (fun w' => Kp F2 w8 w') (by kernel_rfl) rfl (qL [14, 15, 16] 0 rfl (fun _ h=>yld U24 rfl rfl (h.blk js oH) rfl) ab (qL [13, 14, 15, 16] 1 rfl (fun _ h=>yld U24 rfl rfl (h.blk js oH) rfl) ab (qL [3, 12, 13, 14, 15, 16] 2 rfl (fun _ h=>ymv rfl) ab (qL [5, 6, 7, 8, 11, 12, 13, 14, 15, 16] 4 rfl (fun _ h=>yld U24 rfl rfl (h.blk js oH) rfl) ab (qL [6, 7, 8, 11, 12, 13, 14, 15, 16] 5 rfl (fun _ h=>ynk rfl) ab (qL [7, 8, 11, 12, 13, 14, 15, 16] 6 rfl (fun _ h=>yfa fl74_1 rfl) ab (qL [10, 11, 12, 13, 14, 15, 16] 9 rfl (fun _ h=>ymv rfl) ab (qL [11, 12, 13, 14, 15, 16] 10 rfl (fun _ h=>ycv32 rfl U3 U89) ab (hTwoL (i := 3) (j := 7) (by kernel_rfl) ?_ ?_)))))))))
        ·refine nValPL (i := 3) rfl rfl rfl (pbs (parts := [(0, .tmp 64)]) (cs := [_]) (zs := [Value.string ⟨#[]⟩]) U23 ti9 rfl (by kernel_rfl) rfl rfl rfl (by decide)) ?_; rintro _ wa ⟨ba, rfl, ⟨Bp, ju, kD⟩, kS⟩; refine ⟨ab.trans ju.kp, ?_⟩; have ab := ab.trans (ju.kp (S := F2)); have jt := jt.trans ju
         try have jj := jj.ext ju
         have Ek : w8.heap.size ≤ ba := by omega
         have bO := Nat.le_trans bO ju.size; refine hOneL (i := 7) (by kernel_rfl) (nValL (i := 7) rfl rfl rfl (yld U3 rfl rfl (jt.blk m6) rfl) (ab) (qL [11, 12, 13, 14, 15, 16] 8 rfl (fun _ h=>ycv32 rfl U3 U89) ab (hOneL (i := 11) (by kernel_rfl) (nValPL (i := 11) rfl rfl rfl (pbs (parts := [(0, .tmp 70), (1, .tmp 72)]) (cs := [_, _]) (zs := [Value.int .u32 0, Value.int .u32 0]) U82 ti89 rfl (by kernel_rfl) rfl rfl rfl (by decide)) ?_)))); rintro _ wb ⟨bb, rfl, ⟨pA, jv, jh⟩, jj⟩; refine ⟨ab.trans jv.kp, ?_⟩; have ab := ab.trans (jv.kp (S := F2)); have jt := jt.trans jv
         try have kS := kS.ext jv
         have El : w8.heap.size ≤ bb := by omega
         have bO := Nat.le_trans bO jv.size; refine qL [13, 14, 15, 16] 12 rfl (fun _ h=>ybd (parts := [(1, .tmp 65), (3, .tmp 73)]) (cs := [_, _, _, _]) ti84 rfl sp84 rfl rfl) ab ?_; have aT : ba ≠ bb := by have := kD.lt; have := jh.lt; omega
         rw [Nat.mod_eq_of_lt (show more < 4294967296 by omega), Nat.mod_eq_of_lt (show r < 4294967296 by omega)] at jj; have ub : NdP _ (innNd r [(up, more)]) _ (.slice none 0 0) _ := ⟨kS, Sl.nil _ _ _, jj, ⟨by simp [innNd], by simp [innNd], by simp [innNd], by simp [innNd]; omega, by simp [innNd], by simp [innNd]; omega⟩, fun k hk => ⟨by simp [Value.ownBlock], fun e => aT ((oinj hk).trans (oinj e).symm)⟩, fun k hk => by simp [Value.ownBlock] at hk⟩
         have gS := fresh_ret (h2.ext jt) f4 (by rw [f4] at m5; simp at m5; omega) ub (fun g hg hh => by
          have := fg g hh; rcases hg with e | e | e
          ·have e' : ba = g := oinj e; omega
          ·simp [Value.ownBlock] at e
          ·have e' : bb = g := oinj e; omega) (gV.srt.free f (by rw [f4]; simp)).1
         rw [show (innNd r [(up, more)]).leaf = false from rfl] at gS; refine hOneL (i := 13) (by kernel_rfl) (nCallL (i := 13) rfl rfl rfl (yc (args := [.tmp 63, .tmp 74]) cf67 rfl) (gS) ?_); rintro _ w9 ⟨rfl, b9, F9, h9, aH, ph⟩; refine ⟨ab.trans aH, ?_⟩; have ab := ab.trans aH; obtain ⟨mN9, mC9, mO9, gv9, kn9, kc9, ko9, O9⟩ := h9.opn; have dg := O9.blk; refine qL [15, 16] 14 rfl (fun _ h=>ynk rfl) ab (qL [16] 15 rfl (fun _ h=>yfa fl74_1 rfl) ab (hLate [16] (by kernel_rfl) (by kernel_rfl) (qO 16 (nEffP (i := 16) rfl rfl (zst ti3 rfl rfl rfl dg (by simp [trCs])) ?_)))); rintro w10 ⟨bG, aA⟩; refine ⟨trivial, ?_⟩; refine qE (Run.qb (e := [(3, _), (6, _)]) ?_); have mS := O9.setB w10 f T2.count (by simpa [trCs, Tr.setN, Tr.mark] using bG) aA
         have gK : ∀ g, F9 g → F g ∨ w4.heap.size ≤ g := fun g hg => by
          rcases ph g hg with e | e | e
          ·exact fF g e
          ·exact .inr (by omega)
          ·rcases e with e | e | e
           ·have e' : ba = g := oinj e; exact .inr (by omega)
           ·simp [Value.ownBlock] at e
           ·have e' : bb = g := oinj e; exact .inr (by omega)
         have eF : Kp F w4 w10 := (kR.trans_new ab (fun i hi => (fF i hi).symm)).trans_new aA (fun i hi => by rw [hi]; exact (gK _ O9.fp.1).symm); exact (rB _ _ ⟨_, _, ns3, _, F9, rfl, mS, jY, (fb.trans mF).mono (by omega), eF, gK⟩).qb
        ·refine nValL (i := 7) rfl rfl rfl (yld U3 rfl rfl (jt.blk m6) rfl) (ab) (qL [11, 12, 13, 14, 15, 16] 8 rfl (fun _ h=>ycv32 rfl U3 U89) ab (hTwoL (i := 3) (j := 11) (by kernel_rfl) ?_ ?_))
         ·refine nValPL (i := 3) rfl rfl rfl (pbs (parts := [(0, .tmp 64)]) (cs := [_]) (zs := [Value.string ⟨#[]⟩]) U23 ti9 rfl (by kernel_rfl) rfl rfl rfl (by decide)) ?_; rintro _ wa ⟨ba, rfl, ⟨Bp, ju, kD⟩, kS⟩; refine ⟨ab.trans ju.kp, ?_⟩; have ab := ab.trans (ju.kp (S := F2)); have jt := jt.trans ju
          try have jj := jj.ext ju
          have Ek : w8.heap.size ≤ ba := by omega
          have bO := Nat.le_trans bO ju.size; refine hOneL (i := 11) (by kernel_rfl) (nValPL (i := 11) rfl rfl rfl (pbs (parts := [(0, .tmp 70), (1, .tmp 72)]) (cs := [_, _]) (zs := [Value.int .u32 0, Value.int .u32 0]) U82 ti89 rfl (by kernel_rfl) rfl rfl rfl (by decide)) ?_); rintro _ wb ⟨bb, rfl, ⟨pA, jv, jh⟩, jj⟩; refine ⟨ab.trans jv.kp, ?_⟩; have ab := ab.trans (jv.kp (S := F2)); have jt := jt.trans jv
          try have kS := kS.ext jv
          have El : w8.heap.size ≤ bb := by omega
          have bO := Nat.le_trans bO jv.size; refine qL [13, 14, 15, 16] 12 rfl (fun _ h=>ybd (parts := [(1, .tmp 65), (3, .tmp 73)]) (cs := [_, _, _, _]) ti84 rfl sp84 rfl rfl) ab ?_; have aT : ba ≠ bb := by have := kD.lt; have := jh.lt; omega
          rw [Nat.mod_eq_of_lt (show more < 4294967296 by omega), Nat.mod_eq_of_lt (show r < 4294967296 by omega)] at jj; have ub : NdP _ (innNd r [(up, more)]) _ (.slice none 0 0) _ := ⟨kS, Sl.nil _ _ _, jj, ⟨by simp [innNd], by simp [innNd], by simp [innNd], by simp [innNd]; omega, by simp [innNd], by simp [innNd]; omega⟩, fun k hk => ⟨by simp [Value.ownBlock], fun e => aT ((oinj hk).trans (oinj e).symm)⟩, fun k hk => by simp [Value.ownBlock] at hk⟩
          have gS := fresh_ret (h2.ext jt) f4 (by rw [f4] at m5; simp at m5; omega) ub (fun g hg hh => by
           have := fg g hh; rcases hg with e | e | e
           ·have e' : ba = g := oinj e; omega
           ·simp [Value.ownBlock] at e
           ·have e' : bb = g := oinj e; omega) (gV.srt.free f (by rw [f4]; simp)).1
          rw [show (innNd r [(up, more)]).leaf = false from rfl] at gS; refine hOneL (i := 13) (by kernel_rfl) (nCallL (i := 13) rfl rfl rfl (yc (args := [.tmp 63, .tmp 74]) cf67 rfl) (gS) ?_); rintro _ w9 ⟨rfl, b9, F9, h9, aH, ph⟩; refine ⟨ab.trans aH, ?_⟩; have ab := ab.trans aH; obtain ⟨mN9, mC9, mO9, gv9, kn9, kc9, ko9, O9⟩ := h9.opn; have dg := O9.blk; refine qL [15, 16] 14 rfl (fun _ h=>ynk rfl) ab (qL [16] 15 rfl (fun _ h=>yfa fl74_1 rfl) ab (hLate [16] (by kernel_rfl) (by kernel_rfl) (qO 16 (nEffP (i := 16) rfl rfl (zst ti3 rfl rfl rfl dg (by simp [trCs])) ?_)))); rintro w10 ⟨bG, aA⟩; refine ⟨trivial, ?_⟩; refine qE (Run.qb (e := [(3, _), (6, _)]) ?_); have mS := O9.setB w10 f T2.count (by simpa [trCs, Tr.setN, Tr.mark] using bG) aA
          have gK : ∀ g, F9 g → F g ∨ w4.heap.size ≤ g := fun g hg => by
           rcases ph g hg with e | e | e
           ·exact fF g e
           ·exact .inr (by omega)
           ·rcases e with e | e | e
            ·have e' : ba = g := oinj e; exact .inr (by omega)
            ·simp [Value.ownBlock] at e
            ·have e' : bb = g := oinj e; exact .inr (by omega)
          have eF : Kp F w4 w10 := (kR.trans_new ab (fun i hi => (fF i hi).symm)).trans_new aA (fun i hi => by rw [hi]; exact (gK _ O9.fp.1).symm); exact (rB _ _ ⟨_, _, ns3, _, F9, rfl, mS, jY, (fb.trans mF).mono (by omega), eF, gK⟩).qb
         ·refine nValPL (i := 11) rfl rfl rfl (pbs (parts := [(0, .tmp 70), (1, .tmp 72)]) (cs := [_, _]) (zs := [Value.int .u32 0, Value.int .u32 0]) U82 ti89 rfl (by kernel_rfl) rfl rfl rfl (by decide)) ?_; rintro _ wb ⟨bb, rfl, ⟨pA, jv, jh⟩, jj⟩; refine ⟨ab.trans jv.kp, ?_⟩; have ab := ab.trans (jv.kp (S := F2)); have jt := jt.trans jv
          try have kS := kS.ext jv
          have El : w8.heap.size ≤ bb := by omega
          have bO := Nat.le_trans bO jv.size; refine hOneL (i := 3) (by kernel_rfl) (nValPL (i := 3) rfl rfl rfl (pbs (parts := [(0, .tmp 64)]) (cs := [_]) (zs := [Value.string ⟨#[]⟩]) U23 ti9 rfl (by kernel_rfl) rfl rfl rfl (by decide)) ?_); rintro _ wa ⟨ba, rfl, ⟨Bp, ju, kD⟩, kS⟩; refine ⟨ab.trans ju.kp, ?_⟩; have ab := ab.trans (ju.kp (S := F2)); have jt := jt.trans ju
          try have jj := jj.ext ju
          have Ek : w8.heap.size ≤ ba := by omega
          have bO := Nat.le_trans bO ju.size; refine qL [13, 14, 15, 16] 12 rfl (fun _ h=>ybd (parts := [(1, .tmp 65), (3, .tmp 73)]) (cs := [_, _, _, _]) ti84 rfl sp84 rfl rfl) ab ?_; have aT : ba ≠ bb := by have := kD.lt; have := jh.lt; omega
          rw [Nat.mod_eq_of_lt (show more < 4294967296 by omega), Nat.mod_eq_of_lt (show r < 4294967296 by omega)] at jj; have ub : NdP _ (innNd r [(up, more)]) _ (.slice none 0 0) _ := ⟨kS, Sl.nil _ _ _, jj, ⟨by simp [innNd], by simp [innNd], by simp [innNd], by simp [innNd]; omega, by simp [innNd], by simp [innNd]; omega⟩, fun k hk => ⟨by simp [Value.ownBlock], fun e => aT ((oinj hk).trans (oinj e).symm)⟩, fun k hk => by simp [Value.ownBlock] at hk⟩
          have gS := fresh_ret (h2.ext jt) f4 (by rw [f4] at m5; simp at m5; omega) ub (fun g hg hh => by
           have := fg g hh; rcases hg with e | e | e
           ·have e' : ba = g := oinj e; omega
           ·simp [Value.ownBlock] at e
           ·have e' : bb = g := oinj e; omega) (gV.srt.free f (by rw [f4]; simp)).1
          rw [show (innNd r [(up, more)]).leaf = false from rfl] at gS; refine hOneL (i := 13) (by kernel_rfl) (nCallL (i := 13) rfl rfl rfl (yc (args := [.tmp 63, .tmp 74]) cf67 rfl) (gS) ?_); rintro _ w9 ⟨rfl, b9, F9, h9, aH, ph⟩; refine ⟨ab.trans aH, ?_⟩; have ab := ab.trans aH; obtain ⟨mN9, mC9, mO9, gv9, kn9, kc9, ko9, O9⟩ := h9.opn; have dg := O9.blk; refine qL [15, 16] 14 rfl (fun _ h=>ynk rfl) ab (qL [16] 15 rfl (fun _ h=>yfa fl74_1 rfl) ab (hLate [16] (by kernel_rfl) (by kernel_rfl) (qO 16 (nEffP (i := 16) rfl rfl (zst ti3 rfl rfl rfl dg (by simp [trCs])) ?_)))); rintro w10 ⟨bG, aA⟩; refine ⟨trivial, ?_⟩; refine qE (Run.qb (e := [(3, _), (6, _)]) ?_); have mS := O9.setB w10 f T2.count (by simpa [trCs, Tr.setN, Tr.mark] using bG) aA
          have gK : ∀ g, F9 g → F g ∨ w4.heap.size ≤ g := fun g hg => by
           rcases ph g hg with e | e | e
           ·exact fF g e
           ·exact .inr (by omega)
           ·rcases e with e | e | e
            ·have e' : ba = g := oinj e; exact .inr (by omega)
            ·simp [Value.ownBlock] at e
            ·have e' : bb = g := oinj e; exact .inr (by omega)
          have eF : Kp F w4 w10 := (kR.trans_new ab (fun i hi => (fF i hi).symm)).trans_new aA (fun i hi => by rw [hi]; exact (gK _ O9.fp.1).symm); exact (rB _ _ ⟨_, _, ns3, _, F9, rfl, mS, jY, (fb.trans mF).mono (by omega), eF, gK⟩).qb
       ·exfalso; apply hm; intro e; obtain ⟨n1, n2, e1, e2, -, -, -, -, -, -, -, -, -, sI⟩ := gR; omega
    case dG =>
     refine run_if rfl (fun hr => ?_) (fun hr => ?_)
     ·obtain ⟨f, gs, f4⟩ : ∃ f gs, T.given = f :: gs := by
       cases e : T.given with
       | nil => rw [e] at jr; simp at jr
       | cons a l => exact ⟨a, l, rfl⟩
      have ac := Ext.drew0 w4; obtain ⟨vm, Iz, GG, fb⟩ := hI.first hz hr f4; subst vm; have ub : NdP w4.drew (leafNd []) (.slice none 0 0) (.slice none 0 0) (.slice none 0 0) := ⟨Sl.nil _ _ _, Sl.nil _ _ _, Sl.nil _ _ _, leaf_bd hz ⟨by simp, List.Pairwise.nil⟩ (by simp [entB]), fun k hk => by simp [Value.ownBlock] at hk, fun k hk => by simp [Value.ownBlock] at hk⟩; have bB : ∀ k, ¬ ownP (.slice none 0 0) (.slice none 0 0) (.slice none 0 0) k := fun k hk => by simp [ownP, Value.ownBlock] at hk
      have gS := fresh_ret (h4.ext ac) f4 (by rw [f4] at d8; simp at d8; omega) ub (fun k hk => absurd hk (bB k)) (hI.giv.free f (by rw [f4]; simp)).1; rw [show (leafNd []).leaf = true from rfl] at gS; refine run_drawL [6] (fun w' => Kp F w4 w') (by kernel_rfl) rfl (qL [4, 5, 6] 0 rfl (fun _ h=>yld U24 rfl rfl (h.blk oF oE) rfl) (ac.kp) (qL [3, 4, 5, 6] 1 rfl (fun _ h=>yld U24 rfl rfl (h.blk oF oE) rfl) (ac.kp) (qL [3, 4, 5, 6] 2 rfl (fun _ hS => ybd (parts := [(0, .const (Value.bool true))]) (cs := [_, _, _, _]) ti84 rfl sp84 rfl rfl) (ac.kp) (hOneL (i := 3) (by kernel_rfl) (nCallL (i := 3) rfl rfl rfl (yc (args := [.tmp 45, .tmp 46]) cf67 rfl) (gS) ?_))))); rintro _ w5 ⟨rfl, b5, F5, h5, aY, iF⟩; refine ⟨ac.kp.trans aY, ?_⟩; obtain ⟨mN5, mC5, mO5, gv5, kn5, kc5, ko5, O5⟩ := h5.opn; have bu := O5.blk; refine qL [5, 6] 4 rfl (fun _ h=>ynk rfl) (ac.kp.trans aY) (qL [6] 5 rfl (fun _ h=>yfa fl74_1 rfl) (ac.kp.trans aY) (hLate [6] (by kernel_rfl) (by kernel_rfl) (qO 6 (nEffP (i := 6) rfl rfl (zst ti3 rfl rfl rfl bu (by simp [trCs])) ?_)))); rintro w6 ⟨bT, bP⟩; refine ⟨trivial, ?_⟩; refine qE (Run.qb (e := [(3, _), (4, _), (5, _), (6, _)]) ?_); have h6 := O5.setB w6 f T.count (by simpa [trCs, Tr.setN, Tr.mark] using bT) bP; have lg := ac.size
      have dO : ∀ g, F5 g → F g ∨ w4.heap.size ≤ g := fun g hg => by
       rcases iF g hg with e | e | e
       ·exact .inl e
       ·exact .inr (by omega)
       ·exact absurd e (bB g)
      refine (hk _ _ ⟨_, _, F5, 1, [f], 1, rfl, h6, GG, fb, by omega, .inl ⟨rfl, rfl⟩, fun c ps hn => ?_, (ac.kp.trans aY).trans_new bP (fun i hi => by rw [hi]; exact (dO _ O5.fp.1).symm), dO⟩).qb; have fY : updI T.nodes f (some (leafNd [])) f = some (innNd c ps) := hn; rw [updI_same] at fY; have := congrArg (fun n => n.map Nd.leaf) fY; simp [leafNd, innNd] at this
     ·refine run_skip ?_; have hP := hI.toP hr; refine (hk _ _ ⟨T, nb, F, H, ns, 0, rfl, h4, hP, (Evo.refl hI.giv).toR, by omega, .inr jr, fun c ps hn => ?_, Kp.refl _ _, fun g hg => .inl hg⟩).qb; rcases hI.std with ⟨e, -⟩ | ⟨-, -, -, -, aS⟩
      ·exact absurd e hr
      ·have := aS _ hn; intro e; rw [e] at this; exact this rfl
 ·refine run_draw (fun w' => Ext w3 w') (by kernel_rfl) rfl (qT 0 rfl (fun _ h=>(by first | exact yld U9 rfl rfl (h.blk bN) rfl | exact yld U9 rfl rfl (h.blk eM) rfl | exact yld U9 rfl rfl (h.blk kH) rfl | exact yld U9 rfl rfl (h.blk e8) rfl)) av ?_); refine zqo 1 [.tmp 14] rfl cf66 rfl (fX false _ (decide_eq_false hk)) ?_; rintro _ w4 ⟨rfl, rfl⟩; refine ⟨av, ?_⟩; refine zqt 2 rfl ((by first | exact yntd rfl | exact ynt rfl)) av ?_; refine zqt 3 rfl (ymv rfl) av (qJ 4 rfl (av) (qJ 5 rfl (av) (qJ 6 rfl (av) (qJ 7 rfl (av) (qJ 8 rfl (av) (qJ 9 rfl (av) (qJ 10 rfl (av) (qJ 11 rfl (av) (qJ 12 rfl (av) (qJ 13 rfl (av) (qJ 14 rfl (av) (zqt 15 rfl (ypT rfl rfl) av (zqt 16 rfl (yas rfl) av ?_))))))))))))); refine qE (Run.qb (e := [(3, _), (4, _), (5, _), (6, _), (13, _)]) ?_); refine run_true rfl (qN rfl (zqa rfl (rEnd (run_ret Tryz.func38 rfl ?_)))); exact ⟨_, rfl, .inl ⟨rfl, fun hh => hk hh.1, gO.trans av⟩⟩
end
def Tr0 (z : Nat) : Tr := ⟨z, 0, 0, fun _ => none, [], fun _ => false, fun _ => false⟩
theorem inv0 (z : Nat) : Inv (Tr0 z) 0 [] [] := ⟨.inl ⟨rfl, rfl, rfl, rfl⟩, fun x h => absurd rfl h, rfl, fun x h => absurd rfl h, fun x h => absurd h List.not_mem_nil, ⟨List.Pairwise.nil, fun x h => absurd h List.not_mem_nil⟩, fun x h => absurd rfl h⟩
section
variable {w : World}
theorem newT_ret (z : Int) : Ret Tryz.prog 8 [I z] w fun v w' => Ext w w' ∧ ((sizeOk z ∧ ∃ p F, v = .tuple #[ptr p 0, I 0] ∧ TreeA w' p (Tr0 z.toNat) (fun _ => 0) F ∧ ∀ k, F k → w.heap.size ≤ k) ∨ (¬ sizeOk z ∧ v = .tuple #[.pointer none, I 1])) := by
 refine ret_of_run (e := [(0, _)]) Tryz.func8 rfl Tryz.ntmps8 rfl rfl (qN rfl (zqa rfl (zqa rfl (qM rfl (zqm rfl ?_)))))
 by_cases hz : sizeOk z
 ·obtain ⟨k, rfl⟩ : ∃ k : Nat, z = (k : Int) := ⟨z.toNat, by have := hz.1; omega⟩; refine zqc [.tmp 9] cf34 rfl (most_ok hz w) ?_; rintro _ w ⟨rfl, rfl⟩; refine zqm rfl (qV (yex rfl rfl) (qV (yex rfl rfl) (zqa rfl (zqa rfl (rEnd (run_seq (qN rfl (zqm rfl (qV (yne rfl rfl) (rEnd (run_if rfl (fun h0 => ?_) (fun h0 => ?_))))))))))))
  ·exact absurd rfl h0
  ·refine run_skip (qN rfl (zqm rfl (zqc [.tmp 17] cf35 rfl (order_ok hz w) ?_))); rintro _ w ⟨rfl, rfl⟩; refine zqm rfl (qV (yex rfl rfl) (qV (yex rfl rfl) (zqa rfl (zqa rfl (qM rfl (zqm rfl (zqm rfl (zqm rfl (rValP rfl rfl (pmm) ?_))))))))); rintro _ w1 ⟨m1, rfl, qW, aa, xr⟩; refine rValP rfl rfl (pmm) ?_; rintro _ w2 ⟨m2, rfl, lB, ad, rC⟩; refine rValP rfl rfl (pmm) ?_; rintro _ w3 ⟨m3, rfl, IA, ai, Em⟩; refine qV (ybd (parts := [(0, .tmp 21), (2, .tmp 22), (3, .tmp 23), (5, .tmp 24), (7, .tmp 25), (8, .tmp 26)]) (cs := [_, _, _, _, _, _, _, _, _]) ti74 rfl sp74 rfl rfl) (rValP rfl rfl (pbx rfl rfl) ?_); rintro _ w4 ⟨b, rfl, hb, aX, bs⟩; refine zqa rfl (zqa rfl (rEnd (Run.qb (e := [(2, _), (3, _)]) ?_))); refine run_ret Tryz.func8 rfl ?_; have eV := aa.size; have dH := ad.size; have jS := ai.size; have l1 : m1 < w1.heap.size := (MapB.new (K := KZ) xr).lt; have l2 : m2 < w2.heap.size := (MapB.new (K := KZ) rC).lt; have l3 : m3 < w3.heap.size := (MapB.new (K := KZ) Em).lt; have bC := (MapB.new (K := KZ) xr).ext ((ad.trans ai).trans aX); have cf := (MapB.new (K := KZ) rC).ext (ai.trans aX); have ef := (MapB.new (K := KZ) Em).ext aX; refine ⟨_, rfl, ((aa.trans ad).trans ai).trans aX, .inl ⟨hz, b, fpT b (Tr0 k) m1 m2 m3 (.slice none 0 0) (fun _ => ⟨0, .slice none 0 0, .slice none 0 0, .slice none 0 0⟩), rfl, ⟨m1, m2, m3, .slice none 0 0, fun _ => ⟨0, .slice none 0 0, .slice none 0 0, .slice none 0 0⟩, ⟨?_, ⟨[], bC, fun _ => rfl⟩, ⟨[], cf, fun _ => rfl⟩, ⟨[], ef, fun _ => rfl⟩, Sl.nil _ _ _, fun no n h => by simp [Tr0] at h, fun no n no' n' h => by simp [Tr0] at h, fun no n h => by simp [Tr0] at h, ⟨by omega, by omega, by omega, by omega, by omega, by omega⟩, fun k hk => by simp [Value.ownBlock] at hk, hz⟩, fun _ => rfl, fun _ => Iff.rfl⟩, fun i hi => ?_⟩⟩
   ·exact bs
   ·rcases hi with h | h | h | h | h | ⟨no, n, h, -⟩
    ·omega
    ·omega
    ·omega
    ·omega
    ·simp [Value.ownBlock] at h
    ·simp [Tr0] at h
 ·have hm := most_ret z w; rw [if_neg hz, if_neg hz] at hm; refine zqc [.tmp 9] cf34 rfl (hm) ?_; rintro _ w ⟨rfl, rfl⟩; refine zqm rfl (qV (yex rfl rfl) (qV (yex rfl rfl) (zqa rfl (zqa rfl (rEnd (run_seq (qN rfl (zqm rfl (qV (yne rfl rfl) (rEnd (run_if rfl (fun h0 => ?_) (fun h0 => ?_))))))))))))
  ·refine qN rfl (zqm rfl (zqa rfl (zqa rfl (rEnd (run_ret Tryz.func8 rfl ?_))))); exact ⟨_, rfl, Ext.refl _, .inr ⟨hz, rfl⟩⟩
  ·exact absurd (by decide) h0
end
def giveOk (T : Tr) (l : List Int) : Prop := l.Nodup ∧ ∀ x ∈ l, (1 ≤ x ∧ x ≤ 2147483647) ∧ T.nodes x = none ∧ T.old x = false ∧ x ∉ T.given
theorem nodup_le {l : List Int} (h : l.Nodup) (hb : ∀ x ∈ l, 1 ≤ x ∧ x ≤ 2147483647) : l.length ≤ 2147483647 := by
 have h1 := rise_len (sortZ_lt h) (a := 1) (b := 2147483647) (fun x hx => hb x (sortZ_mem.1 hx))
 rw [sortZ_len] at h1
 omega
theorem Inv.give {T : Tr} {H : Nat} {ns : List Int} {es : Es} (h : Inv T H ns es) {l : List Int} (hl : giveOk T l) : Inv { T with given := sortZ (T.given ++ l) } H ns es := by
 obtain ⟨h1, h2⟩ := hl
 refine ⟨h.std, h.all, h.cnt, h.num, fun x hx => ?_, ⟨sortZ_lt ?_, fun x hx => ?_⟩, h.chg⟩
 ·rcases List.mem_append.1 (sortZ_mem.1 hx) with hx | hx
  ·exact h.gnum x hx
  ·exact (h2 x hx).1
 ·exact List.nodup_append.2 ⟨nodup_of_lt h.giv.rise, h1, fun a ha b hb e => (h2 b hb).2.2.2 (e ▸ ha)⟩
 ·rcases List.mem_append.1 (sortZ_mem.1 hx) with hx | hx
  ·exact h.giv.free x hx
  ·exact ⟨(h2 x hx).2.1, (h2 x hx).2.2.1⟩
section
variable {w : World} {p : Nat} {T : Tr} {nb : Int → Nat} {F : Nat → Prop}
set_option maxHeartbeats 4000000 in
theorem give_ret (h : TreeA w p T nb F) {H : Nat} {ns : List Int} {es : Es} (hI : Inv T H ns es) {lv : Value} {l : List Int} (hR : Rd w lv 1 l.length (l.map I)) (hl : l.length ≤ 17592186044415) :
  Ret Tryz.prog 50 [ptr p 0, lv] w fun v w' => (v = I 0 ∧ giveOk T l ∧ Kp F w w' ∧ ∃ F', TreeA w' p { T with given := sortZ (T.given ++ l) } nb F' ∧ ∀ k, F' k → F k ∨ w.heap.size ≤ k) ∨ (v = I 1 ∧ ¬ giveOk T l ∧ Ext w w') := by
 obtain ⟨la, lc, rfl, -⟩ := hR.shape
 have d8 := hI.gl
 have ah := h.lt
 refine ret_of_run (e := [(0, _), (1, _)]) Tryz.func50 rfl Tryz.ntmps50 rfl rfl (qN rfl (zqa rfl (rEnd (run_seq (qN rfl (zqm rfl (qV (yeqpN U24 rfl rfl) (rEnd (run_false rfl (run_skip (qN rfl (rValP rfl rfl (pmm) ?_))))))))))))
 rintro _ w1 ⟨ms, rfl, GH, aa, xr⟩
 have iM : ms < w1.heap.size := (MapB.new (K := KZ) xr).lt
 refine zqa rfl (rEnd (run_seq (qN rfl (zqm rfl (qV (yln U34 rfl) (zqm rfl (rEnd (run_block (zqu (α := Nat) (0) (fun i => [(0, ptr p 0), (1, .slice la l.length lc), (5, .map (some ms)), (11, .slice la l.length lc), (12, I (l.length : Int)), (13, I (i : Int))]) (fun i w' => i ≤ l.length ∧ Ext w w' ∧ (l.take i).Nodup ∧ (∀ x ∈ l.take i, (1 ≤ x ∧ x ≤ 2147483647) ∧ T.nodes x = none ∧ T.old x = false ∧ x ∉ T.given) ∧ ∃ kv, MapB KZ w' ms kv ∧ ∀ x, getL kv x = if x ∈ l.take i then some (I 1) else none) (fun i => l.length - i) ?hI ?hround)))))))))
 case hI => exact ⟨Nat.zero_le _, aa, by simp, by simp, [], MapB.new xr, fun x => by simp [getL]⟩
 case hround =>
  rintro i wi ⟨hi, cA, bj, bF, kv, vn, fS⟩ ih; have af := h.ext cA; obtain ⟨mN, mC, mO, gv, kn, kc, ko, O⟩ := af.opn; obtain ⟨ga, gcp, mp, -⟩ := O.gs.rd.shape; subst mp; have vp := cA.size
  try dsimp only
  refine qN rfl (qV (ylt rfl rfl) (rEnd (run_seq (run_if rfl (fun kT => ?_) (fun kT => ?_)))))
  ·have cF : i < l.length := by omega
   obtain ⟨lb, lo, s, rfl, cn⟩ := rd_getI hR cF; have bx : s ∈ l := List.mem_of_getElem? cn; refine run_skip (run_seq (run_block (qN rfl (qV (yis U34 ti3 rfl rfl (by omega)) (qV (yldc U3 rfl rfl (rd_intT (hR.ext cA) cF cn)) (zqa rfl (qM rfl (zqm rfl (zqm rfl (qV (ylk (k := s) (K := KZ) U72 (ky_int U3) ti3 rfl rfl vn.l) ?_))))))))))
   have cu : (¬ (1 ≤ s ∧ s ≤ 2147483647) ∨ s ∈ l.take i ∨ T.nodes s ≠ none ∨ T.old s = true ∨ s ∈ T.given) → ¬ giveOk T l := fun hb bi => by
    obtain ⟨g1, g2⟩ := bi; obtain ⟨g3, g4, g5, g6⟩ := g2 s bx; rcases hb with hb | hb | hb | hb | hb
    ·exact hb g3
    ·obtain ⟨j, hj, e⟩ := List.mem_take_iff_getElem.1 hb; obtain ⟨uc, e2⟩ := List.getElem?_eq_some_iff.1 cn; have := (List.getElem_inj g1).1 (e.trans e2.symm); omega
    ·exact hb g4
    ·rw [g5] at hb; cases hb
    ·exact g6 hb
   obtain ⟨q, hq, jW⟩ : ∃ q : Nat, (getL kv s).getD (I 0) = I (q : Int) ∧ ((q = 0 ∧ s ∉ l.take i) ∨ (q = 1 ∧ s ∈ l.take i)) := by
    rw [fS s]; by_cases hm : s ∈ l.take i
    ·exact ⟨1, by rw [if_pos hm]; rfl, .inr ⟨rfl, hm⟩⟩
    ·exact ⟨0, by rw [if_neg hm]; rfl, .inl ⟨rfl, hm⟩⟩
   rw [hq]; refine zqd rfl rfl (rEffP rfl (zmuB U72 (ky_int U3) rfl rfl rfl vn (k := s)) ?_); rintro w2 ⟨cf, am⟩; have ad : Ext w w2 := cA.trans_new am (fun j hj => by omega); have Ak : ∀ g, F g → ¬ g = ms := fun g hg e => by have := ah g hg; omega
   have e8 := am.blk O.blk (Ak _ O.fp.1); have BW := O.nm.kp am (Ak _ O.fp.2.1); have GI := O.om.kp am (Ak _ O.fp.2.2.2.1); have GJ := O.gs.kp am (fun g hg => Ak g (O.fp.2.2.2.2 g hg)); have jw : (getL (putL kv s (I ((q : Int) + 1))) s).getD (I 0) = I ((q : Int) + 1) := by rw [getL_put, if_pos rfl]; rfl
   refine qM rfl (zqm rfl (qV (ylt rfl rfl) (rVal_if (fun cJ => ?_) (fun cJ => ?_))))
   ·refine zqm rfl (qS (qS (qV (ypT rfl rfl) (zqm rfl (qS (qS (qS (qS (qV (ypT rfl rfl) (zqm rfl (qS (qS (qS ?_))))))))))))); refine qS (qS (qS (qS (qV (ypT rfl rfl) (zqm rfl (qS (qS (qS (qS (qS (qS (qS (qV (ypT rfl rfl) ?_))))))))))))); refine zqm rfl (qS (qS (qS (qS (qS (qS (qV (ypT rfl rfl) (rEnd (run_true rfl (qN rfl (zqa rfl (rEnd (run_ret Tryz.func50 rfl ?_))))))))))))); exact ⟨_, rfl, .inr ⟨rfl, cu (.inl (by omega)), ad⟩⟩
   ·refine zqm rfl (zqm rfl (qV (ygt rfl rfl) (rVal_if (fun dE => ?_) (fun dE => ?_))))
    ·refine qV (ypF rfl rfl) (zqm rfl (qS (qS (qS (qS (qV (ypT rfl rfl) (zqm rfl (qS (qS (qS (qS (qS (qS ?_))))))))))))); refine qS (qV (ypT rfl rfl) (zqm rfl (qS (qS (qS (qS (qS (qS (qS (qV (ypT rfl rfl) (zqm rfl (qS (qS ?_))))))))))))); refine qS (qS (qS (qS (qV (ypT rfl rfl) (rEnd (run_true rfl (qN rfl (zqa rfl (rEnd (run_ret Tryz.func50 rfl ?_)))))))))); exact ⟨_, rfl, .inr ⟨rfl, cu (.inl (by omega)), ad⟩⟩
    ·refine qV (ypF rfl rfl) (zqm rfl (zqm rfl (zqm rfl (qV (ylk (k := s) (K := KZ) U72 (ky_int U3) ti3 rfl rfl cf.l) ?_)))); rw [jw]; refine qV (ygt rfl rfl) (rVal_if (fun pi => ?_) (fun pi => ?_))
     ·refine qV (ypF rfl rfl) (zqm rfl (qS (qS (qS (qS (qS (qS (qS (qV (ypT rfl rfl) (zqm rfl (qS (qS (qS ?_))))))))))))); refine qS (qS (qS (qS (qV (ypT rfl rfl) (zqm rfl (qS (qS (qS (qS (qS (qS (qV (ypT rfl rfl) (rEnd ?_))))))))))))); refine run_true rfl (qN rfl (zqa rfl (rEnd (run_ret Tryz.func50 rfl ?_)))); exact ⟨_, rfl, .inr ⟨rfl, cu (.inr (.inl (jW.elim (fun e => by have := e.1; omega) (fun e => e.2)))), ad⟩⟩
     ·have rD : s ∉ l.take i ∧ q = 0 := jW.elim (fun e => ⟨e.2, e.1⟩) (fun e => by have := e.1; omega); obtain ⟨rD, rfl⟩ := rD; refine qV (ypF rfl rfl) (zqm rfl (zqm rfl (qV (ynk rfl) (qV (yfa fl74_5 rfl) (qV (yld U71 rfl rfl e8 rfl) (zqm rfl (qV (ylk (k := s) (K := KZ) U71 (ky_int U3) ti81 rfl rfl BW.l) ?_))))))); rw [show (getL kn s).getD (.pointer none) = (match T.nodes s with | none => .pointer none | some _ => ptr (nb s) 0) by rw [O.ng s]; cases T.nodes s <;> rfl]
      cases iq : T.nodes s with
      | some n0 =>
        refine qV (ynepN U81 rfl rfl) (qV (ypF rfl rfl) (zqm rfl (qS (qS (qS (qS (qS (qS (qS (qV (ypT rfl rfl) (zqm rfl (qS (qS ?_))))))))))))); refine qS (qS (qS (qS (qV (ypT rfl rfl) (rEnd (run_true rfl (qN rfl (zqa rfl (rEnd (run_ret Tryz.func50 rfl ?_))))))))))
        exact ⟨_, rfl, .inr ⟨rfl, cu (.inr (.inr (.inl (by rw [iq]; simp)))), ad⟩⟩
      | none =>
        refine qV (ynepN U81 rfl rfl) (qV (ypF rfl rfl) (zqm rfl (zqm rfl (qV (ynk rfl) (qV (yfa fl74_8 rfl) (qV (yld U72 rfl rfl e8 rfl) (zqm rfl (qV (ylk (k := s) (K := KZ) U72 (ky_int U3) ti3 rfl rfl GI.l) ?_)))))))); rw [show (getL ko s).getD (I 0) = I (if T.old s then 1 else 0) by rw [O.og s]; cases T.old s <;> rfl]; refine qV (ygt rfl rfl) (rVal_if (fun qs => ?_) (fun qs => ?_))
        ·refine qV (ypF rfl rfl) (zqm rfl (qS (qS (qS (qS (qS (qS (qV (ypT rfl rfl) (rEnd (run_true rfl (qN rfl (zqa rfl (rEnd ?_))))))))))))); refine run_ret Tryz.func50 rfl ?_; exact ⟨_, rfl, .inr ⟨rfl, cu (.inr (.inr (.inr (.inl (by cases ho : T.old s <;> simp_all))))), ad⟩⟩
        ·have cH : T.old s = false := by cases ho : T.old s <;> simp_all
         refine qV (ypF rfl rfl) (zqm rfl (zqm rfl (qV (ynk rfl) (qV (yfa fl74_6 rfl) (qV (yld U34 rfl rfl e8 rfl) (zqm rfl (zqc [.tmp 55, .tmp 56] cf80 rfl (containsI_ret s GJ.rd (by omega)) ?_))))))); rintro _ w2 ⟨rfl, rfl⟩; refine qV (ypF rfl rfl) (rEnd (run_if rfl (fun vq => ?_) (fun vq => ?_)))
         ·refine qN rfl (zqa rfl (rEnd (run_ret Tryz.func50 rfl ?_))); exact ⟨_, rfl, .inr ⟨rfl, cu (.inr (.inr (.inr (.inr vq)))), ad⟩⟩
         ·refine run_skip (run_inBlock (run_reg rfl (zqd rfl rfl (zqm rfl (rEnd ?_))))); obtain ⟨uc, e2⟩ := List.getElem?_eq_some_iff.1 cn; refine (ih (i + 1) w2 ⟨by omega, ad, ?_, fun x hx => ?_, _, cf, fun x => ?_⟩ (by omega)).qb
          ·rw [List.take_succ_eq_append_getElem uc, e2]; exact List.nodup_append.2 ⟨bj, by simp, fun a ha b hb e => by simp at hb; subst hb; subst e; exact rD ha⟩
          ·rcases (mem_take_succ cn).1 hx with hx | rfl
           ·exact bF x hx
           ·exact ⟨by omega, iq, cH, vq⟩
          ·rw [getL_put, fS x]; by_cases qt : x = s
           ·rw [if_pos qt, if_pos ((mem_take_succ cn).2 (.inr qt))]; rfl
           ·rw [if_neg qt]; by_cases mu : x ∈ l.take i
            ·rw [if_pos mu, if_pos ((mem_take_succ cn).2 (.inl mu))]
            ·rw [if_neg mu, if_neg (fun hh => by rcases (mem_take_succ cn).1 hh with e | e; exact mu e; exact qt e)]
  ·have : i = l.length := by omega
   subst this; rw [List.take_length] at bj bF; have bi : giveOk T l := ⟨bj, bF⟩; have oq := nodup_le bj (fun x hx => (bF x hx).1); have e8 := O.blk; have eP : maxLen = 9223372036854775807 := rfl; refine run_exit rfl (qN rfl (zqm rfl (zqm rfl (qV (ynk rfl) (qV (yfa fl74_6 rfl) (qV (yld U34 rfl rfl e8 rfl) (zqm rfl (rValP rfl rfl (pap U34 ti3 rfl (by decide) rfl rfl O.gs (hR.ext cA) (by intro c hc; obtain ⟨z, -, rfl⟩ := List.mem_map.1 hc; rfl) (by omega) (by omega)) ?_)))))))); rintro gv2 w2 ⟨aV, am, fA, -⟩; have dH := am.size; have gW := am.blk e8 (fun e => O.ne.2.2.2 e); refine qV (ynk rfl) (qV (yfa fl74_6 rfl) (rEffP rfl (zst ti34 rfl rfl (oneV_sl aV) gW (by simp [trCs])) ?_)); rintro w3 ⟨aN, ak⟩; have gA : Blk w3 p (trCs T mN mC mO gv2) 74 := aN
   have En : ∀ g, gv2.ownBlock = some g → g ≠ p := fun g hg e => by
    subst e; rcases fA g hg with e | e
    ·exact O.ne.2.2.2 e
    ·have := ah g O.fp.1; omega
   have aJ := aV.kp ak (fun g hg e => En g hg e)
   have BX : Sl w3 gv2 3 1 (T.given ++ l).length ((T.given ++ l).map I) := by
    rw [List.length_append, List.map_append]; exact aJ
   refine qM rfl (zqm rfl (qV (ynk rfl) (qV (yfa fl74_6 rfl) (qV (yld U34 rfl rfl gA rfl) (zqc [.tmp 72] cf62 rfl (sortZ_ret BX (by rw [List.length_append]; omega)) ?_))))); rintro _ w4 ⟨rfl, fo, ax⟩; have bs := ax.blk gA (fun e => En p e rfl); refine qM rfl (zqa rfl (rEnd (run_ret Tryz.func50 rfl ?_))); have cO : Kp (fun k => k = p ∨ (Value.slice ga T.given.length gcp).ownBlock = some k) wi w4 := (((am.mono' (fun k e => .inr e)).trans (ak.mono' (fun k e => .inl e)))).trans_new ax (fun k e => (fA k e).elim (fun e => .inr (.inr e)) .inl); obtain ⟨F', h', i0⟩ := O.setG w4 gv2 (sortZ (T.given ++ l)) bs fo cO fA; exact ⟨_, rfl, .inl ⟨rfl, bi, cA.kp.trans (cO.mono' (fun k e => e.elim (fun e => e ▸ O.fp.1) (fun e => O.fp.2.2.2.2 k e))), F', h', fun k hk => (i0 k hk).imp id (fun e => by omega)⟩⟩
end
structure Sub1 (z : Nat) (N : Nodes) (V : List Int) (rt : Bool) (no : Int) (lo : Bytes) (hi : Option Bytes) (h : Nat) (ns : List Int) (es : Es) : Prop where
 bn : Bn z N h no lo hi ns es
 nd : ns.Nodup
 out : ∀ x ∈ ns, x ∉ V
 cnd : ∀ n, N no = some n → if rt then n.keys ≠ [] else ¬ n.low z
def NoSub (z : Nat) (N : Nodes) (V : List Int) (rt : Bool) (no : Int) (lo : Bytes) (hi : Option Bytes) : Prop := ∀ h ns es, ¬ Sub1 z N V rt no lo hi h ns es
section
variable {z : Nat} {N : Nodes} {V : List Int} {rt : Bool} {no : Int} {lo : Bytes} {hi : Option Bytes} {n : Nd}
theorem bn_at {h : Nat} {ns : List Int} {es : Es} (s : Bn z N h no lo hi ns es) : ∃ n, N no = some n ∧ NdOk z n ∧ ∀ k ∈ n.keys, inB lo hi k := by
 cases h with
 | zero => exact s.elim
 | succ h => obtain ⟨n, h1, h2, h3, -⟩ := s; exact ⟨n, h1, h2, h3⟩
theorem nosub_none (h : N no = none) : NoSub z N V rt no lo hi := fun _ _ _ s => by
 obtain ⟨n, h1, -⟩ := bn_at s.bn; rw [h] at h1; cases h1
theorem nosub_met (h : no ∈ V) : NoSub z N V rt no lo hi := fun _ _ _ s => s.out no s.bn.mem h
theorem nosub_cnd (hn : N no = some n) (h : ¬ if rt then n.keys ≠ [] else ¬ n.low z) : NoSub z N V rt no lo hi := fun _ _ _ s => h (s.cnd n hn)
theorem nosub_key (hn : N no = some n) {k : Bytes} (hk : k ∈ n.keys) (h : ¬ inB lo hi k) : NoSub z N V rt no lo hi := fun _ _ _ s => by
 obtain ⟨m, h1, -, h3⟩ := bn_at s.bn
 rw [hn] at h1; cases h1
 exact h (h3 k hk)
theorem sub1_leaf (hz : sizeOk (z : Int)) {E : Es} (hn : N no = some (leafNd E)) (bi : NdOk z (leafNd E)) (cx : ∀ k ∈ (leafNd E).keys, inB lo hi k) (hv : no ∉ V) (hc : if rt then (leafNd E).keys ≠ [] else ¬ (leafNd E).low z) : Sub1 z N V rt no lo hi 1 [no] E := by
 obtain ⟨h1, h2⟩ := (leafNd_ok (by have := hz.2.1; omega)).1 bi
 refine ⟨Bn.of_leaf (by have := hz.2.1; omega) hn h1 h2 (fun x hx => cx x.1 (List.mem_map.2 ⟨x, hx, rfl⟩)), by simp, by simpa using hv, fun m hm => ?_⟩
 rw [hn] at hm; cases hm; exact hc
structure KidsU (z : Nat) (N : Nodes) (V : List Int) (no : Int) (lo : Bytes) (hi : Option Bytes) (c : Nat) (ps : List (Bytes × Nat)) (h : Nat) (L : List (List Int × Es)) : Prop where
 len : L.length ≤ ps.length + 1
 bn : ∀ (i : Nat) b l, (bnds lo hi c ps)[i]? = some b → L[i]? = some l → Bn z N h (b.1 : Int) b.2.1 b.2.2 l.1 l.2 ∧ Full z N b.1
 nd : (L.flatMap (·.1)).Nodup
 out : ∀ x ∈ L.flatMap (·.1), x ∉ no :: V
variable {c : Nat} {ps : List (Bytes × Nat)} {L : List (List Int × Es)} {h h' a : Nat} {l : Bytes} {u : Option Bytes} {ns : List Int} {es : Es}
theorem KidsU.nil (h : Nat) : KidsU z N V no lo hi c ps h [] := ⟨by simp, fun i b l _ hl => by simp at hl, by simp, by simp⟩
theorem KidsU.change (K : KidsU z N V no lo hi c ps h []) (h' : Nat) : KidsU z N V no lo hi c ps h' [] := KidsU.nil h'
theorem KidsU.step (K : KidsU z N V no lo hi c ps h L) (hb : (bnds lo hi c ps)[L.length]? = some (a, l, u)) (s : Sub1 z N (L.flatMap (·.1) ++ no :: V) false (a : Int) l u h ns es) : KidsU z N V no lo hi c ps h (L ++ [(ns, es)]) := by
 have ah : L.length < ps.length + 1 := by
  have := (List.getElem?_eq_some_iff.1 hb).1
  rwa [bnds_length] at this
 refine ⟨by simp; omega, fun i b q dM mR => ?_, ?_, ?_⟩
 ·rcases Nat.lt_or_ge i L.length with af | af
  ·rw [List.getElem?_append_left af] at mR; exact K.bn i b q dM mR
  ·have e : i = L.length := by
    have := (List.getElem?_eq_some_iff.1 mR).1; simp at this; omega
   subst e; rw [hb] at dM; cases dM; rw [List.getElem?_append_right (Nat.le_refl _)] at mR; simp at mR; subst mR; exact ⟨s.bn, fun m hm => by have := s.cnd m hm; simpa using this⟩
 ·rw [List.flatMap_append, List.nodup_append]; refine ⟨K.nd, by simpa using s.nd, fun x hx y hy e => ?_⟩; subst e; exact s.out x (by simpa using hy) (List.mem_append_left _ hx)
 ·intro x hx; rw [List.flatMap_append] at hx; rcases List.mem_append.1 hx with hx | hx
  ·exact K.out x hx
  ·exact fun hv => s.out x (by simpa using hx) (List.mem_append_right _ hv)
theorem KidsU.pre (hz : sizeOk (z : Int)) (hn : N no = some (innNd c ps)) (K : KidsU z N V no lo hi c ps h L) {h0 : Nat} {ns0 : List Int} {es0 : Es} (s : Sub1 z N V rt no lo hi h0 ns0 es0) :
  ∃ (h2 : Nat) (L' : List (List Int × Es)), L'.length = ps.length + 1 ∧ L'.take L.length = L ∧ (∀ (i : Nat) b l, (bnds lo hi c ps)[i]? = some b → L'[i]? = some l → Bn z N (h2 + 1) (b.1 : Int) b.2.1 b.2.2 l.1 l.2 ∧ Full z N b.1) ∧ (no :: L'.flatMap (·.1)).Nodup ∧ (∀ x ∈ L'.flatMap (·.1), x ∉ V) ∧ (0 < L.length → h = h2 + 1) := by
 have ib := s.bn.pos
 rcases Nat.eq_or_lt_of_le ib with e | e
 ·have hb := s.bn; rw [← e] at hb; obtain ⟨h1, -⟩ := hb.leaf (by have := hz.2.1; omega); rw [hn] at h1; have := congrArg Nd.leaf (oinj h1); simp [leafNd, innNd] at this
 ·obtain ⟨h2, rfl⟩ : ∃ h2, h0 = h2 + 2 := ⟨h0 - 2, by omega⟩; obtain ⟨c', ps', ns', fY, rfl, -, -, -, -, aO, hC⟩ := s.bn.inner (by have := hz.1; omega); rw [hn] at fY; obtain ⟨rfl, rfl⟩ := innNd_inj (oinj fY); obtain ⟨L', iH, hS, rfl, rfl⟩ := (ch_iff hi).1 hC
  have k8 : ∀ (j : Nat) q, L[j]? = some q → L'[j]? = some q ∧ h = h2 + 1 := fun j q hq => by
   have hj : j < L.length := (List.getElem?_eq_some_iff.1 hq).1; have aM := K.len; obtain ⟨b, hb⟩ : ∃ b, (bnds lo hi c ps)[j]? = some b := ⟨_, List.getElem?_eq_getElem (by rw [bnds_length]; omega)⟩; obtain ⟨q', jW⟩ : ∃ q, L'[j]? = some q := ⟨_, List.getElem?_eq_getElem (by omega)⟩; obtain ⟨e1, e2, e3⟩ := bn_det hz (K.bn j b q hb hq).1 (hS j b q' hb jW); rw [jW]; exact ⟨by rw [Prod.ext e2.symm e3.symm], e1⟩
  refine ⟨h2, L', iH, ?_, fun i b l hb hl => ⟨hS i b l hb hl, ?_⟩, s.nd, fun x hx => s.out x (List.mem_cons_of_mem _ hx), fun h0 => ?_⟩
  ·apply List.ext_getElem?; intro j; rw [List.getElem?_take]; split
   ·rename_i hj
    rw [List.getElem?_eq_getElem hj]; exact (k8 j _ (List.getElem?_eq_getElem hj)).1
   ·rw [List.getElem?_eq_none (by omega)]
  ·obtain ⟨a, l', u', h1, ll, -, -⟩ := bnds_get hi ps lo c i (by
    have := (List.getElem?_eq_some_iff.1 hb).1
    rw [bnds_length] at this; omega)
   rw [hb] at h1; cases h1; exact aO _ (List.mem_of_getElem? ll)
  ·exact (k8 0 _ (List.getElem?_eq_getElem h0)).2
theorem kidsU_no (hz : sizeOk (z : Int)) (hn : N no = some (innNd c ps)) (K : KidsU z N V no lo hi c ps h L) (hb : (bnds lo hi c ps)[L.length]? = some (a, l, u)) (cw : NoSub z N (L.flatMap (·.1) ++ no :: V) false (a : Int) l u) : NoSub z N V rt no lo hi := fun h0 ns0 es0 s => by
 obtain ⟨h2, L', iH, ht, hS, bj, hv, -⟩ := K.pre hz hn s
 have ah : L.length < L'.length := by
  have := (List.getElem?_eq_some_iff.1 hb).1; rw [bnds_length] at this; omega
 have hq := List.getElem?_eq_getElem ah
 obtain ⟨b1, b2⟩ := hS _ _ _ hb hq
 have pE : L' = L ++ L'[L.length] :: L'.drop (L.length + 1) := by
  conv => lhs; rw [← List.take_append_drop L.length L', ht, List.drop_eq_getElem_cons ah]
 rw [pE, List.flatMap_append, List.flatMap_cons] at bj
 obtain ⟨n1, n2⟩ := List.nodup_cons.1 bj
 obtain ⟨n3, n4, n5⟩ := List.nodup_append.1 n2
 refine cw _ _ _ ⟨b1, (List.nodup_append.1 n4).1, fun x hx aZ => ?_, fun m hm => by simpa using b2 m hm⟩
 rcases List.mem_append.1 aZ with aZ | aZ
 ·exact n5 x aZ x (List.mem_append_left _ hx) rfl
 ·rcases List.mem_cons.1 aZ with rfl | aZ
  ·exact n1 (List.mem_append_right _ (List.mem_append_left _ hx))
  ·exact hv x (List.mem_flatMap.2 ⟨_, List.getElem_mem ah, hx⟩) aZ
theorem kidsU_dep (hz : sizeOk (z : Int)) (hn : N no = some (innNd c ps)) (K : KidsU z N V no lo hi c ps h L) (h0 : 0 < L.length) (hb : (bnds lo hi c ps)[L.length]? = some (a, l, u)) {W : List Int} (s : Sub1 z N W false (a : Int) l u h' ns es) (aT : h' ≠ h) : NoSub z N V rt no lo hi := fun _ ns0 es0 s0 => by
 obtain ⟨h2, L', iH, ht, hS, -, -, hh⟩ := K.pre hz hn s0
 have ah : L.length < L'.length := by
  have := (List.getElem?_eq_some_iff.1 hb).1; rw [bnds_length] at this; omega
 obtain ⟨b1, b2⟩ := hS _ _ _ hb (List.getElem?_eq_getElem ah)
 have := (bn_det hz s.bn b1).1
 have := hh h0
 omega
theorem kidsU_all (hz : sizeOk (z : Int)) (hn : N no = some (innNd c ps)) (bi : NdOk z (innNd c ps)) (cx : ∀ k ∈ (innNd c ps).keys, inB lo hi k) (K : KidsU z N V no lo hi c ps h L) (hl : L.length = ps.length + 1) (hv : no ∉ V) (hc : if rt then (innNd c ps).keys ≠ [] else ¬ (innNd c ps).low z) :
  Sub1 z N V rt no lo hi (h + 1) (no :: L.flatMap (·.1)) (L.flatMap (·.2)) := by
 obtain ⟨a1, a2, a3, a4⟩ := (innNd_ok (by have := hz.1; omega)).1 bi
 obtain ⟨b0, GK⟩ : ∃ b, (bnds lo hi c ps)[0]? = some b := ⟨_, List.getElem?_eq_getElem (by rw [bnds_length]; omega)⟩
 have hp := (K.bn 0 b0 _ GK (List.getElem?_eq_getElem (by omega))).1.pos
 obtain ⟨h2, rfl⟩ : ∃ h2, h = h2 + 1 := ⟨h - 1, by omega⟩
 have aO : ∀ d ∈ c :: ps.map (·.2), Full z N d := fun d hd => by
  obtain ⟨i, af, e⟩ := List.getElem_of_mem hd; have cF : i ≤ ps.length := by simp at af; omega
  obtain ⟨a, l', u', h1, ll, -, -⟩ := bnds_get hi ps lo c i cF; have := (K.bn i _ _ h1 (List.getElem?_eq_getElem (by omega))).2; rw [List.getElem?_eq_getElem af, e] at ll; cases ll; exact this
 refine ⟨Bn.of_inner (by have := hz.1; omega) hn a1 a2 ⟨a3, a4⟩ cx aO ((ch_iff hi).2 ⟨L, hl, fun i b l hb hl => (K.bn i b l hb hl).1, rfl, rfl⟩), ?_, fun x hx => ?_, fun m hm => ?_⟩
 ·exact List.nodup_cons.2 ⟨fun hx => K.out no hx (List.mem_cons_self ..), K.nd⟩
 ·rcases List.mem_cons.1 hx with rfl | hx
  ·exact hv
  ·exact fun h => K.out x hx (List.mem_cons_of_mem _ h)
 ·rw [hn] at hm; cases hm; exact hc
end
theorem bn_height {z : Nat} {N : Nodes} (hz : sizeOk (z : Int)) : ∀ {h : Nat} {no : Int} {lo : Bytes} {hi : Option Bytes} {ns : List Int} {es : Es}, Bn z N h no lo hi ns es → h ≤ ns.length
 | 0, _, _, _, _, _, s => s.elim
 | 1, _, _, _, _, _, s => by
   obtain ⟨-, rfl, -⟩ := s.leaf (by have := hz.2.1; omega)
   simp
 | h + 2, _, _, hi, _, _, s => by
   obtain ⟨c, ps, n1, -, rfl, -, -, -, -, -, hC⟩ := s.inner (by have := hz.1; omega); obtain ⟨L, hl, hS, rfl, rfl⟩ := (ch_iff hi).1 hC; have hq : 0 < L.length := by omega
   have := bn_height hz (hS 0 _ _ (List.getElem?_eq_getElem (by rw [bnds_length]; omega)) (List.getElem?_eq_getElem hq))
   obtain ⟨x, L', rfl⟩ : ∃ x L', L = x :: L' := by cases L with
    | nil => simp at hq
    | cons x L' => exact ⟨x, L', rfl⟩
   simp at this ⊢; omega
theorem bn_okAll {z : Nat} {N : Nodes} (hz : sizeOk (z : Int)) : ∀ {h : Nat} {no : Int} {lo : Bytes} {hi : Option Bytes} {ns : List Int} {es : Es}, Bn z N h no lo hi ns es → ∀ x ∈ ns, ∃ n, N x = some n ∧ NdOk z n
 | 0, _, _, _, _, _, s, _, _ => s.elim
 | 1, _, _, _, _, _, s, x, hx => by
   obtain ⟨h1, rfl, -⟩ := s.leaf (by have := hz.2.1; omega); obtain ⟨n, h2, h3, -⟩ := bn_at s; simp at hx; subst hx
   exact ⟨n, h2, h3⟩
 | h + 2, _, _, hi, _, _, s, x, hx => by
   obtain ⟨n, h2, h3, -⟩ := bn_at s; obtain ⟨c, ps, n1, -, rfl, -, -, -, -, -, hC⟩ := s.inner (by have := hz.1; omega); obtain ⟨L, hl, hS, rfl, rfl⟩ := (ch_iff hi).1 hC; rcases List.mem_cons.1 hx with rfl | hx
   ·exact ⟨n, h2, h3⟩
   ·obtain ⟨l, iH, rn⟩ := List.mem_flatMap.1 hx; obtain ⟨i, af, e⟩ := List.getElem_of_mem iH; exact bn_okAll hz (hS i _ l (List.getElem?_eq_getElem (by rw [bnds_length]; omega)) (by rw [List.getElem?_eq_getElem af, e])) x rn
theorem Inv.nodup {T : Tr} {H : Nat} {ns : List Int} {es : Es} (h : Inv T H ns es) : ns.Nodup := by
 rcases h.std with ⟨-, -, rfl, -⟩ | ⟨-, -, -, h, -⟩
 ·simp
 ·exact h
theorem Inv.mem {T : Tr} {H : Nat} {ns : List Int} {es : Es} (h : Inv T H ns es) (x : Int) : T.nodes x ≠ none ↔ x ∈ ns := by
 refine ⟨h.all x, fun hx => ?_⟩
 rcases h.std with ⟨-, -, rfl, -⟩ | ⟨-, -, hB, -, -⟩
 ·cases hx
 ·exact Bn.some hB x hx
theorem Inv.ok {T : Tr} {H : Nat} {ns : List Int} {es : Es} (h : Inv T H ns es) (hz : sizeOk (T.size : Int)) {x : Int} {n : Nd} (hn : T.nodes x = some n) : NdOk T.size n := by
 have hx := (h.mem x).1 (by rw [hn]; simp)
 rcases h.std with ⟨-, -, rfl, -⟩ | ⟨-, -, hB, -, -⟩
 ·cases hx
 ·obtain ⟨m, h1, h2⟩ := bn_okAll hz hB x hx; rw [hn] at h1; cases h1; exact h2
section
variable {P : Program} {e : Env} {d : Option Nat} {ty : TypeId} {pos : String} {aft : Array Edge} {g : Option (Nat × Bool)} {x : Operand} {w : World} {κ : Type} [DecidableEq κ] {K : κ → Value} {r m : Nat} {left : List (κ × Value)}
theorem pnx (hx : look e x = some (ptr r 0)) (hi : RgI K w r m left) : Yp P e ⟨d, .next x false, ty, pos, aft, g⟩ w fun v w' => (left = [] ∧ v = .tuple #[.bool false] ∧ w' = w) ∨ ∃ k u l1 l2, left = l1 ++ (k, u) :: l2 ∧ v = .tuple #[.bool true, K k, u] ∧ RgE K w' r m (k, u) (l1 ++ l2) ∧ Kp (fun i => i = r) w w' := by
 rcases ynx hx hi with ⟨h, hy⟩ | ⟨⟨k, u⟩, l1, l2, w', h, hy, h1, h2⟩
 ·exact ⟨_, _, hy, .inl ⟨h, rfl, rfl⟩⟩
 ·exact ⟨_, _, hy, .inr ⟨k, u, l1, l2, h, rfl, h1, h2⟩⟩
end
theorem RgE.i {κ : Type} [DecidableEq κ] {K : κ → Value} {w : World} {r m : Nat} {p : κ × Value} {left : List (κ × Value)} (h : RgE K w r m p left) : RgI K w r m left := h.1
def PgSl (w : World) (v : Value) (l : Pgs) : Prop := Sl w v 55 2 l.length (pgC l)
section
variable {w : World} {p : Nat} {T : Tr} {nb : Int → Nat} {F : Nat → Prop}
theorem keys_iff {T : Tr} {nb : Int → Nat} {kn : List (Int × Value)} (hg : ∀ no, getL kn no = (T.nodes no).map fun _ => ptr (nb no) 0) (x : Int) : x ∈ kn.map (·.1) ↔ T.nodes x ≠ none := by
 constructor
 ·intro hx e; have := hg x; rw [e] at this; exact getL_notin this hx
 ·intro hx
  cases e : T.nodes x with
  | none => exact absurd e hx
  | some n =>
    have := hg x; rw [e] at this; exact List.mem_map.2 ⟨_, getL_mem this, rfl⟩
set_option maxHeartbeats 4000000 in
theorem told_ret (h : TreeA w p T nb F) {H : Nat} {ns : List Int} {es : Es} (hI : Inv T H ns es) (iq : ns.length ≤ 1000000) {g : Nat} {caps : List Value} {q : Int → Bool} (GL : CF Tryz.prog g) (hw : ∀ w' x, Ext w w' → Ret Tryz.prog g (I x :: caps) w' fun v w'' => v = .bool (q x) ∧ w'' = w') :
  Ret Tryz.prog 55 [ptr p 0, .func (.func g) #[] caps.toArray] w fun v w' => Ext w w' ∧ PgSl w' v (pgs T.size T.nodes ns q) ∧ ∀ g, v.ownBlock = some g → w.heap.size ≤ g := by
 have hz : sizeOk (T.size : Int) := size_ok h
 obtain ⟨mN, mC, mO, gv, kn, kc, ko, O⟩ := h.opn
 have ah := h.lt
 have kZ := keys_iff O.ng
 refine ret_of_run (e := [(0, _), (1, _)]) Tryz.func55 rfl Tryz.ntmps55 rfl rfl (qN rfl (zqa rfl (qM rfl (zqa rfl (rEnd (run_seq (qN rfl (zqm rfl (qV (ynk rfl) (qV (yfa fl74_5 rfl) (qV (yld U71 rfl rfl O.blk rfl) (rValP rfl rfl (prg U71 rfl O.nm) ?_))))))))))))
 rintro _ w1 ⟨r, rfl, hr, aa, az⟩
 refine rEnd (run_block (zqu (α := List (Int × Value) × Value) ((kn, .slice none 0 0)) (fun x => [(0, ptr p 0), (1, .func (.func g) #[] caps.toArray), (14, ptr r 0), (5, x.2)]) (fun x w' => Ext w w' ∧ RgI KZ w' r mN x.1 ∧ (∀ y ∈ x.1, y ∈ kn) ∧ (x.1.map (·.1)).Nodup ∧ ∃ l : Pgs, Sl w' x.2 55 2 l.length (pgC l) ∧ (∀ g, x.2.ownBlock = some g → w.heap.size ≤ g ∧ g ≠ r) ∧ (l.map (·.1)).Nodup ∧ (∀ y ∈ l, y.2 = encAt T.size T.nodes y.1) ∧ ∀ z, z ∈ l.map (·.1) ↔ (z ∈ ns ∧ q z = true ∧ z ∉ x.1.map (·.1))) (fun x => x.1.length) ?hI ?hround))
 case hI =>
  refine ⟨aa, az, fun y hy => hy, O.nm.nd, [], Sl.nil _ _ _, fun g hg => by simp [Value.ownBlock] at hg, by simp, by simp, fun z => ?_⟩; simp only [List.map_nil, List.not_mem_nil, false_iff]; rintro ⟨h1, -, h3⟩; exact h3 ((kZ z).2 ((hI.mem z).2 h1))
 case hround =>
  rintro ⟨left, lv⟩ wi ⟨cA, ud, bE, bj, l, ue, bB, qu, fg, bx⟩ ih; dsimp only at ud bE bj ue bB bx
  have oq : l.length ≤ ns.length := by
   have := List.Nodup.length_le_of_subset qu (l₂ := ns) (fun z hz => ((bx z).1 hz).1)
   simpa using this
  have vp := cA.size
  try dsimp only
  refine qN rfl (rValP rfl rfl (pnx rfl ud) ?_); rintro v2 w2 hv; rcases hv with ⟨rfl, rfl, rfl⟩ | ⟨x, u, l1, l2, rfl, rfl, mH, am⟩
  ·refine qV (yex rfl rfl) (rEnd (run_seq (run_false rfl (run_exit rfl (qN rfl (zqm rfl (zqc [.tmp 40, .func 91] cf90 rfl (sortP_ret ue (by omega) (fun y hy => by have := hI.num y.1 ((hI.mem _).2 ((bx y.1).1 (List.mem_map.2 ⟨y, hy, rfl⟩)).1); omega)) ?_))))))); rintro _ w3 ⟨rfl, ak, l', hp, xt, aJ⟩; refine qM rfl (zqm rfl (zqa rfl (rEnd (run_ret Tryz.func55 rfl ?_)))); have fZ : ∀ z, z ∈ l'.map (·.1) ↔ z ∈ l.map (·.1) := fun z => (hp.map _).mem_iff; have e : l' = pgs T.size T.nodes ns q := pgs_of hI.nodup xt ((hp.map _).nodup_iff.2 qu) (fun z => by rw [fZ z, bx z]; simp) (fun y hy => fg y (hp.mem_iff.1 hy)); rw [e] at aJ; exact ⟨_, rfl, cA.trans_new ak (fun i hi => (bB i hi).1), aJ, fun g hg => (bB g hg).1⟩
  ·have BY : (x, u) ∈ kn := bE _ (by simp); have kA := getL_of_mem O.nm.nd BY; rw [O.ng x] at kA
   obtain ⟨n, hn⟩ : ∃ n, T.nodes x = some n := by
    cases e : T.nodes x with
    | none => rw [e] at kA; cases kA
    | some n => exact ⟨n, rfl⟩
   rw [hn] at kA; have hu : u = ptr (nb x) 0 := (oinj kA).symm; subst hu; have ad : Ext w w2 := cA.trans_new am (fun i hi => by omega); have h2 := h.ext ad; obtain ⟨pl, rE, hM, -, -⟩ := h2.nodeF hn; obtain ⟨qb, qk, qv, qc⟩ := pl; dsimp only at rE; subst rE; have aq := hM.blk; dsimp only at aq; have e8 := ad.blk O.blk; have aV := ue.kp am (fun g hg e => (bB g hg).2 e)
   have cX : x ∉ (l1 ++ l2).map (·.1) := fun hx => by
    rw [List.map_append, List.map_cons] at bj; have h3 := List.nodup_append.1 bj; rw [List.map_append] at hx; rcases List.mem_append.1 hx with hx | hx
    ·exact h3.2.2 x hx x (List.mem_cons_self ..) rfl
    ·exact (List.nodup_cons.1 h3.2.1).1 hx
   have eB : ((l1 ++ l2).map (·.1)).Nodup := by
    rw [List.map_append, List.map_cons] at bj; rw [List.map_append]; have h3 := List.nodup_append.1 bj; exact List.nodup_append.2 ⟨h3.1, (List.nodup_cons.1 h3.2.1).2, fun a ha b hb => h3.2.2 a ha b (List.mem_cons_of_mem _ hb)⟩
   have kq : ∀ z, z ∈ (l1 ++ (x, ptr (nb x) 0) :: l2).map (·.1) ↔ z = x ∨ z ∈ (l1 ++ l2).map (·.1) := fun z => by
    simp only [List.map_append, List.map_cons, List.mem_append, List.mem_cons]; constructor
    ·rintro (h | h | h)
     ·exact .inr (.inl h)
     ·exact .inl h
     ·exact .inr (.inr h)
    ·rintro (h | h | h)
     ·exact .inr (.inl h)
     ·exact .inl h
     ·exact .inr (.inr h)
   have BZ : x ∈ ns := (hI.mem x).1 (by rw [hn]; simp)
   have go : ∀ y ∈ l1 ++ l2, y ∈ kn := fun y hy => bE y (by
    rcases List.mem_append.1 hy with hy | hy
    ·exact List.mem_append_left _ hy
    ·exact List.mem_append_right _ (List.mem_cons_of_mem _ hy))
   have bY : (l1 ++ l2).length < (l1 ++ (x, ptr (nb x) 0) :: l2).length := by simp
   have dH := ad.size; refine qV (yex rfl rfl) (rEnd (run_seq (run_true rfl (run_skip (run_block (qN rfl (qV (yen rfl mH) ?_))))))); dsimp only; refine qV (yex rfl rfl) (qV (yex rfl rfl) (zqa rfl (zqa rfl (qM rfl (zqm rfl (zqm rfl (rCall rfl rfl (ycv' (args := [.tmp 21]) GL rfl rfl) (hw w2 x ad) ?_))))))); rintro _ w2 ⟨rfl, rfl⟩; refine rEnd (run_cond rfl (fun hq => ?_) (fun hq => ?_))
   ·have a8 := Ext.drew0 w2; refine run_seq (run_draw (fun w' => Ext w2 w') (by kernel_rfl) rfl (zqt 0 rfl (ymv rfl) a8 (zqt 1 rfl (ynk rfl) a8 (qT 2 rfl (fun _ hS => (by first | exact yldA U84 rfl ti84 rfl (Blk.cells (n := 4) (hS.blk aq) (news := [_, _, _, _]) rfl) rfl | exact yldA U84 rfl ti84 rfl (Blk.cells (n := 4) (hS.blk e8) (news := [_, _, _, _]) rfl) rfl)) a8 ?_)))); refine zqt 3 rfl (ymv rfl) a8 (zqt 4 rfl (ynk rfl) a8 (zqt 5 rfl (yfa fl74_0 rfl) a8 (qT 6 rfl (fun _ h=>(by first | exact yld U3 rfl rfl (h.blk aq) rfl | exact yld U3 rfl rfl (h.blk e8) rfl)) a8 ?_))); refine zqo 7 [.tmp 26, .tmp 30] rfl cf83 rfl (encode_ret (n := n) (hM.r.ext a8) hM.bd hz) ?_; rintro v3 w3 ⟨ai, iI⟩; refine ⟨a8.trans ai, ?_⟩
    obtain rfl : v3 = .tuple #[S (enc T.size n), I 0] := by
     rcases iI with ⟨-, e⟩ | ⟨e, -⟩
     ·exact e
     ·exact absurd (hI.ok hz hn) e
    have iB := a8.trans ai; refine zqt 8 rfl (ymv rfl) (a8.trans ai) (zqt 9 rfl (yex rfl rfl) (a8.trans ai) (zqt 10 rfl (yex rfl rfl) (a8.trans ai) (zqt 11 rfl (yas rfl) (a8.trans ai) (zqt 12 rfl (yas rfl) (a8.trans ai) (qE (run_reg rfl (zqm rfl (zqm rfl (zqm rfl (qV (ybd (parts := [(0, .tmp 35), (1, .tmp 36)]) (cs := [_, _]) ti55 rfl sp55 rfl rfl) (rValP rfl rfl (pbs (parts := [(0, .tmp 37)]) (cs := [_, _]) (zs := [Value.int .i64 0, Value.string ⟨#[]⟩]) U52 ti55 rfl (by kernel_rfl) rfl rfl rfl (by decide)) ?_))))))))))); rintro _ w4 ⟨b4, rfl, ⟨zT, aX, bs⟩, fo⟩; have eP : maxLen = 9223372036854775807 := rfl; refine rValP rfl rfl (pap U52 ti55 rfl (by decide) rfl rfl ((aV.ext iB).ext aX) fo.rd (by intro c hc; simp at hc; rcases hc with rfl | rfl <;> rfl) (by omega) (by omega)) ?_; rintro lv5 w5 ⟨bU, aY, C0, -⟩; refine zqa rfl (rEnd (run_inBlock ?_)); have jT := (iB.trans aX).size
    have o7 : r < w2.heap.size := by
     obtain ⟨es0, c0, s0, c1, si0, -, tW, -⟩ := mH.i; exact lt_of_heap tW
    have C1 : Ext w w4 := (ad.trans iB).trans aX; refine (ih (l1 ++ l2, lv5) w5 ⟨C1.trans_new aY (fun i hi => (bB i hi).1), ?_, go, eB, l ++ [(x, enc T.size n)], ?_, fun g hg => ?_, ?_, fun y hy => ?_, fun z => ?_⟩ bY).qb
    ·refine ((mH.i.kp (iB.trans aX) id id)).kp aY (fun e => (bB r e).2 rfl) (fun e => ?_); have := (bB mN e).1; have := ah mN O.fp.2.1; omega
    ·rw [pgC_app, List.length_append]; exact bU
    ·rcases C0 g hg with e | e
     ·exact bB g e
     ·omega
    ·rw [List.map_append]
     exact List.nodup_append.2 ⟨qu, by simp, fun a ha b hb e => by
      simp at hb; subst hb; subst e
      exact ((bx a).1 ha).2.2 ((kq a).2 (.inl rfl))⟩
    ·rcases List.mem_append.1 hy with hy | hy
     ·exact fg y hy
     ·simp at hy; subst hy; simp only [encAt, hn]
    ·rw [List.map_append, List.mem_append, bx z, kq z]; simp only [List.map_cons, List.map_nil, List.mem_singleton]; constructor
     ·rintro (⟨a, b, c⟩ | rfl)
      ·exact ⟨a, b, fun e => c (.inr e)⟩
      ·exact ⟨BZ, hq, cX⟩
     ·rintro ⟨a, b, c⟩; by_cases e : z = x
      ·exact .inr e
      ·exact .inl ⟨a, b, fun hh => hh.elim e c⟩
   ·refine run_skip (run_inBlock ((ih (l1 ++ l2, lv) w2 ⟨ad, mH.i, go, eB, l, aV, bB, qu, fg, fun z => ?_⟩ bY).qb)); rw [bx z, kq z]; constructor
    ·rintro ⟨a, b, c⟩; exact ⟨a, b, fun e => c (.inr e)⟩
    ·rintro ⟨a, b, c⟩; exact ⟨a, b, fun hh => hh.elim (fun e => by rw [e, hq] at b; cases b) c⟩
theorem pages1 (w : World) (x : Int) : Ret Tryz.prog 56 [I x] w fun v w' => v = .bool true ∧ w' = w := by
 refine ret_of_run (e := [(0, _)]) Tryz.func56 rfl Tryz.ntmps56 rfl rfl (qN rfl (zqa rfl (qM rfl (zqa rfl (rEnd (run_ret Tryz.func56 rfl ?_))))))
 exact ⟨_, rfl, rfl, rfl⟩
theorem pages_ret (h : TreeA w p T nb F) {H : Nat} {ns : List Int} {es : Es} (hI : Inv T H ns es) (iq : ns.length ≤ 1000000) :
  Ret Tryz.prog 22 [ptr p 0] w fun v w' => Ext w w' ∧ PgSl w' v (pgs T.size T.nodes ns fun _ => true) ∧ ∀ g, v.ownBlock = some g → w.heap.size ≤ g := by
 refine ret_of_run (e := [(0, _)]) Tryz.func22 rfl Tryz.ntmps22 rfl rfl (qN rfl (zqa rfl (rEnd (run_seq (qN rfl (zqm rfl (qV (yeqpN U24 rfl rfl) (rEnd (run_false rfl (run_skip (qN rfl (zqm rfl (zqc [.tmp 5, .func 56] cf55 rfl (told_ret (caps := []) (q := fun _ => true) h hI iq cf56 (fun w' x _ => pages1 w' x)) ?_)))))))))))))
 rintro v w1 ⟨aa, eI, dK⟩
 refine zqa rfl (rEnd (run_ret Tryz.func22 rfl ?_))
 exact ⟨_, rfl, aa, eI, dK⟩
theorem changed1 {w : World} {bt : Nat} {mN mC mO : Nat} {gv : Value} {kc : List (Int × Value)} (hB : Blk w bt [ptr p 0] 24) (hT : Blk w p (trCs T mN mC mO gv) 74) (hm : MapB KZ w mC kc) (hg : ∀ no, getL kc no = flag (T.changed no)) (x : Int) :
  Ret Tryz.prog 63 [I x, ptr bt 0] w fun v w' => v = .bool (T.changed x) ∧ w' = w := by
 refine ret_of_run (e := [(0, _), (1, _)]) Tryz.func63 rfl Tryz.ntmps63 rfl rfl (qN rfl (zqa rfl (qM rfl (qV ((by first | exact yld U24 rfl rfl hB rfl | exact yld U24 rfl rfl hT rfl)) ?_))))
 refine qV (ynk rfl) (qV (yfa fl74_7 rfl) (qV ((by first | exact yld U72 rfl rfl hB rfl | exact yld U72 rfl rfl hT rfl)) ?_))
 refine zqm rfl (qV (ylk (k := x) (K := KZ) U72 (ky_int U3) ti3 rfl rfl hm.l) ?_)
 rw [show (getL kc x).getD (I 0) = I (if T.changed x then 1 else 0) by rw [hg x]; cases T.changed x <;> rfl]
 refine qV (ygt rfl rfl) (zqa rfl (rEnd (run_ret Tryz.func63 rfl ?_)))
 exact ⟨_, rfl, by cases T.changed x <;> rfl, rfl⟩
theorem changed_ret (h : TreeA w p T nb F) {H : Nat} {ns : List Int} {es : Es} (hI : Inv T H ns es) (iq : ns.length ≤ 1000000) :
  Ret Tryz.prog 31 [ptr p 0] w fun v w' => Ext w w' ∧ PgSl w' v (pgs T.size T.nodes ns T.changed) ∧ ∀ g, v.ownBlock = some g → w.heap.size ≤ g := by
 obtain ⟨mN, mC, mO, gv, kn, kc, ko, O⟩ := h.opn
 refine ret_of_run (e := [(0, _)]) Tryz.func31 rfl Tryz.ntmps31 rfl rfl (qN rfl (rValP rfl rfl (pbx rfl rfl) ?_))
 rintro _ w1 ⟨bt, rfl, Ab, aa, aj⟩
 refine zqa rfl (rEnd (run_seq (qN rfl (qV (yld U24 rfl rfl aj rfl) (qV (yeqpN U24 rfl rfl) (rEnd (run_false rfl (run_skip (qN rfl (qV (yld U24 rfl rfl aj rfl) (qV (ymf (first := []) (caps := [.tmp 1]) rfl rfl) ?_)))))))))))
 have eV := aa.size
 refine zqc [.tmp 5, .tmp 6] cf55 rfl (told_ret (caps := [ptr bt 0]) (q := T.changed) (h.ext aa) hI iq cf63 (fun w' x hx => changed1 (hx.blk aj) ((aa.trans hx).blk O.blk) (O.cm.ext (aa.trans hx)) O.cg x)) ?_
 rintro v w2 ⟨ad, aV, fA⟩
 refine zqa rfl (rEnd (run_ret Tryz.func31 rfl ?_))
 exact ⟨_, rfl, aa.trans ad, aV, fun g hg => by have := fA g hg; omega⟩
set_option maxHeartbeats 4000000 in
theorem freed_ret (h : TreeA w p T nb F) {os : List Int} (GM : ∀ x, T.old x = true → x ∈ os) (Eo : os.length ≤ 1000000) :
  Ret Tryz.prog 28 [ptr p 0] w fun v w' => Ext w w' ∧ ∃ fl : List Int, fl.Pairwise (· < ·) ∧ (∀ x, x ∈ fl ↔ T.old x = true ∧ T.nodes x = none) ∧ fl.length ≤ os.length ∧ Sl w' v 3 1 fl.length (fl.map I) ∧ ∀ g, v.ownBlock = some g → w.heap.size ≤ g := by
 obtain ⟨mN, mC, mO, gv, kn, kc, ko, O⟩ := h.opn
 have ah := h.lt
 have fj : ∀ x, x ∈ ko.map (·.1) ↔ T.old x = true := fun x => by
  constructor
  ·intro hx
   cases e : T.old x with
   | true => rfl
   | false =>
     have := O.og x; rw [e] at this; exact absurd hx (getL_notin this)
  ·intro hx; have := O.og x; rw [hx] at this; exact List.mem_map.2 ⟨_, getL_mem this, rfl⟩
 refine ret_of_run (e := [(0, _)]) Tryz.func28 rfl Tryz.ntmps28 rfl rfl (qN rfl (zqa rfl (rEnd (run_seq (qN rfl (zqm rfl (qV (yeqpN U24 rfl rfl) (rEnd (run_false rfl (run_skip (qN rfl (zqa rfl (rEnd ?_)))))))))))))
 refine run_seq (qN rfl (zqm rfl (qV (ynk rfl) (qV (yfa fl74_8 rfl) (qV (yld U72 rfl rfl O.blk rfl) (rValP rfl rfl (prg U72 rfl O.om) ?_))))))
 rintro _ w1 ⟨r, rfl, hr, aa, az⟩
 refine rEnd (run_block (zqu (α := List (Int × Value) × Value) ((ko, .slice none 0 0)) (fun x => [(0, ptr p 0), (11, ptr r 0), (3, x.2)]) (fun x w' => Ext w w' ∧ RgI KZ w' r mO x.1 ∧ (∀ y ∈ x.1, y ∈ ko) ∧ (x.1.map (·.1)).Nodup ∧ ∃ l : List Int, Sl w' x.2 3 1 l.length (l.map I) ∧ (∀ g, x.2.ownBlock = some g → w.heap.size ≤ g ∧ g ≠ r) ∧ l.Nodup ∧ ∀ z, z ∈ l ↔ (T.old z = true ∧ T.nodes z = none ∧ z ∉ x.1.map (·.1))) (fun x => x.1.length) ?hI ?hround))
 case hI =>
  refine ⟨aa, az, fun y hy => hy, O.om.nd, [], Sl.nil _ _ _, fun g hg => by simp [Value.ownBlock] at hg, by simp, fun z => ?_⟩; simp only [List.not_mem_nil, false_iff]; rintro ⟨h1, -, h3⟩; exact h3 ((fj z).2 h1)
 case hround =>
  rintro ⟨left, lv⟩ wi ⟨cA, ud, bE, bj, l, ue, bB, qu, bx⟩ ih; dsimp only at ud bE bj ue bB bx; have oq : l.length ≤ os.length := List.Nodup.length_le_of_subset qu (fun z hz => GM z ((bx z).1 hz).1); have vp := cA.size
  try dsimp only
  refine qN rfl (rValP rfl rfl (pnx rfl ud) ?_); rintro v2 w2 hv; rcases hv with ⟨rfl, rfl, rfl⟩ | ⟨x, u, l1, l2, rfl, rfl, mH, am⟩
  ·refine qV (yex rfl rfl) (rEnd (run_seq (run_false rfl (run_exit rfl (qN rfl (zqm rfl (zqc [.tmp 27] cf62 rfl (sortZ_ret ue (by omega)) ?_))))))); rintro _ w3 ⟨rfl, aJ, ak⟩; refine qM rfl (zqm rfl (zqa rfl (rEnd (run_ret Tryz.func28 rfl ?_)))); exact ⟨_, rfl, cA.trans_new ak (fun i hi => (bB i hi).1), sortZ l, sortZ_lt qu, fun x => by rw [sortZ_mem, bx x]; simp, by rw [sortZ_len]; exact oq, aJ, fun g hg => (bB g hg).1⟩
  ·have cX : x ∉ (l1 ++ l2).map (·.1) := fun hx => by
    rw [List.map_append, List.map_cons] at bj; have h3 := List.nodup_append.1 bj; rw [List.map_append] at hx; rcases List.mem_append.1 hx with hx | hx
    ·exact h3.2.2 x hx x (List.mem_cons_self ..) rfl
    ·exact (List.nodup_cons.1 h3.2.1).1 hx
   have eB : ((l1 ++ l2).map (·.1)).Nodup := by
    rw [List.map_append, List.map_cons] at bj; rw [List.map_append]; have h3 := List.nodup_append.1 bj; exact List.nodup_append.2 ⟨h3.1, (List.nodup_cons.1 h3.2.1).2, fun a ha b hb => h3.2.2 a ha b (List.mem_cons_of_mem _ hb)⟩
   have kq : ∀ z, z ∈ (l1 ++ (x, u) :: l2).map (·.1) ↔ z = x ∨ z ∈ (l1 ++ l2).map (·.1) := fun z => by
    simp only [List.map_append, List.map_cons, List.mem_append, List.mem_cons]; constructor
    ·rintro (h | h | h)
     ·exact .inr (.inl h)
     ·exact .inl h
     ·exact .inr (.inr h)
    ·rintro (h | h | h)
     ·exact .inr (.inl h)
     ·exact .inl h
     ·exact .inr (.inr h)
   have go : ∀ y ∈ l1 ++ l2, y ∈ ko := fun y hy => bE y (by
    rcases List.mem_append.1 hy with hy | hy
    ·exact List.mem_append_left _ hy
    ·exact List.mem_append_right _ (List.mem_cons_of_mem _ hy))
   have bY : (l1 ++ l2).length < (l1 ++ (x, u) :: l2).length := by simp
   have GN : T.old x = true := (fj x).1 (List.mem_map.2 ⟨_, bE (x, u) (by simp), rfl⟩); have ad : Ext w w2 := cA.trans_new am (fun i hi => by omega); have e8 := ad.blk O.blk; have BW := O.nm.ext ad; have aV := ue.kp am (fun g hg e => (bB g hg).2 e); have dH := ad.size; refine qV (yex rfl rfl) (rEnd (run_seq (run_true rfl (run_skip (run_block (qN rfl (qV (yen rfl mH) ?_))))))); dsimp only; refine qV (yex rfl rfl) (zqa rfl (qM rfl (zqm rfl (qV (ynk rfl) (qV (yfa fl74_5 rfl) (qV (yld U71 rfl rfl e8 rfl) (zqm rfl (qV (ylk (k := x) (K := KZ) U71 (ky_int U3) ti81 rfl rfl BW.l) ?_)))))))); rw [show (getL kn x).getD (.pointer none) = (match T.nodes x with | none => .pointer none | some _ => ptr (nb x) 0) by rw [O.ng x]; cases T.nodes x <;> rfl]
   cases xu : T.nodes x with
   | some n0 =>
     refine qV (yeqpN U81 rfl rfl) (rEnd (run_false rfl (run_skip (run_inBlock ((ih (l1 ++ l2, lv) w2 ⟨ad, mH.i, go, eB, l, aV, bB, qu, fun z => ?_⟩ bY).qb))))); rw [bx z, kq z]; constructor
     ·rintro ⟨a, b, c⟩; exact ⟨a, b, fun e => c (.inr e)⟩
     ·rintro ⟨a, b, c⟩
      exact ⟨a, b, fun hh => hh.elim (fun e => by rw [e, xu] at b; cases b) c⟩
   | none =>
     refine qV (yeqpN U81 rfl rfl) (rEnd (run_true rfl (run_reg rfl (zqm rfl (zqm rfl (rValP rfl rfl (pbs (parts := [(0, .tmp 24)]) (cs := [_]) (zs := [Value.int .i64 0]) U34 ti3 rfl (by kernel_rfl) rfl rfl rfl (by decide)) ?_)))))); rintro _ w4 ⟨b4, rfl, ⟨zT, aX, bs⟩, fo⟩; have eP : maxLen = 9223372036854775807 := rfl; refine rValP rfl rfl (pap U34 ti3 rfl (by decide) rfl rfl (aV.ext aX) fo.rd (by intro c hc; simp at hc; subst hc; rfl) (by omega) (by omega)) ?_; rintro lv5 w5 ⟨bU, aY, C0, -⟩; refine zqa rfl (rEnd (run_inBlock ?_)); have jT := aX.size
     have o7 : r < w2.heap.size := by
      obtain ⟨es0, c0, s0, c1, si0, -, tW, -⟩ := mH.i; exact lt_of_heap tW
     refine (ih (l1 ++ l2, lv5) w5 ⟨(ad.trans aX).trans_new aY (fun i hi => (bB i hi).1), ?_, go, eB, l ++ [x], ?_, fun g hg => ?_, ?_, fun z => ?_⟩ bY).qb
     ·refine ((mH.i.kp aX id id)).kp aY (fun e => (bB r e).2 rfl) (fun e => ?_); have := (bB mO e).1; have := ah mO O.fp.2.2.2.1; omega
     ·rw [List.map_append, List.length_append]; exact bU
     ·rcases C0 g hg with e | e
      ·exact bB g e
      ·omega
     ·exact List.nodup_append.2 ⟨qu, by simp, fun a ha b hb e => by
       simp at hb; subst hb; subst e
       exact ((bx a).1 ha).2.2 ((kq a).2 (.inl rfl))⟩
     ·rw [List.mem_append, bx z, kq z, List.mem_singleton]; constructor
      ·rintro (⟨a, b, c⟩ | rfl)
       ·exact ⟨a, b, fun e => c (.inr e)⟩
       ·exact ⟨GN, xu, cX⟩
      ·rintro ⟨a, b, c⟩; by_cases e : z = x
       ·exact .inr e
       ·exact .inl ⟨a, b, fun hh => hh.elim e c⟩
set_option maxHeartbeats 4000000 in
theorem clean_ret (h : TreeA w p T nb F) : Ret Tryz.prog 58 [ptr p 0] w fun v w' => v = I 0 ∧ TreeA w' p { T with changed := fun _ => false, old := fun x => (T.nodes x).isSome } nb F ∧ Kp F w w' := by
 obtain ⟨mN, mC, mO, gv, kn, kc, ko, O⟩ := h.opn
 have ah := h.lt
 have kZ := keys_iff O.ng
 refine ret_of_run (e := [(0, _)]) Tryz.func58 rfl Tryz.ntmps58 rfl rfl (qN rfl (zqa rfl (rEnd (run_seq (qN rfl (zqm rfl (qV (yeqpN U24 rfl rfl) (rEnd (run_false rfl (run_skip (qN rfl (zqm rfl (qV (ynk rfl) ?_)))))))))))))
 refine qV (yfa fl74_7 rfl) (qV (yld U72 rfl rfl O.blk rfl) (rValP0 rfl (pclrM U72 rfl O.cm) ?_))
 rintro _ w1 ⟨bC, aC⟩
 have h1 := O.setC w1 [] (fun _ => false) bC aC (fun _ => rfl)
 have aj := aC.blk O.blk O.ne.2.1.symm
 have uU := O.nm.kp aC O.ap.1
 have wK := O.om.kp aC O.ap.2.2.symm
 refine qM rfl (zqm rfl (qV (ynk rfl) (qV (yfa fl74_8 rfl) (qV (yld U72 rfl rfl aj rfl) (rValP0 rfl (pclrM U72 rfl wK) ?_)))))
 rintro _ w2 ⟨cf, am⟩
 have ay := am.blk aj O.ne.2.2.1.symm
 have sG := uU.kp am O.ap.2.1
 refine rEnd (run_seq (qN rfl (zqm rfl (qV (ynk rfl) (qV (yfa fl74_5 rfl) (qV (yld U71 rfl rfl ay rfl) (rValP rfl rfl (prg U71 rfl sG) ?_)))))))
 rintro _ w3 ⟨r, rfl, hr, ai, av⟩
 have eV := aC.size
 have dH := am.size
 have GO := ah mO O.fp.2.2.2.1
 have GP := ah mN O.fp.2.1
 have DS := ah p O.fp.1
 refine rEnd (run_block (zqu (α := List (Int × Value)) (kn) (fun x => [(0, ptr p 0), (18, ptr r 0), (2, I 0)]) (fun x w' => Kp (fun k => k = mO ∨ w2.heap.size ≤ k) w2 w' ∧ RgI KZ w' r mN x ∧ (∀ y ∈ x, y ∈ kn) ∧ (x.map (·.1)).Nodup ∧ ∃ kv, MapB KZ w' mO kv ∧ ∀ z, getL kv z = flag (decide (T.nodes z ≠ none ∧ z ∉ x.map (·.1)))) (fun x => x.length) ?hI ?hround))
 case hI =>
  refine ⟨ai.kp, av, fun y hy => hy, O.nm.nd, [], cf.ext ai, fun z => ?_⟩; rw [decide_eq_false (fun hh => hh.2 ((kZ z).2 hh.1))]; rfl
 case hround =>
  rintro left wi ⟨uf, ud, bE, bj, kv, pd, fS⟩ ih; have vp := uf.size
  try dsimp only
  refine qN rfl (rValP rfl rfl (pnx rfl ud) ?_); rintro v2 w4 hv; rcases hv with ⟨rfl, rfl, rfl⟩ | ⟨x, u, l1, l2, rfl, rfl, mH, ax⟩
  ·refine qV (yex rfl rfl) (rEnd (run_seq (run_false rfl (run_exit rfl (qN rfl (zqa rfl (rEnd (run_ret Tryz.func58 rfl ?_)))))))); have uS : Kp (fun k => k = mO) w1 w4 := (am.trans_new uf (fun i hi => hi.elim .inr (fun e => .inl (by omega)))); obtain ⟨mN', mC', mO', gv', kn', kc', ko', O1⟩ := h1.opn; have ug : trCs { T with changed := fun _ => false } mN' mC' mO' gv' = trCs T mN mC mO gv := Blk.inj O1.blk aj; have GQ : mO' = mO := by simp [trCs] at ug; exact ug.2.2.2
   subst GQ; refine ⟨_, rfl, rfl, O1.setO w4 kv (fun x => (T.nodes x).isSome) pd uS (fun no => ?_), (aC.mono' (fun k e => by rw [e]; exact O.fp.2.2.1)).trans (uS.mono' (fun k e => by rw [e]; exact O.fp.2.2.2.1))⟩; rw [fS no]
   congr 1
   cases T.nodes no <;> simp
  ·have cX : x ∉ (l1 ++ l2).map (·.1) := fun hx => by
    rw [List.map_append, List.map_cons] at bj; have h3 := List.nodup_append.1 bj; rw [List.map_append] at hx; rcases List.mem_append.1 hx with hx | hx
    ·exact h3.2.2 x hx x (List.mem_cons_self ..) rfl
    ·exact (List.nodup_cons.1 h3.2.1).1 hx
   have eB : ((l1 ++ l2).map (·.1)).Nodup := by
    rw [List.map_append, List.map_cons] at bj; rw [List.map_append]; have h3 := List.nodup_append.1 bj; exact List.nodup_append.2 ⟨h3.1, (List.nodup_cons.1 h3.2.1).2, fun a ha b hb => h3.2.2 a ha b (List.mem_cons_of_mem _ hb)⟩
   have kq : ∀ z, z ∈ (l1 ++ (x, u) :: l2).map (·.1) ↔ z = x ∨ z ∈ (l1 ++ l2).map (·.1) := fun z => by
    simp only [List.map_append, List.map_cons, List.mem_append, List.mem_cons]; constructor
    ·rintro (h | h | h)
     ·exact .inr (.inl h)
     ·exact .inl h
     ·exact .inr (.inr h)
    ·rintro (h | h | h)
     ·exact .inr (.inl h)
     ·exact .inl h
     ·exact .inr (.inr h)
   have go : ∀ y ∈ l1 ++ l2, y ∈ kn := fun y hy => bE y (by
    rcases List.mem_append.1 hy with hy | hy
    ·exact List.mem_append_left _ hy
    ·exact List.mem_append_right _ (List.mem_cons_of_mem _ hy))
   have bY : (l1 ++ l2).length < (l1 ++ (x, u) :: l2).length := by simp
   have Aj : T.nodes x ≠ none := (kZ x).1 (List.mem_map.2 ⟨_, bE (x, u) (by simp), rfl⟩); have fD : Kp (fun k => k = mO ∨ w2.heap.size ≤ k) w2 w4 := uf.trans (ax.mono' (fun k e => .inr (by omega))); have bs := fD.blk ay (fun e => e.elim (fun e => O.ne.2.2.1 e.symm) (fun e => by omega)); have i3 := pd.kp ax (fun e => by omega); refine qV (yex rfl rfl) (rEnd (run_seq (run_true rfl (run_skip (run_block (qN rfl (qV (yen rfl mH) ?_))))))); dsimp only; refine qV (yex rfl rfl) (zqa rfl (rEnd (run_reg rfl (zqm rfl (qV (ynk rfl) (qV (yfa fl74_8 rfl) (qV (yld U72 rfl rfl bs rfl) (zqm rfl (rEffP rfl (zmuB U72 (ky_int U3) rfl rfl rfl i3 (k := x)) ?_))))))))); rintro w5 ⟨eU, aY⟩; refine rEnd (run_inBlock ((ih (l1 ++ l2) w5 ⟨fD.trans (aY.mono' (fun k e => .inl e)), mH.i.kp aY (fun e => by omega) (fun e => O.ap.2.1 e), go, eB, _, eU, fun z => ?_⟩ bY).qb)); rw [getL_put, fS z]; by_cases e : z = x
   ·subst e; rw [if_pos rfl, decide_eq_true (⟨Aj, cX⟩)]; rfl
   ·rw [if_neg e]
    congr 1
    rw [decide_eq_decide, kq z]; constructor
    ·rintro ⟨a, b⟩; exact ⟨a, fun hh => b (.inr hh)⟩
    ·rintro ⟨a, b⟩; exact ⟨a, fun hh => hh.elim e b⟩
end
def spanC (lo : Bytes) (hi : Option Bytes) (tb : Bytes) : List Value := [S lo, S tb, .bool hi.isSome]
def spanOk (hi : Option Bytes) (tb : Bytes) : Prop := ∀ u, hi = some u → tb = u
section
variable {w : World}
set_option maxHeartbeats 1000000 in
theorem kid_ret {qb : Nat} {n : Nd} {kv vv cv : Value} (hB : Blk w qb [.bool n.leaf, kv, vv, cv] 84) (hK : Rd w kv 1 n.keys.length (n.keys.map S)) (cy : n.keys.length ≤ 100000) {lo tb : Bytes} {hi : Option Bytes} (Al : spanOk hi tb) (i : Nat) (cF : i ≤ n.keys.length) :
  Ret Tryz.prog 85 [.agg (spanC lo hi tb).toArray, ptr qb 0, I (i : Int)] w fun v w' => Ext w w' ∧ ∃ lo' af tb', v = .agg (spanC lo' af tb').toArray ∧ spanOk af tb' ∧ ((i = 0 ∧ lo' = lo) ∨ (0 < i ∧ n.keys[i - 1]? = some lo')) ∧ ((i = n.keys.length ∧ af = hi) ∨ ∃ k, n.keys[i]? = some k ∧ af = some k) := by
 obtain ⟨ka, kc, rfl, -⟩ := hK.shape
 refine ret_of_run (e := [(0, _), (1, _), (2, _)]) Tryz.func85 rfl Tryz.ntmps85 rfl rfl (qN rfl (rValP rfl rfl (pbx rfl (cs := spanC lo hi tb) rfl) ?_))
 rintro _ w1 ⟨b3, rfl, zK, aa, aj⟩
 refine rValP rfl rfl (pal (cs := [_, _, _]) ti128 rfl) ?_
 rintro _ w2 ⟨b6, rfl, sQ, ad, ay⟩
 have eV := aa.size
 have dH := ad.size
 have gp := ad.blk aj
 have bo := aa.trans ad
 have aq := bo.blk hB
 have l1 := aj.lt
 have l2 := ay.lt
 have IB := hB.lt
 have cq : Blk w2 b3 [S lo, S tb, .bool hi.isSome] 128 := gp
 refine rEnd (run_seq (qN rfl (zqm rfl (qV (ygt rfl rfl) (rEnd (run_cut (fun e' w' => ∃ lo', e' = [(1, ptr qb 0), (2, I (i : Int)), (3, ptr b3 0), (6, ptr b6 0)] ∧ Kp (fun k => k = b3) w2 w' ∧ Blk w' b3 [S lo', S tb, .bool hi.isSome] 128 ∧ ((i = 0 ∧ lo' = lo) ∨ (0 < i ∧ n.keys[i - 1]? = some lo'))) ?hk (fun hk => ?dG)))))))
 case hk =>
  rintro e' w3 ⟨lo', rfl, ak, aN, bX⟩; have cL := ak.blk aq (by omega); have ki := (hK.ext bo); refine run_seq (qN rfl (zqm rfl (zqm rfl (qV (ynk rfl) (qV (yfa fl84_1 rfl) (qV (yld U23 rfl rfl cL rfl) (qV (yln U23 rfl) (qV (ylt rfl rfl) (rEnd (run_cut (fun e' w' => ∃ af tb', e' = [(3, ptr b3 0), (6, ptr b6 0)] ∧ Kp (fun k => k = b3) w2 w' ∧ Blk w' b3 [S lo', S tb', .bool af.isSome] 128 ∧ spanOk af tb' ∧ ((i = n.keys.length ∧ af = hi) ∨ ∃ k, n.keys[i]? = some k ∧ af = some k)) ?eR (fun eR => ?iu)))))))))))
  case eR =>
   rintro e' w4 ⟨af, tb', rfl, ax, bs, xt, iO⟩; have jd := ax.blk ay (by omega); refine qN rfl (qV (yldA U128 rfl ti128 rfl (Blk.cells (n := 3) bs (news := [_, _, _]) rfl) rfl) (rEffP rfl (zstA ti128 rfl rfl rfl rfl jd (by simp)) ?_)); rintro w5 ⟨bu, aY⟩; refine rEnd (run_retR Tryz.func85 (.cell U128 rfl ti128 rfl (Blk.cells (n := 3) bu (news := [_, _, _]) rfl) rfl .nil) ?_); exact ⟨_, rfl, (bo.trans_new ax (fun j hj => by omega)).trans_new aY (fun j hj => by omega), lo', af, tb', rfl, xt, bX, iO⟩
  case iu =>
   refine run_if rfl (fun h2 => ?_) (fun h2 => ?_)
   ·have af : i < n.keys.length := by omega
    obtain ⟨lb, lo2, s, rfl, hs⟩ := rd_gets hK af
    have C2 := hK.kp (bo.kp.trans ak) (fun g hg e => by
     have := hK.ltz (by omega) (by omega) hg
     omega)
    refine run_reg rfl (zqm rfl (qV (ynk rfl) (qV (yfa fl84_1 rfl) (qV (yld U23 rfl rfl cL rfl) (zqm rfl (qV (yis U23 ti9 rfl rfl (by omega)) (qV (yldc U9 rfl rfl (rd_str C2 af hs)) (qV (yfa fl128_1 rfl) (rEffP rfl (zst ti9 rfl rfl rfl aN (by simp)) ?_))))))))); rintro w4 ⟨bs, ax⟩; refine qV (yfa fl128_2 rfl) (rEffP rfl (zst ti4 rfl rfl rfl bs (by simp)) ?_); rintro w5 ⟨bu, aY⟩; refine rEnd ?_; exact (eR _ _ ⟨some s, s, rfl, (ak.trans ax).trans aY, bu, fun u hu => by cases hu; rfl, .inr ⟨s, hs, rfl⟩⟩).qb
   ·refine run_skip ?_; exact (eR _ _ ⟨hi, tb, rfl, ak, aN, Al, .inl ⟨by omega, rfl⟩⟩).qb
 case dG =>
  refine run_if rfl (fun h1 => ?_) (fun h1 => ?_)
  ·have af : i - 1 < n.keys.length := by omega
   obtain ⟨lb, lo2, s, rfl, hs⟩ := rd_gets hK af; have C2 := hK.ext bo; refine run_reg rfl (zqm rfl (qV (ynk rfl) (qV (yfa fl84_1 rfl) (qV (yld U23 rfl rfl aq rfl) (zqm rfl (qV (ysb rfl rfl (by omega)) ?_)))))); rw [show ((i : Int) - 1) = ((i - 1 : Nat) : Int) by omega]; refine qV (yis U23 ti9 rfl rfl (by omega)) (qV (yldc U9 rfl rfl (rd_str C2 af hs)) (qV (yfa fl128_0 rfl) (rEffP rfl (zst ti9 rfl rfl rfl cq (by simp)) ?_))); rintro w4 ⟨bs, ax⟩; refine rEnd ?_; exact (hk _ _ ⟨s, rfl, ax, bs, .inr ⟨by omega, hs⟩⟩).qb
  ·refine run_skip ?_; exact (hk _ _ ⟨lo, rfl, Kp.refl _ _, cq, .inl ⟨by omega, rfl⟩⟩).qb
end
structure WhC (w : World) (p bt bm bw mm : Nat) : Prop where
 t : Blk w bt [ptr p 0] 24
 m : Blk w bm [.map (some mm)] 72
 f : Blk w bw [.func (.func 84) #[] #[ptr bt 0, ptr bm 0, ptr bw 0]] 126
 ne : bt ≠ mm ∧ bm ≠ mm ∧ bw ≠ mm ∧ bt ≠ p ∧ bm ≠ p ∧ bw ≠ p ∧ mm ≠ p
theorem WhC.kp {w w' : World} {p bt bm bw mm : Nat} (h : WhC w p bt bm bw mm) (k : Kp (fun k => k = mm ∨ k = p) w w') : WhC w' p bt bm bw mm :=
 ⟨k.blk h.t (fun e => e.elim h.ne.1 h.ne.2.2.2.1), k.blk h.m (fun e => e.elim h.ne.2.1 h.ne.2.2.2.2.1), k.blk h.f (fun e => e.elim h.ne.2.2.1 h.ne.2.2.2.2.2.1), h.ne⟩
theorem WhC.ext {w w' : World} {p bt bm bw mm : Nat} (h : WhC w p bt bm bw mm) (k : Ext w w') : WhC w' p bt bm bw mm := h.kp k.kp
def MetM (w : World) (mm : Nat) (V : List Int) : Prop := ∃ kv, MapB KZ w mm kv ∧ kv.length = V.length ∧ ∀ x, getL kv x = if x ∈ V then some (I 1) else none
theorem MetM.kp {S : Nat → Prop} {w w' : World} {mm : Nat} {V : List Int} (h : MetM w mm V) (k : Kp S w w') (hn : ¬ S mm) : MetM w' mm V := by
 obtain ⟨kv, h1, h2, h3⟩ := h
 exact ⟨kv, h1.kp k hn, h2, h3⟩
theorem MetM.same {w : World} {mm : Nat} {V V' : List Int} (h : MetM w mm V) (hl : V.length = V'.length) (hm : ∀ x, x ∈ V ↔ x ∈ V') : MetM w mm V' := by
 obtain ⟨kv, h1, h2, h3⟩ := h
 refine ⟨kv, h1, by rw [h2, hl], fun x => ?_⟩
 rw [h3 x]
 by_cases e : x ∈ V
 ·rw [if_pos e, if_pos ((hm x).1 e)]
 ·rw [if_neg e, if_neg (fun h => e ((hm x).2 h))]
def WhAt (p bt bm bw mm k : Nat) : Prop := ∀ (w : World) (T : Tr) (nb : Int → Nat) (F : Nat → Prop) (no : Int) (lo : Bytes) (hi : Option Bytes) (tb : Bytes) (V pg : List Int),
 TreeA w p T nb F → WhC w p bt bm bw mm → (¬ F bt ∧ ¬ F bm ∧ ¬ F bw ∧ ¬ F mm) → (∀ x n, T.nodes x = some n → NdOk T.size n) → (∀ x, T.nodes x ≠ none → x ∈ pg) → pg.length ≤ 1000000 → MetM w mm V → V.Nodup → (∀ x ∈ V, x ∈ pg) → T.count ≤ V.length * 100000 → pg.length ≤ V.length + k → spanOk hi tb → ((V = [] ∧ no = T.root) ∨ T.root ∈ V) →
 Ret Tryz.prog 84 [I no, .agg (spanC lo hi tb).toArray, ptr bt 0, ptr bm 0, ptr bw 0] w fun val w' => Kp (fun k => k = mm ∨ k = p) w w' ∧
  ((∃ (h : Nat) (ns : List Int) (es : Es), val = I (h : Int) ∧ Sub1 T.size T.nodes V (decide (V = [])) no lo hi h ns es ∧ TreeA w' p { T with count := T.count + es.length } nb F ∧ MetM w' mm (ns ++ V) ∧ T.count + es.length ≤ (ns ++ V).length * 100000) ∨ (val = I (-1) ∧ NoSub T.size T.nodes V (decide (V = [])) no lo hi))
set_option maxHeartbeats 8000000 in
theorem whAt_step {p bt bm bw mm k : Nat} (ihk : ∀ k', k' < k → WhAt p bt bm bw mm k') : WhAt p bt bm bw mm k := by
 intro w T nb F no lo hi tb V pg h hc hF bi pq dl C3 C4 C5 jk hk Al jg
 have hz : sizeOk (T.size : Int) := size_ok h
 obtain ⟨z1, z2, -⟩ := id hz
 obtain ⟨mN, mC, mO, gv, kn, kc, ko, O⟩ := h.opn
 obtain ⟨kv, pd, cy, fS⟩ := C3
 have ah := h.lt
 have IC : V.length ≤ pg.length := List.Nodup.length_le_of_subset C4 (fun x hx => C5 x hx)
 have bN := hc.t
 have xw := hc.m
 obtain ⟨q, hq, jW⟩ : ∃ q : Nat, (getL kv no).getD (I 0) = I (q : Int) ∧ ((q = 0 ∧ no ∉ V) ∨ (q = 1 ∧ no ∈ V)) := by
  rw [fS no]; by_cases hm : no ∈ V
  ·exact ⟨1, by rw [if_pos hm]; rfl, .inr ⟨rfl, hm⟩⟩
  ·exact ⟨0, by rw [if_neg hm]; rfl, .inl ⟨rfl, hm⟩⟩
 have wh := pd.lt
 refine ret_of_run (e := [(0, _), (1, _), (2, _), (3, _), (4, _)]) Tryz.func84 rfl Tryz.ntmps84 rfl rfl (qN rfl (rValP rfl rfl (pbx rfl (cs := spanC lo hi tb) rfl) ?_))
 rintro _ w1 ⟨b6, rfl, sQ, aa, bT⟩
 have jp := aa.blk bN
 have fE := aa.blk xw
 have gX := aa.blk O.blk
 have C6 := O.nm.ext aa
 have bC := pd.ext aa
 refine zqa rfl (qM rfl (qV ((by first | exact yld U24 rfl rfl jp rfl | exact yld U24 rfl rfl fE rfl | exact yld U24 rfl rfl gX rfl)) ?_))
 refine qV (ynk rfl) (qV (yfa fl74_5 rfl) (qV ((by first | exact yld U71 rfl rfl jp rfl | exact yld U71 rfl rfl fE rfl | exact yld U71 rfl rfl gX rfl)) ?_))
 refine zqm rfl (qV (ylk (k := no) (K := KZ) U71 (ky_int U3) ti81 rfl rfl C6.l) ?_)
 obtain ⟨v8, vr⟩ : ∃ v8, (getL kn no).getD (.pointer none) = v8 := ⟨_, rfl⟩
 rw [vr]
 rw [O.ng no] at vr
 refine zqa rfl (rEnd (run_seq (qN rfl (qV ((by first | exact yld U72 rfl rfl jp rfl | exact yld U72 rfl rfl fE rfl | exact yld U72 rfl rfl gX rfl)) ?_))))
 refine zqm rfl (qV (ylk (k := no) (K := KZ) U72 (ky_int U3) ti3 rfl rfl bC.l) ?_)
 rw [hq]
 refine zqd rfl rfl (rEffP rfl (zmuB U72 (ky_int U3) rfl rfl rfl bC (k := no)) ?_)
 rintro w2 ⟨cf, am⟩
 have gI : Kp (fun k => k = mm ∨ k = p) w w2 := aa.kp.trans (am.mono' (fun k e => .inl e))
 have eV := aa.size
 have dH := am.size
 have cD := am.blk jp hc.ne.1
 have C7 := am.blk fE hc.ne.2.1
 have gW := am.blk gX hc.ne.2.2.2.2.2.2.symm
 have dE := hc.kp gI
 have pP : ∀ g, F g → ¬ (g = mm) := fun g hg e => hF.2.2.2 (e ▸ hg)
 have h2 : TreeA w2 p T nb F := (h.ext aa).kp am pP
 have xx := am.blk bT (by have := wh; omega)
 have GR := xx.lt
 have jw : (getL (putL kv no (I ((q : Int) + 1))) no).getD (I 0) = I ((q : Int) + 1) := by rw [getL_put, if_pos rfl]; rfl
 have cu : ∀ {w' : World}, Kp (fun k => k = mm ∨ k = p) w w' → NoSub T.size T.nodes V (decide (V = [])) no lo hi → Kp (fun k => k = mm ∨ k = p) w w' ∧ ((∃ (h : Nat) (ns : List Int) (es : Es), (I (-1) : Value) = I (h : Int) ∧ Sub1 T.size T.nodes V (decide (V = [])) no lo hi h ns es ∧ TreeA w' p { T with count := T.count + es.length } nb F ∧ MetM w' mm (ns ++ V) ∧ T.count + es.length ≤ (ns ++ V).length * 100000) ∨ ((I (-1) : Value) = I (-1) ∧ NoSub T.size T.nodes V (decide (V = [])) no lo hi)) := fun hk hn => ⟨hk, .inr ⟨rfl, hn⟩⟩
 refine rEnd (run_seq (run_cut (fun e' w' => ∃ c61 : Bool, e' = [(2, ptr bt 0), (4, ptr bw 0), (6, ptr b6 0), (8, v8), (61, .bool c61)] ∧ Ext w2 w' ∧ (c61 = true → NoSub T.size T.nodes V (decide (V = [])) no lo hi) ∧ (c61 = false → ∃ n, T.nodes no = some n ∧ no ∉ V ∧ if decide (V = []) then n.keys ≠ [] else ¬ n.low T.size)) ?hk (fun hk => ?dG)))
 case hk =>
  rintro e' w3 ⟨c61, rfl, ai, cJ, C8⟩; have cV := gI.trans ai.kp; refine run_cond rfl (fun C9 => ?_) (fun C9 => ?_)
  ·refine qN rfl (zqa rfl (rEnd (run_ret Tryz.func84 rfl ?_))); exact ⟨_, rfl, cu cV (cJ C9)⟩
  ·obtain ⟨n, hn, pr, xy⟩ := C8 C9; rw [hn] at vr; have oI : v8 = ptr (nb no) 0 := vr.symm; subst oI; have cw : no ∈ pg := pq no (by rw [hn]; simp); have uh := bi no n hn; obtain rfl : q = 0 := jW.elim (fun e => e.1) (fun e => absurd e.2 pr)
   have GS : V.length < pg.length := by
    have : (no :: V).length ≤ pg.length := List.Nodup.length_le_of_subset (List.nodup_cons.2 ⟨pr, C4⟩) (fun x hx => by
     rcases List.mem_cons.1 hx with rfl | hx
     ·exact cw
     ·exact C5 x hx)
    rw [List.length_cons] at this; omega
   have h3 := h2.ext ai; obtain ⟨pl, rE, hM, ui, -⟩ := h3.nodeF hn; obtain ⟨qb, qk, qv, qc⟩ := pl; dsimp only at rE; subst rE; have cL := hM.blk; have ki := hM.keys; dsimp only at cL ki; obtain ⟨ka, kac, uj, -⟩ := ki.rd.shape; subst uj; have bA := hM.bd; have xz := bA.kl
   have xA : MetM w3 mm (no :: V) := by
    have tO : getL kv no = none := by rw [fS no, if_neg pr]
    refine ⟨_, cf.ext ai, by rw [putL_new _ _ _ tO]; simp [cy], fun x => ?_⟩; rw [getL_put, fS x]; by_cases e : x = no
    ·rw [if_pos e, if_pos (by rw [e]; exact List.mem_cons_self ..)]; rfl
    ·rw [if_neg e]; by_cases hx : x ∈ V
     ·rw [if_pos hx, if_pos (List.mem_cons_of_mem _ hx)]
     ·rw [if_neg hx, if_neg (fun hh => by rcases List.mem_cons.1 hh with hh | hh; exact e hh; exact hx hh)]
   have qw : Blk w3 b6 [S lo, S tb, .bool hi.isSome] 128 := ai.blk xx; have pi := dE.ext ai; have jS := ai.size; refine run_skip (run_seq (qN rfl (zqm rfl (qV (ynk rfl) (qV (yfa fl84_1 rfl) (qV (yld U23 rfl rfl cL rfl) (qV (yln U23 rfl) (zqm rfl (rEnd (run_block (run_cut2 (fun e' w' => e' = [(2, ptr bt 0), (4, ptr bw 0), (6, ptr b6 0), (8, ptr (nb no) 0)] ∧ w' = w3 ∧ ∀ k ∈ n.keys, inB lo hi k) ?cy (fun cy => ?Cp))))))))))))
   case cy =>
    rintro e' w3 ⟨rfl, rfl, cx⟩; have dC := pi.t; have Am := hM.kids; dsimp only at Am; refine run_seq (qN rfl (zqm rfl (qV (ynk rfl) (qV (yfa fl84_0 rfl) (qV (yld U4 rfl rfl cL rfl) ?_))))); rcases nd_cases uh with ⟨E, rfl⟩ | ⟨c, ps, rfl⟩
    ·have av := Ext.drew0 w3; obtain ⟨mN3, mC3, mO3, gv3, kn3, kc3, ko3, O3⟩ := (h3.ext av).opn; obtain ⟨mN4, mC4, mO4, gv4, kn4, kc4, ko4, O4⟩ := h3.opn; have jx := O4.blk; have fw : (leafNd E).keys.length = E.length := by simp [leafNd]
     rw [fw] at xz; refine rEnd (run_true rfl (run_seq (run_drawL [12] (fun w' => Ext w3 w') (by kernel_rfl) rfl (qL [1, 2, 3, 9, 10, 11, 12] 0 rfl (fun _ h=>(by first | exact yld U24 rfl rfl (h.blk dC) rfl | exact yld U24 rfl rfl (h.blk jx) rfl | exact yld U24 rfl rfl (h.blk cL) rfl)) av ?_)))); refine qL [2, 3, 9, 10, 11, 12] 1 rfl (fun _ h=>ynk rfl) av (qL [3, 9, 10, 11, 12] 2 rfl (fun _ h=>yfa fl74_4 rfl) av (qL [9, 10, 11, 12] 3 rfl (fun _ h=>(by first | exact yld U3 rfl rfl (h.blk dC) rfl | exact yld U3 rfl rfl (h.blk jx) rfl | exact yld U3 rfl rfl (h.blk cL) rfl)) av ?_)); refine qL [5, 6, 7, 8, 9, 10, 11, 12] 4 rfl (fun _ h=>ymv rfl) av (qL [6, 7, 8, 9, 10, 11, 12] 5 rfl (fun _ h=>ynk rfl) av (qL [7, 8, 9, 10, 11, 12] 6 rfl (fun _ h=>yfa fl84_1 rfl) av (qL [8, 9, 10, 11, 12] 7 rfl (fun _ h=>(by first | exact yld U23 rfl rfl (h.blk dC) rfl | exact yld U23 rfl rfl (h.blk jx) rfl | exact yld U23 rfl rfl (h.blk cL) rfl)) av ?_))); refine qL [9, 10, 11, 12] 8 rfl (fun _ h=>yln U23 rfl) av (qL [10, 11, 12] 9 rfl (fun _ h=>yad rfl rfl (by omega)) av (qL [11, 12] 10 rfl (fun _ h=>ynk rfl) av (qL [12] 11 rfl (fun _ h=>yfa fl74_4 rfl) av (hLate [12] (by kernel_rfl) (by kernel_rfl) (qO 12 (nEffP (i := 12) rfl rfl (zst ti3 rfl rfl rfl (av.blk jx) (by simp [trCs])) ?_)))))); rintro w4 ⟨bs, ax⟩; refine ⟨trivial, ?_⟩; have ug : trCs T mN3 mC3 mO3 gv3 = trCs T mN4 mC4 mO4 gv4 := Blk.inj O3.blk (av.blk jx)
     have uk : Blk w4 p (trCs { T with root := T.root, count := T.count + E.length } mN4 mC4 mO4 gv4) 74 := by
      have e : ((T.count : Int) + ((leafNd E).keys.length : Int)) = ((T.count + E.length : Nat) : Int) := by rw [fw]; omega
      rw [e] at bs; exact bs
     have h4 := O3.setB w4 T.root (T.count + E.length) (by
      simp only [trCs, List.cons.injEq, Value.map.injEq, Option.some.injEq] at ug; obtain ⟨-, -, -, -, -, q1, q2, q3, q4, -⟩ := ug
      rw [q1, q2, q3, q4]; exact uk) ax
     refine qE (qN rfl (zqa rfl (rEnd (run_ret Tryz.func84 rfl (⟨_, rfl, cV.trans (av.kp.trans (ax.mono' (fun k e => .inr e))), .inl ⟨1, [no], E, rfl, sub1_leaf hz hn uh cx pr xy, h4, (xA.kp av id).kp ax hc.ne.2.2.2.2.2.2, by simp; omega⟩⟩)))))
    ·have kcl : (innNd c ps).kids.length = ps.length + 1 := by simp [innNd]
     have kkl : (innNd c ps).keys.length = ps.length := by simp [innNd]
     rw [kcl] at Am; obtain ⟨gc, cc, rfl⟩ := some_of Am (by omega); have GT := bA.cl; rw [kcl] at GT; have tZ : ∀ g, Pl.fp ⟨nb no, .slice ka (innNd c ps).keys.length kac, qv, .slice (some ⟨gc, 0, none⟩) (ps.length + 1) cc⟩ g → ¬ (g = mm ∨ g = p) := fun g hg e => e.elim (fun e => hF.2.2.2 (e ▸ (ui g hg).1)) (ui g hg).2
     have Ca : ¬ (b6 = mm ∨ b6 = p) := by
      have := ah p O.fp.1; omega
     refine rEnd (run_false rfl (run_skip (qN rfl (zqa rfl (rEnd (run_seq (qN rfl (zqm rfl (qV (ynk rfl) (qV (yfa fl84_3 rfl) (qV (yld U82 rfl rfl cL rfl) (qV (yln U82 rfl) (zqm rfl ?_))))))))))))); refine rEnd (run_block ?_); have Cb : T.count + 0 ≤ (no :: V).length * 100000 := Nat.le_trans jk (Nat.mul_le_mul_right _ (Nat.le_succ _)); refine zqu (α := List (List Int × Es) × Nat) (([], 0)) (fun x => [(2, ptr bt 0), (4, ptr bw 0), (6, ptr b6 0), (8, ptr (nb no) 0), (11, I (x.2 : Int)), (105, .slice (some ⟨gc, 0, none⟩) (ps.length + 1) cc), (106, I ((ps.length + 1 : Nat) : Int)), (107, I (x.1.length : Int))]) (fun x w' => KidsU T.size T.nodes V no lo hi c ps x.2 x.1 ∧ Kp (fun k => k = mm ∨ k = p) w3 w' ∧ TreeA w' p { T with count := T.count + (x.1.flatMap (·.2)).length } nb F ∧ MetM w' mm (x.1.flatMap (·.1) ++ no :: V) ∧ T.count + (x.1.flatMap (·.2)).length ≤ (x.1.flatMap (·.1) ++ no :: V).length * 100000 ∧ x.2 ≤ 1000000) (fun x => ps.length + 1 - x.1.length) ?hI ?hround
     case hI => exact ⟨KidsU.nil 0, Kp.refl _ _, h3, xA, Cb, Nat.zero_le _⟩
     case hround =>
      rintro ⟨L, hh⟩ w4 ⟨K, ax, h4, Cc, ul, GU⟩ ih; dsimp only at K h4 Cc ul GU; have Cd := ax.blk cL (tZ _ (.inl rfl)); have GV := Am.kp ax (fun g hg => tZ g (.inr (.inr (.inr hg)))); have GW := ki.kp ax (fun g hg => tZ g (.inr (.inl hg))); have xB := ax.blk qw Ca; have qs := pi.kp ax; have xC := qs.f; have j9 := cV.trans ax; have ID := K.len; have xD : (L.flatMap (·.1) ++ no :: V).Nodup := List.nodup_append.2 ⟨K.nd, List.nodup_cons.2 ⟨pr, C4⟩, fun x hx y hy e => K.out x hx (e ▸ hy)⟩
      have Ce : ∀ x ∈ L.flatMap (·.1), x ∈ pg := fun x hx => by
       obtain ⟨l, iH, rn⟩ := List.mem_flatMap.1 hx; obtain ⟨i, af, e⟩ := List.getElem_of_mem iH; have hb := K.bn i _ l (List.getElem?_eq_getElem (by rw [bnds_length]; omega)) (by rw [List.getElem?_eq_getElem af, e]); exact pq x (hb.1.some x rn)
      have xE : ∀ x ∈ L.flatMap (·.1) ++ no :: V, x ∈ pg := fun x hx => by
       rcases List.mem_append.1 hx with hx | hx
       ·exact Ce x hx
       ·rcases List.mem_cons.1 hx with rfl | hx
        ·exact cw
        ·exact C5 x hx
      have GX := List.Nodup.length_le_of_subset xD (fun x hx => xE x hx); have GY : V.length + 1 ≤ (L.flatMap (·.1) ++ no :: V).length := by rw [List.length_append, List.length_cons]; omega
      try dsimp only
      refine qN rfl (qV (ylt rfl rfl) (rEnd (run_seq (run_if rfl (fun kT => ?_) (fun kT => ?_)))))
      ·have cF : L.length < ps.length + 1 := by omega
       obtain ⟨a, l, u, hb, ha, iH, GZ⟩ := bnds_get hi ps lo c L.length (by omega); have ve := bA.cs a (List.mem_of_getElem? (show (innNd c ps).kids[_]? = some a from ha)); refine run_skip (run_seq (run_block (qN rfl (zqm rfl (qV (yis U82 ti89 rfl rfl (by omega)) (qV (yldc U89 rfl rfl (rd_u32 GV.rd cF ha)) (zqa rfl (zqa rfl (rEnd (run_seq ?_)))))))))); have aE := Ext.drew0 w4; refine run_drawL [7] (fun w' => Ext w4 w') (by kernel_rfl) rfl (qL [7, 8] 0 rfl (fun _ h=>(by first | exact yld U126 rfl rfl (h.blk xC) rfl | exact yld U126 rfl rfl (h.blk xB) rfl)) aE ?_); refine qL [2, 7, 8] 1 rfl (fun _ h=>ymv rfl) aE (qL [7, 8] 2 rfl (fun _ h=>ycvSi64 rfl U89 U3 (by omega)) aE (qL [6, 7, 8] 3 rfl (fun _ hS => (by first | exact yldA U128 rfl ti128 rfl (Blk.cells (n := 3) (hS.blk xC) (news := [_, _, _]) rfl) rfl | exact yldA U128 rfl ti128 rfl (Blk.cells (n := 3) (hS.blk xB) (news := [_, _, _]) rfl) rfl)) aE ?_)); refine qL [6, 7, 8] 4 rfl (fun _ h=>ymv rfl) aE (qL [6, 7, 8] 5 rfl (fun _ h=>ymv rfl) aE (hOneL (i := 6) (by kernel_rfl) (nCallL (i := 6) rfl rfl rfl (yc (args := [.tmp 115, .tmp 116, .tmp 117]) cf85 rfl) (kid_ret (n := innNd c ps) (aE.blk Cd) (GW.ext aE).rd xz Al L.length (by rw [kkl]; omega)) ?_))); rintro _ w5 ⟨aF, lo', af, to', rfl, xt, sF, Cf⟩; refine ⟨aE.trans aF, ?_⟩; refine hLate [7] (by kernel_rfl) (by kernel_rfl) ?_; have cj := aE.trans aF
       have elo : lo' = l := by
        rcases sF with ⟨h0, e⟩ | ⟨h0, e⟩ <;> rcases iH with ⟨h1, e1⟩ | ⟨j, h1, e1⟩
        ·rw [e, e1]
        ·omega
        ·omega
        ·have e' : (ps.map (·.1))[L.length - 1]? = some lo' := e; rw [h1, Nat.add_sub_cancel, e1] at e'; exact (oinj e').symm
       have ehi : af = u := by
        rcases Cf with ⟨h0, e⟩ | ⟨k0, h0, e⟩ <;> rcases GZ with ⟨h1, e1⟩ | ⟨k1, h1, e1, e2⟩
        ·rw [e, e1]
        ·rw [kkl] at h0; omega
        ·rw [List.getElem?_eq_none (by rw [kkl]; omega)] at h0; cases h0
        ·have A4 : (ps.map (·.1))[L.length]? = some k0 := h0; rw [e1] at A4; rw [e, e2, oinj A4]
       subst elo; subst ehi; have Cg : decide (L.flatMap (·.1) ++ no :: V = []) = false := decide_eq_false (by simp); refine qO 7 (nCall (i := 7) rfl rfl rfl (ycv' (args := [.tmp 114, .tmp 118]) cf84 rfl rfl) (ihk (k - 1) (by omega) w5 { T with count := T.count + (L.flatMap (·.2)).length } nb F (a : Int) lo' af to' (L.flatMap (·.1) ++ no :: V) pg (h4.ext cj) (qs.ext cj) hF bi pq dl (Cc.kp cj id) xD xE ul (by omega) xt (.inr (List.mem_append_right _ (jg.elim (fun e => by rw [← e.2]; exact List.mem_cons_self ..) (fun e => List.mem_cons_of_mem _ e))))) ?_); rintro v6 w6 ⟨bP, m7⟩; refine ⟨trivial, ?_⟩; refine zqt 8 rfl (yas rfl) trivial ?_; rw [Cg] at m7; have jb := (j9.trans cj.kp).trans bP; have Ci := (ax.trans cj.kp).trans bP; rcases m7 with ⟨d, n5, e5, rfl, s5, h6, Cj, Ck⟩ | ⟨rfl, Cl⟩
       ·have mq : d ≤ 1000000 := by
         have h1 := bn_height hz s5.bn; have h2 := List.Nodup.length_le_of_subset s5.nd (fun x hx => pq x (s5.bn.some x hx)); omega
        have e1 : (L ++ [(n5, e5)]).flatMap (·.1) = L.flatMap (·.1) ++ n5 := by simp
        have e2 : (L ++ [(n5, e5)]).flatMap (·.2) = L.flatMap (·.2) ++ e5 := by simp
        have rF : ∀ K' : KidsU T.size T.nodes V no lo hi c ps d (L ++ [(n5, e5)]), KidsU T.size T.nodes V no lo hi c ps d (L ++ [(n5, e5)]) ∧ Kp (fun k => k = mm ∨ k = p) w3 w6 ∧ TreeA w6 p { T with count := T.count + ((L ++ [(n5, e5)]).flatMap (·.2)).length } nb F ∧ MetM w6 mm ((L ++ [(n5, e5)]).flatMap (·.1) ++ no :: V) ∧ T.count + ((L ++ [(n5, e5)]).flatMap (·.2)).length ≤ ((L ++ [(n5, e5)]).flatMap (·.1) ++ no :: V).length * 100000 ∧ d ≤ 1000000 := fun K' => by
         rw [e1, e2]; refine ⟨K', Ci, ?_, Cj.same (by simp; omega) (fun x => by simp only [List.mem_append]; exact ⟨fun h => by rcases h with h | h | h; exact .inl (.inr h); exact .inl (.inl h); exact .inr h, fun h => by rcases h with (h | h) | h; exact .inr (.inl h); exact .inl h; exact .inr (.inr h)⟩), ?_, mq⟩
         ·rw [List.length_append, ← Nat.add_assoc]; exact h6
         ·simp only [List.length_append] at Ck ⊢; omega
        have e3 : ((L.length : Int) + 1) = (((L ++ [(n5, e5)]).length : Nat) : Int) := by simp
        refine qE (run_seq (qN rfl (zqm rfl (qV (ylt rfl rfl) (rVal_if (fun Cm => ?_) (fun Cm => ?_))))))
        ·omega
        ·refine zqm rfl (zqm rfl (qV (ygt rfl rfl) (rVal_if (fun ii => ?_) (fun ii => ?_))))
         ·refine zqm rfl (zqm rfl (zqm rfl (qV (yne rfl rfl) (rVal_if (fun aT => ?_) (fun aT => ?_)))))
          ·refine qV (ypT rfl rfl) (qV (ypF rfl rfl) (rEnd (run_true rfl (qN rfl (zqa rfl (rEnd (run_ret Tryz.func84 rfl ?_))))))); exact ⟨_, rfl, cu jb (kidsU_dep hz hn K (by omega) hb s5 (by omega))⟩
          ·refine qV (ypT rfl rfl) (qV (ypF rfl rfl) (rEnd (run_false rfl (run_skip (run_reg rfl (zqm rfl (zqa rfl (rEnd (run_inBlock (run_reg rfl (zqd rfl rfl (zqm rfl (rEnd ?_))))))))))))); have H0 : d = hh := by omega
           subst H0; rw [e3]; exact (ih (L ++ [(n5, e5)], d) w6 (rF (K.step hb s5)) (by simp; omega)).qb
         ·refine zqm rfl (qS (qS (qS (qV (ypF rfl rfl) (qV (ypF rfl rfl) (rEnd (run_false rfl (run_skip (run_reg rfl (zqm rfl (zqa rfl (rEnd (run_inBlock ?_))))))))))))); refine run_reg rfl (zqd rfl rfl (zqm rfl (rEnd ?_))); have Cn : L = [] := List.eq_nil_of_length_eq_zero (by omega); rw [e3]; refine (ih (L ++ [(n5, e5)], d) w6 (rF ?_) (by simp; omega)).qb; subst Cn; exact (KidsU.nil d).step hb s5
       ·refine qE (run_seq (qN rfl (zqm rfl (qV (ylt rfl rfl) (rVal_if (fun Cm => ?_) (fun Cm => ?_))))))
        ·refine zqm rfl (qS (qS (qS (qS (qS (qS (qS (qV (ypT rfl rfl) (rEnd (run_true rfl (qN rfl (zqa rfl (rEnd ?_))))))))))))); refine run_ret Tryz.func84 rfl ?_; exact ⟨_, rfl, cu jb (kidsU_no hz hn K hb Cl)⟩
        ·omega
      ·have xF : L.length = ps.length + 1 := by omega
       have Co : (no :: L.flatMap (·.1) ++ V).length = (L.flatMap (·.1) ++ no :: V).length := by simp only [List.length_append, List.length_cons]; omega
       refine run_exit rfl (qN rfl (zqm rfl (zqd rfl rfl (zqa rfl (rEnd (run_ret Tryz.func84 rfl (⟨_, rfl, j9, .inl ⟨hh + 1, no :: L.flatMap (·.1), L.flatMap (·.2), by simp [resVal], kidsU_all hz hn uh cx K xF pr xy, h4, Cc.same (by simp; omega) (fun x => by simp only [List.mem_append, List.mem_cons]; exact ⟨fun h => by rcases h with h | h | h; exact .inl (.inr h); exact .inl (.inl h); exact .inr h, fun h => by rcases h with (h | h) | h; exact .inr (.inl h); exact .inl h; exact .inr (.inr h)⟩), by rw [Co]; exact ul⟩⟩)))))))
   case Cp =>
    refine zqu (α := Nat) (0) (fun i => [(2, ptr bt 0), (4, ptr bw 0), (6, ptr b6 0), (8, ptr (nb no) 0), (65, .slice ka n.keys.length kac), (66, I (n.keys.length : Int)), (67, I (i : Int))]) (fun i w' => w' = w3 ∧ i ≤ n.keys.length ∧ ∀ k ∈ n.keys.take i, inB lo hi k) (fun i => n.keys.length - i) ?hI ?hround
    case hI => exact ⟨rfl, Nat.zero_le _, by simp⟩
    case hround =>
     rintro i w4 ⟨rfl, ii, bF⟩ ih
     try dsimp only
     refine qN rfl (qV (ylt rfl rfl) (rEnd (run_seq (run_if rfl (fun hl => ?_) (fun hl => ?_)))))
     ·have cF : i < n.keys.length := by omega
      obtain ⟨lb, lo2, s, rfl, hs⟩ := rd_gets ki.rd cF; have vf := List.mem_of_getElem? hs; refine run_skip (run_seq (run_block (qN rfl (qV (yis U23 ti9 rfl rfl (by omega)) (qV (yldc U9 rfl rfl (rd_str ki.rd cF hs)) (zqa rfl (qM rfl (zqm rfl (qV (yfa fl128_0 rfl) (qV (yld U9 rfl rfl qw rfl) (qV (yltS rfl rfl) (rVal_bool (fun aC => ?_) (fun aC => ?_)))))))))))))
      ·refine zqm rfl (qS (qS (qS (qS (qS (qS (qS (qS (qV (ypT rfl rfl) (rEnd (run_true rfl (qN rfl (zqa rfl ?_))))))))))))); refine rEnd (run_ret Tryz.func84 rfl ?_); exact ⟨_, rfl, cu cV (nosub_key hn vf (fun hh => by rw [hh.1] at aC; cases aC))⟩
      ·refine zqm rfl (qV (yfa fl128_2 rfl) (qV (yld U4 rfl rfl qw rfl) ?_))
       cases hi with
       | none =>
         refine zqm rfl (qS (qS (qS (qS (qV (ypF rfl rfl) (qV (ypF rfl rfl) (rEnd (run_false rfl (run_skip (run_inBlock (run_reg rfl (zqd rfl rfl (zqm rfl ?_))))))))))))); refine rEnd ((ih (i + 1) _ ⟨rfl, by omega, fun k hk => ?_⟩ (by omega)).qb); rcases (mem_take_succ hs).1 hk with hk | rfl
         ·exact bF k hk
         ·exact ⟨aC, fun u hu => by cases hu⟩
       | some u =>
         obtain rfl : tb = u := Al u rfl; refine zqm rfl (zqm rfl (qV (yfa fl128_1 rfl) (qV (yld U9 rfl rfl qw rfl) (qV (ygeS rfl rfl) (rVal_bool (fun am => ?_) (fun am => ?_))))))
         ·have qA : lt s tb = false := by simpa using am
          refine qV (ypT rfl rfl) (qV (ypF rfl rfl) (rEnd (run_true rfl (qN rfl (zqa rfl (rEnd (run_ret Tryz.func84 rfl ?_))))))); exact ⟨_, rfl, cu cV (nosub_key hn vf (fun hh => by rw [hh.2 _ rfl] at qA; cases qA))⟩
         ·have qA : lt s tb = true := by simpa using am
          refine qV (ypT rfl rfl) (qV (ypF rfl rfl) (rEnd (run_false rfl (run_skip (run_inBlock (run_reg rfl (zqd rfl rfl (zqm rfl (rEnd ((ih (i + 1) _ ⟨rfl, by omega, fun k hk => ?_⟩ (by omega)).qb)))))))))); rcases (mem_take_succ hs).1 hk with hk | rfl
          ·exact bF k hk
          ·exact ⟨aC, fun u hu => by cases hu; exact qA⟩
     ·have : i = n.keys.length := by omega
      subst this; rw [List.take_length] at bF; refine run_exit rfl ?_; exact (cy _ _ ⟨rfl, rfl, bF⟩).qb
 case dG =>
  refine run_reg rfl (zqm rfl ?_)
  cases hn : T.nodes no with
  | none =>
    have oI : v8 = .pointer none := by rw [← vr, hn]; rfl
    subst oI; refine qV (yeqpN U81 rfl rfl) (zqm rfl (qS (qS (qS (qS (qV (ypT rfl rfl) (zqm rfl (qS (qS (qS (qS (qS (qS ?_))))))))))))); refine qS (qS (qS (qS (qS (qV (ypT rfl rfl) (zqm rfl (qS (qS (qS (qS (qS (qS (qS ?_))))))))))))); refine qS (qS (qS (qS (qS (qS (qS (qV (ypT rfl rfl) (rEnd (Run.qb (e := [(2, _), (4, _), (6, _), (7, _), (8, _), (61, _)]) ?_)))))))))
    exact (hk _ _ ⟨true, rfl, Ext.refl _, fun _ => nosub_none hn, fun h => Bool.noConfusion h⟩).qb
  | some n =>
    have oI : v8 = ptr (nb no) 0 := by rw [← vr, hn]; rfl
    subst oI; refine qV (yeqpN U81 rfl rfl) (zqm rfl (qV (yld U72 rfl rfl C7 rfl) (zqm rfl (qV (ylk (k := no) (K := KZ) U72 (ky_int U3) ti3 rfl rfl cf.l) ?_)))); rw [jw]; refine qV (ygt rfl rfl) (rVal_if (fun cJ => ?_) (fun cJ => ?_))
    ·refine qV (ypF rfl rfl) (zqm rfl (qS (qS (qS (qS (qS (qS (qS (qS (qS (qS (qS (qV (ypT rfl rfl) ?_))))))))))))); refine zqm rfl (qS (qS (qS (qS (qS (qS (qS (qS (qS (qS (qS (qS (qS ?_))))))))))))); refine qS (qV (ypT rfl rfl) (rEnd (Run.qb (e := [(2, _), (4, _), (6, _), (7, _), (8, _), (61, _)]) ?_))); exact (hk _ _ ⟨true, rfl, Ext.refl _, fun _ => nosub_met (jW.elim (fun e => by have := e.1; omega) (fun e => e.2)), fun h => Bool.noConfusion h⟩).qb
    ·obtain ⟨pr, rfl⟩ : no ∉ V ∧ q = 0 := jW.elim (fun e => ⟨e.2, e.1⟩) (fun e => by have := e.1; omega); obtain ⟨pl, rE, hM, ui, -⟩ := h2.nodeF hn; obtain ⟨qb, qk, qv, qc⟩ := pl; dsimp only at rE; subst rE; have oJ := hM.blk; have r8 := hM.keys; dsimp only at oJ r8; obtain ⟨ka, kac, uj, -⟩ := r8.rd.shape; subst uj; have bA := hM.bd; refine qV (ypF rfl rfl) (zqm rfl (zqm rfl (qV ((by first | exact yld U24 rfl rfl cD rfl | exact yld U24 rfl rfl gW rfl)) ?_))); refine qV (ynk rfl) (qV (yfa fl74_1 rfl) (qV ((by first | exact yld U3 rfl rfl cD rfl | exact yld U3 rfl rfl gW rfl)) ?_)); refine qV (yne rfl rfl) (rVal_if (fun hr => ?_) (fun hr => ?_))
     ·have Cq : V ≠ [] := fun e => by
       rcases jg with ⟨-, e'⟩ | e'
       ·exact hr e'
       ·rw [e] at e'; cases e'
      have xG : decide (V = []) = false := decide_eq_false Cq; refine zqm rfl (qV ((by first | exact yld U24 rfl rfl cD rfl | exact yld U24 rfl rfl gW rfl)) ?_); refine zqm rfl (zqc [.tmp 41, .tmp 42] cf77 rfl (low_ret gW hz oJ hM.r bA) ?_); rintro _ w3 ⟨rfl, ai⟩; have dC := ai.blk cD; have jx := ai.blk gW; refine qV (ypT rfl rfl) (rVal_if (fun bL => ?_) (fun bL => ?_))
      ·refine qV (ypF rfl rfl) (zqm rfl (qS (qS (qS (qS (qS (qS (qS (qS (qS (qS (qS (qS ?_))))))))))))); refine qS (qS (qV (ypT rfl rfl) (rEnd (Run.qb (e := [(2, _), (4, _), (6, _), (7, _), (8, _), (61, _)]) ?_)))); exact (hk _ _ ⟨true, rfl, ai, fun _ => nosub_cnd hn (by rw [xG]; simpa using bL), fun h => Bool.noConfusion h⟩).qb
      ·refine qV (ypF rfl rfl) (zqm rfl (zqm rfl (qV ((by first | exact yld U24 rfl rfl dC rfl | exact yld U24 rfl rfl jx rfl)) ?_))); refine qV (ynk rfl) (qV (yfa fl74_1 rfl) (qV ((by first | exact yld U3 rfl rfl dC rfl | exact yld U3 rfl rfl jx rfl)) ?_)); refine qV (yeq rfl rfl) (rVal_if (fun pC => ?_) (fun pC => ?_))
       ·exact absurd pC hr
       ·refine zqm rfl (qS (qS (qS (qS (qS (qS (qV (ypF rfl rfl) (qV (ypF rfl rfl) (rEnd (Run.qb (e := [(2, _), (4, _), (6, _), (7, _), (8, _), (61, _)]) ?_)))))))))); exact (hk _ _ ⟨false, rfl, ai, fun h => Bool.noConfusion h, fun _ => ⟨n, hn, pr, by rw [xG]; simpa using bL⟩⟩).qb
     ·have jP : no = T.root := by omega
      have H2 : V = [] := by
       rcases jg with ⟨e', -⟩ | e'
       ·exact e'
       ·exact absurd (jP ▸ e') pr
      have xG : decide (V = []) = true := decide_eq_true H2; refine zqm rfl (qS (qS (qS (qV (ypF rfl rfl) (qV (ypF rfl rfl) (zqm rfl (zqm rfl (qV ((by first | exact yld U24 rfl rfl cD rfl | exact yld U24 rfl rfl gW rfl | exact yld U24 rfl rfl oJ rfl)) ?_)))))))); refine qV (ynk rfl) (qV (yfa fl74_1 rfl) (qV ((by first | exact yld U3 rfl rfl cD rfl | exact yld U3 rfl rfl gW rfl | exact yld U3 rfl rfl oJ rfl)) ?_)); refine qV (yeq rfl rfl) (rVal_if (fun pC => ?_) (fun pC => ?_))
      ·refine zqm rfl (zqm rfl (qV (ynk rfl) (qV (yfa fl84_1 rfl) (qV ((by first | exact yld U23 rfl rfl cD rfl | exact yld U23 rfl rfl gW rfl | exact yld U23 rfl rfl oJ rfl)) ?_)))); refine qV (yln U23 rfl) (qV (yeq rfl rfl) (rVal_if (fun pz => ?_) (fun pz => ?_)))
       ·refine qV (ypT rfl rfl) (qV (ypF rfl rfl) (rEnd (Run.qb (e := [(2, _), (4, _), (6, _), (7, _), (8, _), (61, _)]) ?_))); refine (hk _ _ ⟨true, rfl, Ext.refl _, fun _ => nosub_cnd hn (by rw [xG]; simp; exact List.eq_nil_of_length_eq_zero (by omega)), fun h => Bool.noConfusion h⟩).qb
       ·refine qV (ypT rfl rfl) (qV (ypF rfl rfl) (rEnd (Run.qb (e := [(2, _), (4, _), (6, _), (7, _), (8, _), (61, _)]) ?_))); exact (hk _ _ ⟨false, rfl, Ext.refl _, fun h => Bool.noConfusion h, fun _ => ⟨n, hn, pr, by rw [xG]; simp; intro e; rw [e] at pz; exact pz rfl⟩⟩).qb
      ·exact absurd jP pC
theorem whAt_all (p bt bm bw mm : Nat) : ∀ k, WhAt p bt bm bw mm k := fun k => Nat.strongRecOn k fun k ih => whAt_step ih
end Go.Proofs.YtocnhaoilnojmaaGreat
