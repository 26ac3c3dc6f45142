/- Texts TrKa, TrKf, TrKg, TrNw, TrOk, TrTo, TrWh, one behind the other (what the statement TreePlays does not use is left out). -/
import Derived.Test.YtocnhaoilnojmaaGreatTPp1
import Derived.Test.YtocnhaoilnojmaaGreatTPp5
import Derived.Test.YtocnhaoilnojmaaGreatTPp4
namespace Go.Proofs.YtocnhaoilnojmaaGreat
open Go Go.RowKit
set_option linter.all false
set_option maxRecDepth 100000
def PutAt (p : Nat) (k v : Bytes) (bt bk bv bp : Nat) (H : Nat) : Prop := ∀ (w : World) (T : Tr) (nb : Int → Nat) (F : Nat → Prop) (no : Int) (lo : Bytes) (hi : Option Bytes) (ns : List Int) (es : Es),
 TreeA w p T nb F → PutC w F p k v bt bk bv bp → Bn T.size T.nodes H no lo hi ns es → ns.Nodup → inB lo hi k → keyOk k → 3 + k.length + v.length ≤ mostE T.size → GivS T → (∀ x ∈ T.given, 1 ≤ x ∧ x ≤ 2147483647) → (∀ x, T.nodes x ≠ none → 1 ≤ x ∧ x ≤ 2147483647) → H ≤ T.given.length → T.count ≤ 1000000000 → (∀ c ps, T.nodes no = some (innNd c ps) → ps ≠ []) →
 Ret Tryz.prog 68 [I no, ptr bt 0, ptr bk 0, ptr bv 0, ptr bp 0] w fun val w' => ∃ T' nb' F', TreeA w' p T' nb' F' ∧ PutPost T H no lo hi ns es k v val T' ∧ Kp F w w' ∧ (∀ i, F' i → F i ∨ w.heap.size ≤ i) ∧ ∀ x, T.nodes x ≠ none → x ∉ ns → nb' x = nb x
theorem putAt_leaf {p : Nat} {k v : Bytes} {bt bk bv bp : Nat} : PutAt p k v bt bk bv bp 1 := by
 intro w T nb F no lo hi ns es h hc hB hnd hin hk hkv hg hgr hnr hlen hcnt hne
 have hl := rise_len hg.rise hgr
 exact put_leaf_ret h hc hB hin hk hkv hg hgr (by omega) (.inr hlen) hcnt
section
variable {w : World}
set_option maxHeartbeats 4000000 in
theorem putAt_inner {p : Nat} {k v : Bytes} {bt bk bv bp h0 : Nat} (ih : PutAt p k v bt bk bv bp (h0 + 1)) : PutAt p k v bt bk bv bp (h0 + 2) := by
 intro w T nb F no lo hi ns es h hc hB hnd hin hk hkv hg hgr hnr hlen hcnt hne
 have hz : sizeOk (T.size : Int) := size_ok h
 obtain ⟨z1, z2, -⟩ := id hz
 have hor : orderE T.size ≤ 1000 ∧ 8 ≤ orderE T.size := by unfold orderE; omega
 obtain ⟨c, ps, ns', hn, hns, hko, hlo, hnz, hfull, a, lo', hi', nm, em, e1, e2, ha, hBa, hnda, hina, hnonm, hsub, hes, he1, he2, hone, htwo⟩ := inner_step hz hB hnd hin
 obtain ⟨i, hi0⟩ : ∃ i, wayI (ps.map (·.1)) k = i := ⟨_, rfl⟩
 rw [hi0] at ha htwo
 have hile : i ≤ ps.length := by have := wayI_le (ps.map (·.1)) k; rw [hi0, List.length_map] at this; exact this
 have hhas : hasE es k ↔ hasE em k := by rw [hes]; exact hasE_mid he1 he2
 have hins : insE es k v = e1 ++ (insE em k v ++ e2) := by rw [hes]; exact insE_mid he1 he2
 obtain ⟨mN, mC, mO, gv, kn, kc, ko, O⟩ := h.opn
 obtain ⟨q, hq, hM, hqF, -⟩ := h.nodeF hn
 obtain ⟨qb, qk, qv, qc⟩ := q
 dsimp only at hq
 subst hq
 have hBn := hM.blk
 have hC := hM.kids
 dsimp only at hBn hC
 have kcl : (innNd c ps).kids.length = ps.length + 1 := by simp [innNd]
 rw [kcl] at hC
 obtain ⟨gc, cc, rfl⟩ := some_of hC (by omega)
 have hal := hM.bd.cs a (List.mem_of_getElem? (show (innNd c ps).kids[_]? = some a from ha))
 have hamem : a ∈ c :: ps.map (·.2) := List.mem_of_getElem? ha
 have hBt := hc.t
 have hBk := hc.k
 have hBp := hc.f
 have hFl := h.lt
 have hg0 : Ext w w.drew := Ext.drew0 w
 refine ret_of_run (e := [(0, _), (1, _), (2, _), (3, _), (4, _)]) Tryz.func68 rfl Tryz.ntmps68 rfl rfl (qN rfl (qa rfl (qa rfl (qM rfl (qV ((by first | exact yld U24 rfl rfl hBt rfl | exact yld U24 rfl rfl O.blk rfl | exact yld U24 rfl rfl hBn rfl | exact yld U24 rfl rfl hBk rfl)) ?_)))))
 refine qV (ynk rfl) (qV (yfa fl74_5 rfl) (qV ((by first | exact yld U71 rfl rfl hBt rfl | exact yld U71 rfl rfl O.blk rfl | exact yld U71 rfl rfl hBn rfl | exact yld U71 rfl rfl hBk rfl)) ?_))
 refine qm rfl (qV (ylk (k := no) (K := KZ) U71 (ky_int U3) ti81 rfl rfl O.nm.l) ?_)
 rw [show (getL kn no).getD (.pointer none) = ptr (nb no) 0 by rw [O.ng no, hn]; rfl]
 refine qa rfl (rEnd (run_seq (qN rfl (qm rfl (qV (ynk rfl) (qV (yfa fl84_0 rfl) (qV ((by first | exact yld U4 rfl rfl hBt rfl | exact yld U4 rfl rfl O.blk rfl | exact yld U4 rfl rfl hBn rfl | exact yld U4 rfl rfl hBk rfl)) ?_)))))))
 refine rEnd (run_false rfl (run_skip (qN rfl (qm rfl (qV ((by first | exact yld U9 rfl rfl hBt rfl | exact yld U9 rfl rfl O.blk rfl | exact yld U9 rfl rfl hBn rfl | exact yld U9 rfl rfl hBk rfl)) ?_)))))
 refine rCall rfl rfl (yc (args := [.tmp 95, .tmp 96]) cf46 rfl) (way_ret k hBn hM.r hM.bd hko.2) ?_
 rintro _ w ⟨rfl, rfl⟩
 rw [show wayI (innNd c ps).keys k = i from hi0]
 refine qa rfl (rEnd (run_seq (run_drawL [9] (fun w' => Ext w w') (by kernel_rfl) rfl (qL [9, 10, 11, 12, 13, 14] 0 rfl (fun _ hS => (by first | exact yld U110 rfl rfl (hS.blk hBn) rfl | exact yld U110 rfl rfl (hS.blk hBp) rfl)) hg0 ?_))))
 refine qL [2, 3, 4, 6, 7, 8, 9, 10, 11, 12, 13, 14] 1 rfl (fun _ hS => ymv rfl) hg0 (qL [3, 4, 6, 7, 8, 9, 10, 11, 12, 13, 14] 2 rfl (fun _ hS => ynk rfl) hg0 (qL [4, 6, 7, 8, 9, 10, 11, 12, 13, 14] 3 rfl (fun _ hS => yfa fl84_3 rfl) hg0 (qL [6, 7, 8, 9, 10, 11, 12, 13, 14] 4 rfl (fun _ hS => (by first | exact yld U82 rfl rfl (hS.blk hBn) rfl | exact yld U82 rfl rfl (hS.blk hBp) rfl)) hg0 ?_)))
 refine qL [6, 7, 8, 9, 10, 11, 12, 13, 14] 5 rfl (fun _ hS => ymv rfl) hg0 (qL [7, 8, 9, 10, 11, 12, 13, 14] 6 rfl (fun _ hS => yis U82 ti89 rfl rfl (by omega)) hg0 (qL [8, 9, 10, 11, 12, 13, 14] 7 rfl (fun _ hS => yldc U89 rfl rfl (rd_u32 ((hC.ext hS).rd) (by omega) ha)) hg0 (qL [9, 10, 11, 12, 13, 14] 8 rfl (fun _ hS => ycvSi64 rfl U89 U3 (by omega)) hg0 (hLate [9] (by kernel_rfl) (by kernel_rfl) (qO 9 (nCall (i := 9) rfl rfl rfl (ycv' (args := [.tmp 107]) cf68 rfl rfl) (ih _ T nb F (a : Int) lo' hi' nm em (h.ext hg0) (hc.kp hg0.kp (fun i hi => .inl hi)) hBa hnda hina hk hkv hg hgr hnr (by omega) hcnt (fun c' ps' hn' e => by have := full_inn (hfull a hamem) hz hn'; rw [e] at this; simp at this)) ?_))))))
 rintro v1 w1 ⟨T1, nb1, F1, h1, ⟨hcn1, hE1, hout⟩, hk1, hF1, hnb1⟩
 refine ⟨trivial, ?_⟩
 have hsz : T1.size = T.size := hE1.size
 have hgr1 : ∀ x ∈ T1.given, 1 ≤ x ∧ x ≤ 2147483647 := fun x hx => (hE1.giv x hx).elim (hgr x) (fun e => hnr x e.1)
 have hgl1 : T1.given.length ≤ 2147483647 := by have := rise_len hE1.srt.rise hgr1; omega
 have hk01 : Kp F w w1 := hg0.kp.trans hk1
 have hz0 := hg0.size
 have hF01 : ∀ i, F1 i → F i ∨ w.heap.size ≤ i := fun i hi => (hF1 i hi).imp id (fun e => by omega)
 have hc1 : PutC w1 F1 p k v bt bk bv bp := hc.kp hk01 hF01
 have hBt1 := hc1.t
 have hnbno : nb1 no = nb no := hnb1 no (by rw [hn]; simp) hnonm
 have hnbx : ∀ x, T.nodes x ≠ none → x ∉ ns → nb1 x = nb x := fun x hx hns => hnb1 x hx (fun hm => hns (hsub x hm))
 have hlg := hE1.len
 rcases hout with ⟨rfl, ⟨nm', hBa1, hev1⟩, hkeys⟩ | ⟨up, more, rfl, ⟨n1', n2', f1, f2, hff, hb1, hb2, hev1, hu1, hu2, hu3, hfa, hfm, hm0⟩⟩
 ·refine qt 10 rfl (ymv rfl) trivial (qt 11 rfl (yex rfl rfl) trivial (qt 12 rfl (yex rfl rfl) trivial (qt 13 rfl (yas rfl) trivial (qt 14 rfl (yas rfl) trivial (qE (Run.qb (e := [(0, _), (1, _), (6, _), (7, _), (8, _), (12, _), (13, _), (14, _)]) ?_))))))
  refine run_seq (qN rfl (qm rfl (qV (yeq rfl rfl) (rEnd (run_true rfl (qN rfl (qV (yld U24 rfl rfl hBt1 rfl) (qm rfl (qm rfl ?_)))))))))
  obtain ⟨ns1, M, hev2⟩ := hone T1.nodes nm' _ hBa1 hev1
  have M1 : Mid T1.size h0 T1.nodes no lo hi c ps ns1 (e1 ++ (insE em k v ++ e2)) a := by rw [hsz]; exact M
  refine rCall rfl rfl (yc (args := [.tmp 113, .tmp 114, .tmp 115]) cf47 rfl) (even_all h1 M1 (hne c ps hn) hile ha (hkeys (hfull a hamem)) hE1.srt (by omega)) ?_
  rintro _ w2 ⟨rfl, T2, F2, ns2, h2, b1, b2, b3, b4, ⟨ps', hn2, hps'⟩, hk2, hF2⟩
  rw [hsz] at b1
  refine qM rfl (qa rfl (qa rfl (rEnd (run_ret Tryz.func68 rfl (⟨_, rfl, T2, nb1, F2, h2, ⟨by rw [b4, hcn1]; simp only [hhas], (hE1.trans b3).mono (by omega), .inl ⟨rfl, ⟨ns2, by rw [hins]; exact b1, hev2.trans b2⟩, fun hlow m hm => ?_⟩⟩, hk01.trans_new hk2 (fun i hi => (hF01 i hi).symm), fun i hi => ?_, hnbx⟩)))))
  ·rw [hn2] at hm
   cases hm
   have := hlow _ hn
   rw [innNd_low] at this
   intro e
   have : ps' = [] := by simpa [innNd] using e
   subst this
   simp at hps'
   omega
  ·have := hk01.size
   rcases hF2 i hi with e | e
   ·exact hF01 i e
   ·exact .inr (by omega)
 ·obtain ⟨hnoe, ns1, hCh, hkoP, hinP, hnzP, hfullP, hevP⟩ := htwo T1.nodes up more n1' n2' f1 f2 hb1 hb2 hev1 hu1 hu2 hu3 hfa hfm hm0
  obtain ⟨P, hP⟩ : ∃ P, P = ps.take i ++ (up, more) :: ps.drop i := ⟨_, rfl⟩
  have hPl : P.length = ps.length + 1 := by rw [hP]; simp; omega
  have hPk : (innNd c P).keys = ((innNd c ps).keys).take i ++ up :: ((innNd c ps).keys).drop i := by rw [hP]; simp [innNd]
  have hPc : (innNd c P).kids = ((innNd c ps).kids).take (i + 1) ++ more :: ((innNd c ps).kids).drop (i + 1) := by rw [hP]; simp [innNd]
  rw [← hP] at hCh hkoP hinP hnzP hfullP
  rw [← hff, ← hins] at hCh
  have hn1 : T1.nodes no = some (innNd c ps) := by rw [hnoe]; exact hn
  have hmore : 1 ≤ (more : Int) ∧ (more : Int) ≤ 2147483647 := by
   rcases hE1.nod (more : Int) (Bn.some hb2 _ hb2.mem) with e | e
   ·exact hnr _ e
   ·exact hgr _ e
  obtain ⟨q1, hq1, hM1, hq1F, hcl1⟩ := h1.nodeF hn1
  obtain ⟨q1b, q1k, q1v, q1c⟩ := q1
  dsimp only at hq1
  subst hq1
  have hBn1 := hM1.blk
  have hK1 := hM1.keys
  have hV1 := hM1.vals
  have hC1 := hM1.kids
  have hd1 := hM1.d1
  have hd2 := hM1.d2
  have hd3 := hM1.d3
  dsimp only at hBn1 hK1 hV1 hC1 hd1 hd2 hd3
  have hkl : (innNd c ps).keys.length = ps.length := by simp [innNd]
  rw [kcl] at hC1
  rw [hkl] at hK1
  have hbdP : (innNd c P).Bd := by
   obtain ⟨d1, d2, d3, d4, d5, d6⟩ := hM1.bd
   refine ⟨by rw [hPk]; simp at d1 ⊢; omega, by simp [innNd], by rw [hPc]; simp; omega, fun x hx => ?_, by simp [innNd], fun x hx => ?_⟩
   ·have := hkoP.1 x hx; omega
   ·rw [hPc] at hx
    rcases List.mem_append.1 hx with e | e
    ·exact d6 x (List.mem_of_mem_take e)
    ·rcases List.mem_cons.1 e with rfl | e
     ·omega
     ·exact d6 x (List.mem_of_mem_drop e)
  rw [← hnbno]
  refine qt 10 rfl (ymv rfl) trivial (qt 11 rfl (yex rfl rfl) trivial (qt 12 rfl (yex rfl rfl) trivial (qt 13 rfl (yas rfl) trivial (qt 14 rfl (yas rfl) trivial (qE (Run.qb (e := [(0, _), (1, _), (6, _), (7, _), (8, _), (12, _), (13, _), (14, _)]) ?_))))))
  refine run_seq (qN rfl (qm rfl (qV (yeq rfl rfl) (rEnd (run_if rfl (fun hmz => ?_) (fun hmz => ?_))))))
  ·exact absurd hmz (by omega)
  ·have hFl1 := h1.lt
   obtain ⟨Q, hQ⟩ : ∃ Q : Nat → Prop, Q = fun g => q1k.ownBlock = some g ∨ q1c.ownBlock = some g := ⟨_, rfl⟩
   have hQF : ∀ g, Q g → F1 g := fun g hg => by
    rw [hQ] at hg
    exact (hq1F g (hg.elim (fun e => .inr (.inl e)) (fun e => .inr (.inr (.inr e))))).1
   have hQn : ¬ Q (nb1 no) := fun e => by
    rw [hQ] at e
    exact e.elim hd1.1 hd1.2.2
   have hQk : ∀ g, q1k.ownBlock = some g → Q g := fun g hg => by rw [hQ]; exact .inl hg
   have hQc : ∀ g, q1c.ownBlock = some g → Q g := fun g hg => by rw [hQ]; exact .inr hg
   have hQl : ∀ g, Q g → g < w1.heap.size := fun g hg => hFl1 g (hQF g hg)
   refine run_skip (run_seq ?_)
   -- AT: Code.region
   have hcn1' : T1.count = T.count + if hasE es k then 0 else 1 := by rw [hcn1]; simp only [hhas]
   refine run_cut (fun e' w2 => ∃ F2 T2, e' = [(0, I no), (1, ptr bt 0), (6, S []), (7, I 0), (8, ptr (nb1 no) 0)] ∧ T2 = T1.setN no (innNd c P) ∧ TreeA w2 p T2 nb1 F2 ∧ Kp F w w2 ∧ ∀ g, F2 g → F g ∨ w.heap.size ≤ g) ?hkn (fun hkn => ?hmainn)
   case hkn =>
    rintro e' w2 ⟨F2, T2, rfl, hT2, h2, hk2, hF2⟩
    have hc2 := hc.kp hk2 hF2
    have hBt2 := hc2.t
    obtain ⟨mN2, mC2, mO2, gv2, kn2, kc2, ko2, O2⟩ := h2.opn
    refine qN rfl (qV ((by first | exact yld U24 rfl rfl hBt2 rfl | exact yld U24 rfl rfl O2.blk rfl)) ?_)
    refine qV (ynk rfl) (qV (yfa fl74_7 rfl) (qV ((by first | exact yld U72 rfl rfl hBt2 rfl | exact yld U72 rfl rfl O2.blk rfl)) ?_))
    refine qm rfl (rEffP rfl (zmuB (k := no) (K := KZ) U72 (ky_int U3) rfl rfl rfl O2.cm) ?_)
    rintro w3 ⟨hM3, hk3⟩
    have h3 := O2.setC w3 _ (updI T2.changed no true) hM3 hk3 (fun x => by
     rw [getL_put]
     by_cases e : x = no
     ·subst e; simp [flag, updI]
     ·rw [if_neg e, O2.cg]; simp [updI, e])
    obtain ⟨T3, hT3⟩ : ∃ X, X = ({ T2 with changed := updI T2.changed no true } : Tr) := ⟨_, rfl⟩
    rw [← hT3] at h3
    have hs3 : T3.size = T.size := by rw [hT3, hT2]; exact hsz
    have hk23 : Kp F2 w2 w3 := hk3.mono' (fun k hk => by rw [hk]; exact O2.fp.2.2.1)
    have hk03 : Kp F w w3 := hk2.trans_new hk23 (fun i hi => (hF2 i hi).symm)
    have hn3 : T3.nodes no = some (innNd c P) := by rw [hT3, hT2]; exact updI_same _ _ _
    obtain ⟨mN3, mC3, mO3, gv3, kn3, kc3, ko3, O3⟩ := h3.opn
    obtain ⟨q3, hq3, hM3', hq3F, hcl3⟩ := h3.nodeF hn3
    obtain ⟨q3b, q3k, q3v, q3c⟩ := q3
    dsimp only at hq3
    subst hq3
    have hBn3 := hM3'.blk
    have hC3 := hM3'.kids
    dsimp only at hBn3 hC3
    have hkl3 : (innNd c P).kids.length = P.length + 1 := by simp [innNd]
    rw [hkl3] at hC3
    obtain ⟨gc3, cc3, rfl⟩ := some_of hC3 (by omega)
    have hc3 : PutC w3 F2 p k v bt bk bv bp := hc2.kp hk23 (fun i hi => .inl hi)
    have hBt3 := hc3.t
    refine rEnd (run_seq (run_seq ?_))
    have hg3 : Ext w3 w3.drew := Ext.drew0 w3
    refine run_draw (fun w' => Ext w3 w') (by kernel_rfl) rfl (qt 0 rfl (ymv rfl) hg3 (qt 1 rfl (ynk rfl) hg3 (qt 2 rfl (yfa fl84_3 rfl) hg3 (qT 3 rfl (fun _ hS => (by first | exact yld U82 rfl rfl (hS.blk hBn3) rfl | exact yld U82 rfl rfl (hS.blk hBt3) rfl | exact yld U82 rfl rfl (hS.blk O3.blk) rfl)) hg3 ?_))))
    refine qt 4 rfl (yln U82 rfl) hg3 (qT 5 rfl (fun _ hS => (by first | exact yld U24 rfl rfl (hS.blk hBn3) rfl | exact yld U24 rfl rfl (hS.blk hBt3) rfl | exact yld U24 rfl rfl (hS.blk O3.blk) rfl)) hg3 ?_)
    refine qt 6 rfl (ynk rfl) hg3 (qt 7 rfl (yfa fl74_3 rfl) hg3 (qT 8 rfl (fun _ hS => (by first | exact yld U3 rfl rfl (hS.blk hBn3) rfl | exact yld U3 rfl rfl (hS.blk hBt3) rfl | exact yld U3 rfl rfl (hS.blk O3.blk) rfl)) hg3 ?_))
    refine qt 9 rfl (yle rfl rfl) hg3 (qE ?_)
    have hz1 := hk2.size
    have hz3 := hk23.size
    have hz4 := hg3.size
    have hT3' : T3 = (T1.setN no (innNd c P)).mark no := by rw [hT3, hT2]; rfl
    have hcn3 : T3.count = T1.count := by rw [hT3']; rfl
    have hevo : Evo T1 T3 0 := by rw [hT3']; exact Evo.set hE1.srt hn1
    rw [hs3]
    refine run_if rfl (fun hb => ?_) (fun hb => ?_)
    ·refine qN rfl (qa rfl (qa rfl (rEnd (run_ret Tryz.func68 rfl ?_))))
     obtain ⟨b1, b2⟩ := put_inn1 hz hCh hkoP (by omega) ⟨hnz.1, hnzP⟩ hinP hfullP hevP.nd
     refine ⟨_, rfl, T3, nb1, F2, h3.ext hg3, ⟨by rw [hcn3]; exact hcn1', (hE1.trans hevo).mono (by omega), .inl ⟨rfl, ⟨_, by rw [hT3']; exact b1, hevP.trans (by rw [hT3']; exact b2)⟩, fun _ m hm => ?_⟩⟩, hk03.trans hg3.kp, hF2, hnbx⟩
     rw [hn3] at hm
     cases hm
     intro e
     have : P.length = 0 := by have := congrArg List.length e; simpa [innNd] using this
     omega
    ·obtain ⟨no', gs, hgs⟩ : ∃ a l, T1.given = a :: l := by
      cases e : T1.given with
      | nil => rw [e] at hlg; simp at hlg; omega
      | cons a l => exact ⟨a, l, rfl⟩
     have hno' := hgr1 no' (by rw [hgs]; simp)
     have hfree := hE1.srt.free no' (by rw [hgs]; simp)
     obtain ⟨f, hf⟩ : ∃ f : Nat, no' = (f : Int) := ⟨no'.toNat, by omega⟩
     subst hf
     have hnof : no ≠ (f : Int) := fun e => by rw [← e, hn1] at hfree; cases hfree.1
     obtain ⟨up2, c2, hup2, htwo2⟩ := put_inn2 hz hCh hkoP (by omega) (by omega) ⟨hnz.1, hnzP⟩ hinP hfullP hevP.nd (by rw [hn1]; simp) hfree.1 (by omega)
     have hM4 : NdM w3.drew (innNd c P) ⟨nb1 no, q3k, q3v, .slice (some ⟨gc3, 0, none⟩) (P.length + 1) cc3⟩ := hM3'.kp hg3.kp (fun _ _ => id)
     have hpart := part_ret hM4 (by omega) rfl hup2
     have hm1 : (P.length + 1) / 2 - 1 + 1 = (P.length + 1) / 2 := by omega
     rw [hm1] at hpart
     dsimp only at hpart
     refine run_skip (qN rfl (qm rfl (rCall rfl rfl (yc (args := [.tmp 157]) cf73 rfl) (hpart) ?_)))
     rintro _ w5 ⟨kv2, cv2, q5, rfl, hq5b, hq5v, hM5, hK5, hC5, hk45, ok5, oc5, okk5, occ5⟩
     have hlt4 : ∀ i, F2 i → i < w3.drew.heap.size := (h3.ext hg3).lt
     obtain ⟨F5, h5, hF5⟩ := hcl3 w5 _ q5 hq5b hM5 ((hg3.kp).trans (hk45.mono' (fun i hi => .inl hi))) (fun i hi => by
      rcases hi with e | e | e | e
      ·exact .inl (.inl (by rw [e, hq5b]))
      ·exact .inr (fun hh => by have := ok5 i e; have := hlt4 i hh; omega)
      ·exact .inl (.inr (.inr (.inl (by rw [hq5v] at e; exact e))))
      ·exact .inr (fun hh => by have := oc5 i e; have := hlt4 i hh; omega))
     obtain ⟨T5, hT5⟩ : ∃ X, X = T3.setN no (innNd c (P.take ((P.length + 1) / 2 - 1))) := ⟨_, rfl⟩
     rw [← hT5] at h5
     have hz5 := hk45.size
     have hlt5 := h5.lt
     refine qm rfl (qV (yex rfl rfl) (qV (yex rfl rfl) (rValP rfl rfl (pal (cs := [_, _, _, _]) ti84 rfl) ?_)))
     rintro _ w6 ⟨b6, rfl, hb6, hx6, hB6⟩
     have hz6 := hx6.size
     refine qa rfl (rEffP rfl (zstA (news := [.bool false, kv2, .slice none 0 0, cv2]) ti84 rfl rfl (by simp only [List.all_cons, List.all_nil, oneV_sl hK5, oneV_sl hC5, Bool.and_true]; rfl) rfl hB6 (by simp)) ?_)
     rintro w7 ⟨hB7, hk67⟩
     have hz7 := hk67.size
     have hx57 : Ext w5 w7 := hx6.trans_new hk67 (fun i hi => by omega)
     have hBr : Blk w7 b6 [.bool false, kv2, .slice none 0 0, cv2] 84 := hB7
     have h7 := h5.ext hx57
     have hk35 : Kp F2 w3 w5 := (hg3.kp).trans (hk45.mono' (fun i hi => by rw [hi]; exact (hq3F _ (.inl rfl)).1))
     have hk05 : Kp F w w5 := hk03.trans_new hk35 (fun i hi => (hF2 i hi).symm)
     have hk07 : Kp F w w7 := hk05.trans hx57.kp
     have hF5' : ∀ i, F5 i → F i ∨ w.heap.size ≤ i := fun i hi => by
      rcases hF5 i hi with e | e
      ·exact hF2 i e
      ·rcases e with e | e | e | e
       ·exact hF2 i (by rw [e, hq5b]; exact (hq3F _ (.inl rfl)).1)
       ·exact .inr (by have := ok5 i e; omega)
       ·exact hF2 i (hq3F i (.inr (.inr (.inl (by rw [hq5v] at e; exact e))))).1
       ·exact .inr (by have := oc5 i e; omega)
     have hnotK : ∀ i, kv2.ownBlock = some i → ¬ F5 i := fun i hi hh => by
      obtain ⟨a1, a2, -⟩ := okk5 i hi
      rcases hF5 i hh with e | e
      ·have := hlt4 i e; omega
      ·exact a2 e
     have hnotC : ∀ i, cv2.ownBlock = some i → ¬ F5 i := fun i hi hh => by
      obtain ⟨a1, a2⟩ := occ5 i hi
      rcases hF5 i hh with e | e
      ·have := hlt4 i e; omega
      ·exact a2 e
     have hc7 := hc.kp hk07 hF5'
     have hBt7 := hc7.t
     have hP7 : NdP w7 (innNd c2 (P.drop ((P.length + 1) / 2))) kv2 (.slice none 0 0) cv2 := by
      obtain ⟨d1, d2, d3, d4, d5, d6⟩ := hbdP
      have hd : (P.drop ((P.length + 1) / 2)).length ≤ P.length := by rw [List.length_drop]; omega
      refine ⟨?_, Sl.nil _ _ _, ?_, ⟨by simp [innNd] at d1 ⊢; omega, by simp [innNd], by simp [innNd] at d3 ⊢; omega, fun x hx => ?_, by simp [innNd], fun x hx => ?_⟩, fun g hg => ⟨by simp [Value.ownBlock], (okk5 g hg).2.2⟩, fun g hg => by simp [Value.ownBlock] at hg⟩
      ·have e : (innNd c2 (P.drop ((P.length + 1) / 2))).keys.length = (P.drop ((P.length + 1) / 2)).length := by simp [innNd]
       rw [e]; exact hK5.ext hx57
      ·have e : (innNd c2 (P.drop ((P.length + 1) / 2))).kids.length = (P.drop ((P.length + 1) / 2)).length + 1 := by simp [innNd]
       rw [e]; exact hC5.ext hx57
      ·obtain ⟨y, hy, rfl⟩ := List.mem_map.1 (show x ∈ (P.drop ((P.length + 1) / 2)).map (·.1) from hx)
       exact d4 y.1 (List.mem_map.2 ⟨y, List.mem_of_mem_drop hy, rfl⟩)
      ·rcases List.mem_cons.1 (show x ∈ c2 :: (P.drop ((P.length + 1) / 2)).map (·.2) from hx) with rfl | hx
       ·exact d6 _ (List.mem_cons_of_mem _ (List.mem_map.2 ⟨_, List.mem_of_getElem? hup2, rfl⟩))
       ·obtain ⟨y, hy, rfl⟩ := List.mem_map.1 hx
        exact d6 y.2 (List.mem_cons_of_mem _ (List.mem_map.2 ⟨y, List.mem_of_mem_drop hy, rfl⟩))
     have hgv5 : T5.given = (f : Int) :: gs := by rw [hT5, hT3, hT2]; exact hgs
     have hnv5 : T5.nodes (f : Int) = none := by rw [hT5, hT3, hT2]; show updI (updI T1.nodes no _) no _ (f : Int) = none; rw [updI_ne (Ne.symm hnof), updI_ne (Ne.symm hnof)]; exact hfree.1
     have hPF : ∀ i, ownP kv2 (.slice none 0 0) cv2 i → ¬ F5 i := fun i hi => by
      rcases hi with e | e | e
      ·exact hnotK i e
      ·simp [Value.ownBlock] at e
      ·exact hnotC i e
     have hfr := fresh_ret h7 hgv5 (by rw [hgs] at hgl1; simp at hgl1; omega) hP7 hPF hnv5
     rw [show (innNd c2 (P.drop ((P.length + 1) / 2))).leaf = false from rfl] at hfr
     refine rEnd (Run.qb (e := [(1, _), (6, _), (7, _), (13, _), (15, _)]) ?_)
     refine qN rfl (qm rfl (qV ((by first | exact yld U24 rfl rfl hBr rfl | exact yld U24 rfl rfl hBt7 rfl)) ?_))
     refine qV ((by first | exact yldA U84 rfl ti84 rfl (Blk.cells (n := 4) hBr (news := [_, _, _, _]) rfl) rfl | exact yldA U84 rfl ti84 rfl (Blk.cells (n := 4) hBt7 (news := [_, _, _, _]) rfl) rfl)) ?_
     refine rCall rfl rfl (yc (args := [.tmp 162, .tmp 163]) cf67 rfl) (hfr) ?_
     rintro _ w8 ⟨rfl, b8, F8, h8, hk78, hF8⟩
     refine qa rfl (qa rfl (rEnd (run_ret Tryz.func68 rfl ?_)))
     have hT8 : (({ T5 with given := gs } : Tr).setN (f : Int) (innNd c2 (P.drop ((P.length + 1) / 2)))).mark (f : Int) = ((({ (T1.setN no (innNd c (P.take ((P.length + 1) / 2 - 1)))).mark no with given := gs } : Tr).setN (f : Int) (innNd c2 (P.drop ((P.length + 1) / 2))))).mark (f : Int) := by
      rw [hT5, hT3']
      have e5 : ∀ (a b : Nd), updI (updI T1.nodes no (some b)) no (some a) = updI T1.nodes no (some a) := fun a b => by
       funext x; unfold updI; split <;> rfl
      show ({ T1 with nodes := updI (updI (updI T1.nodes no _) no _) _ _, given := gs, changed := _ } : Tr) = { T1 with nodes := updI (updI T1.nodes no _) _ _, given := gs, changed := _ }
      rw [e5]
      rfl
     rw [hT8] at h8
     obtain ⟨m1, m2, g1, g2, q1', q2', q3', q4', q5', q6', q7', q8', q9'⟩ := htwo2
     refine ⟨_, rfl, _, _, F8, h8, ⟨hcn1', ?_, .inr ⟨up2, f, rfl, m1, m2, g1, g2, q1', q2', q3', hevP.trans q4', q5', q6', q7', q8', q9', by omega⟩⟩, hk07.trans_new hk78 (fun i hi => (hF5' i hi).symm), fun i hi => ?_, fun x hx hxn => ?_⟩
     ·have e1 : Evo T1 ((T1.setN no (innNd c (P.take ((P.length + 1) / 2 - 1)))).mark no) 0 := Evo.set hE1.srt hn1
      have e2 := Evo.fresh (n := innNd c2 (P.drop ((P.length + 1) / 2))) e1.srt (show _ = (f : Int) :: gs from hgs)
      exact (hE1.trans (e1.trans e2)).mono (by omega)
     ·rcases hF8 i hi with e | e | e
      ·exact hF5' i e
      ·exact .inr (by omega)
      ·rcases e with e | e | e
       ·exact .inr (by have := (okk5 i e).1; omega)
       ·simp [Value.ownBlock] at e
       ·exact .inr (by have := (occ5 i e).1; omega)
     ·have hxf : x ≠ (f : Int) := fun e => by
       have := hevP.d2 x hx hxn
       rw [e, hfree.1, ← e] at this
       exact hx this.symm
      rw [updI_ne hxf]
      exact hnbx x hx hxn
   case hmainn =>
    have hone : ∀ {l : List Bytes}, ∀ c' ∈ l.map S, c'.oneCell' = true := fun c' hc => by obtain ⟨z, -, rfl⟩ := List.mem_map.1 hc; rfl
    have honeU : ∀ {l : List Nat}, ∀ c' ∈ l.map u32v, c'.oneCell' = true := fun c' hc => by obtain ⟨z, -, rfl⟩ := List.mem_map.1 hc; rfl
    have hgg : Ext w1 w1.drew := Ext.drew0 w1
    have hkc : Kp Q w1 w1.drew := hgg.kp
    have hK0 := hK1.ext hgg
    have hC0 := hC1.ext hgg
    have hzc := hgg.size
    refine run_drawL [22,25] (fun w' => Kp Q w1 w') (by kernel_rfl) rfl (qL [20, 21, 22, 23, 24, 25] 0 rfl (fun _ hS => ymv rfl) hkc (hTakeU (i := 1) rfl (by kernel_rfl) rfl rfl (fun _ => ymv rfl) (hkc) (qL [3, 4, 5, 9, 19, 20, 21, 22, 23, 24, 25] 2 rfl (fun _ hS => ymv rfl) hkc (qL [4, 5, 9, 19, 20, 21, 22, 23, 24, 25] 3 rfl (fun _ hS => ynk rfl) hkc (qL [5, 9, 19, 20, 21, 22, 23, 24, 25] 4 rfl (fun _ hS => yfa fl84_1 rfl) hkc (qL [9, 19, 20, 21, 22, 23, 24, 25] 5 rfl (fun _ hS => yld U23 rfl rfl (hS.blk hBn1 hQn) rfl) hkc (qL [9, 19, 20, 21, 22, 23, 24, 25] 6 rfl (fun _ hS => ymv rfl) hkc (qL [8, 9, 19, 20, 21, 22, 23, 24, 25] 7 rfl (fun _ hS => ymv rfl) hkc (qL [11, 12, 13, 19, 20, 21, 22, 23, 24, 25] 10 rfl (fun _ hS => ymv rfl) hkc (qL [12, 13, 19, 20, 21, 22, 23, 24, 25] 11 rfl (fun _ hS => ynk rfl) hkc (qL [13, 19, 20, 21, 22, 23, 24, 25] 12 rfl (fun _ hS => yfa fl84_3 rfl) hkc (qL [19, 20, 21, 22, 23, 24, 25] 13 rfl (fun _ hS => yld U82 rfl rfl (hS.blk hBn1 hQn) rfl) hkc (qL [15, 19, 20, 21, 22, 23, 24, 25] 14 rfl (fun _ hS => ymv rfl) hkc ?_)))))))))))))
    refine qL [19, 20, 21, 22, 23, 24, 25] 15 rfl (fun _ hS => yad rfl rfl (by omega)) hkc (qL [17, 18, 19, 20, 21, 22, 23, 24, 25] 16 rfl (fun _ hS => ymv rfl) hkc (qL [18, 19, 20, 21, 22, 23, 24, 25] 17 rfl (fun _ hS => ycv32 rfl U3 U89) hkc (hTwoL (i := 8) (j := 18) (by kernel_rfl) ?_ ?_)))
    ·refine nValPL (i := 8) rfl rfl rfl (pbs (parts := [(0, .tmp 124)]) (cs := [_]) (zs := [Value.string ⟨#[]⟩]) U23 ti9 rfl (by kernel_rfl) rfl rfl rfl (by decide)) ?_
     rintro _ w8 ⟨b8, rfl, ⟨hb8, hx8, hB8⟩, hS8⟩
     refine ⟨hkc.trans hx8.kp, ?_⟩
     have hkc := hkc.trans (hx8.kp (S := Q))
     have hK0 := hK0.ext hx8
     have hC0 := hC0.ext hx8
     try have hS18 := hS18.ext hx8
     have hl8 : w1.heap.size ≤ b8 := by omega
     have hzc := Nat.le_trans hzc hx8.size
     refine hTwoL (i := 9) (j := 18) (by kernel_rfl) ?_ ?_
     ·refine nCallL (i := 9) rfl rfl rfl (yc (args := [.tmp 122, .tmp 123, .tmp 125]) cf69 rfl) (insS_ret (i := i) hK0 hS8 rfl hone hile (by omega) (fun b hb e => by have e : b8 = b := Option.some.inj e; have := hQl _ (hQk _ hb); omega)) ?_
      rintro kv9 w9 ⟨hS9, hk9, ho9⟩
      refine ⟨hkc.trans (hk9.mono' hQk), ?_⟩
      have hkc := hkc.trans (hk9.mono' hQk)
      have hC0 := hC0.kp hk9 (fun g hg e => (hd2 g e).2 hg)
      try have hS18 := hS18.kp hk9 (fun g hg e => by have e' : b18 = g := Option.some.inj hg; have := hQl _ (hQk _ e); omega)
      have ho9 : ∀ g, kv9.ownBlock = some g → q1k.ownBlock = some g ∨ w1.heap.size ≤ g := fun g hg => (ho9 g hg).imp id (fun e => Nat.le_trans hzc e)
      have hzc := Nat.le_trans hzc hk9.size
      refine hOneL (i := 18) (by kernel_rfl) (nValPL (i := 18) rfl rfl rfl (pbs (parts := [(0, .tmp 134)]) (cs := [_]) (zs := [Value.int .u32 0]) U82 ti89 rfl (by kernel_rfl) rfl rfl rfl (by decide)) ?_)
      rintro _ w18 ⟨b18, rfl, ⟨hb18, hx18, hB18⟩, hS18⟩
      refine ⟨hkc.trans hx18.kp, ?_⟩
      have hkc := hkc.trans (hx18.kp (S := Q))
      try have hK0 := hK0.ext hx18
      have hC0 := hC0.ext hx18
      try have hS8 := hS8.ext hx18
      try have hS9 := hS9.ext hx18
      have hl18 : w1.heap.size ≤ b18 := by omega
      have hzc := Nat.le_trans hzc hx18.size
      have hz19 := fun (g : Nat) (hg : kv9.ownBlock = some g) => hS9.lt hg
      refine hOneL (i := 19) (by kernel_rfl) (nCallL (i := 19) rfl rfl rfl (yc (args := [.tmp 130, .tmp 132, .tmp 135]) cf72 rfl) (insU_ret (i := i + 1) hC0 hS18 rfl honeU (by omega) (by omega) (fun b hb e => by have e : b18 = b := Option.some.inj e; have := hQl _ (hQc _ hb); omega)) ?_)
      rintro cv19 w19 ⟨hS19, hk19, ho19⟩
      refine ⟨hkc.trans (hk19.mono' hQc), ?_⟩
      have hkc := hkc.trans (hk19.mono' hQc)
      have hS9 := hS9.kp hk19 (fun g hg e => (ho9 g hg).elim (fun e' => (hd2 g e').2 e) (fun e' => by have := hQl _ (hQc _ e); omega))
      have hdis : ∀ g, w1.heap.size ≤ g → kv9.ownBlock = some g → cv19.ownBlock ≠ some g := fun g hg h1 h2 => by
       rcases ho19 g h2 with e | e
       ·have := hQl _ (hQc _ e); omega
       ·have := hz19 g h1; omega
      have ho19 : ∀ g, cv19.ownBlock = some g → q1c.ownBlock = some g ∨ w1.heap.size ≤ g := fun g hg => (ho19 g hg).imp id (fun e => Nat.le_trans hzc e)
      refine qL [21, 22, 23, 24, 25] 20 rfl (fun _ hS => ynk rfl) hkc (qL [22, 23, 24, 25] 21 rfl (fun _ hS => yfa fl84_1 rfl) hkc (hLate [22] (by kernel_rfl) (by kernel_rfl) (qO 22 (nEffP (i := 22) rfl rfl (zst ti23 rfl rfl (oneV_sl hS9) (hkc.blk hBn1 hQn) (by simp)) ?_))))
      rintro w22 ⟨hB22, hk22⟩
      refine ⟨trivial, ?_⟩
      refine qt 23 rfl (ynk rfl) trivial (qt 24 rfl (yfa fl84_3 rfl) trivial (qO 25 (nEffP (i := 25) rfl rfl (zst ti82 rfl rfl (oneV_sl hS19) hB22 (by simp)) ?_)))
      rintro w25 ⟨hB25, hk25⟩
      refine ⟨trivial, ?_⟩
      refine qE (Run.qb (e := [(0, _), (1, _), (6, _), (7, _), (8, _), (13, _)]) ?_)
      have hk2225 := hk22.trans hk25
      have hnk : ∀ g, kv9.ownBlock = some g → g ≠ nb1 no := fun g hg e => by
       rcases ho9 g hg with h | h
       ·rw [e] at h; exact hd1.1 h
       ·have := hBn1.lt; omega
      have hnc : ∀ g, cv19.ownBlock = some g → g ≠ nb1 no := fun g hg e => by
       rcases ho19 g hg with h | h
       ·rw [e] at h; exact hd1.2.2 h
       ·have := hBn1.lt; omega
      obtain ⟨hM', hfp⟩ := hM1.re (w' := w25) (n' := innNd c P) (kv' := kv9) (vv' := q1v) (cv' := cv19) hB25 (by
        rw [hPk]
        have := hS9.kp hk2225 hnk
        simp only [List.map_append, List.map_cons, List.map_take, List.map_drop, List.length_append, List.length_cons, List.length_take, List.length_drop, hkl]
        rw [show min i ps.length + (ps.length - i + 1) = ps.length + 1 by omega]
        exact this) (by
        have e : (innNd c P).vals = (innNd c ps).vals := rfl
        rw [e]
        exact (hV1.kp hkc (fun g hg e => by
         rw [hQ] at e
         rcases e with e | e
         ·exact (hd2 g e).1 hg
         ·exact hd3 g hg e)).kp hk2225 (fun g hg e => hd1.2.1 (by rw [← e]; exact hg))) (by
        rw [hPc]
        have := hS19.kp hk2225 hnc
        rw [Nat.mod_eq_of_lt (show more < 4294967296 by omega)] at this
        simp only [List.map_append, List.map_cons, List.map_take, List.map_drop, List.length_append, List.length_cons, List.length_take, List.length_drop, kcl]
        rw [show min (i + 1) (ps.length + 1) + (ps.length + 1 - (i + 1) + 1) = ps.length + 1 + 1 by omega]
        exact this) hbdP ho9 (fun g hg => .inl hg) ho19 (fun g hg => ⟨fun e => ⟨fun e' => by have := hV1.lt e'; omega, hdis g hg e⟩, fun e => by have := hV1.lt e; omega⟩)
      obtain ⟨F2, h2, hF2⟩ := hcl1 w25 _ ⟨nb1 no, kv9, q1v, cv19⟩ rfl hM' ((hkc.mono' (fun g hg => by
       rw [hQ] at hg
       exact hg.elim (fun e => .inr (.inl e)) (fun e => .inr (.inr (.inr e))))).trans (hk2225.mono' (fun g hg => .inl hg))) (fun g hg => (hfp g hg).imp id (fun e hh => by have := hFl1 g hh; omega))
      have hF12 : ∀ g, F2 g → F1 g ∨ w1.heap.size ≤ g := fun g hg => by
       rcases hF2 g hg with e | e
       ·exact .inl e
       ·exact (hfp g e).imp (fun e => (hq1F g e).1) id
      have hsz01 := hk01.size
      refine (hkn _ _ ⟨F2, _, rfl, rfl, h2, hk01.trans_new (S := F) (S' := F1) ((hkc.mono' hQF).trans (hk2225.mono' (fun g hg => by rw [hg]; exact (hq1F _ (.inl rfl)).1))) (fun i hi => (hF01 i hi).symm), fun g hg => ?_⟩).qb
      rcases hF12 g hg with e | e
      ·exact hF01 g e
      ·exact .inr (by omega)
     ·refine nValPL (i := 18) rfl rfl rfl (pbs (parts := [(0, .tmp 134)]) (cs := [_]) (zs := [Value.int .u32 0]) U82 ti89 rfl (by kernel_rfl) rfl rfl rfl (by decide)) ?_
      rintro _ w18 ⟨b18, rfl, ⟨hb18, hx18, hB18⟩, hS18⟩
      refine ⟨hkc.trans hx18.kp, ?_⟩
      have hkc := hkc.trans (hx18.kp (S := Q))
      try have hK0 := hK0.ext hx18
      have hC0 := hC0.ext hx18
      try have hS8 := hS8.ext hx18
      try have hS9 := hS9.ext hx18
      have hl18 : w1.heap.size ≤ b18 := by omega
      have hzc := Nat.le_trans hzc hx18.size
      refine hOneL (i := 9) (by kernel_rfl) (nCallL (i := 9) rfl rfl rfl (yc (args := [.tmp 122, .tmp 123, .tmp 125]) cf69 rfl) (insS_ret (i := i) hK0 hS8 rfl hone hile (by omega) (fun b hb e => by have e : b8 = b := Option.some.inj e; have := hQl _ (hQk _ hb); omega)) ?_)
      rintro kv9 w9 ⟨hS9, hk9, ho9⟩
      refine ⟨hkc.trans (hk9.mono' hQk), ?_⟩
      have hkc := hkc.trans (hk9.mono' hQk)
      have hC0 := hC0.kp hk9 (fun g hg e => (hd2 g e).2 hg)
      try have hS18 := hS18.kp hk9 (fun g hg e => by have e' : b18 = g := Option.some.inj hg; have := hQl _ (hQk _ e); omega)
      have ho9 : ∀ g, kv9.ownBlock = some g → q1k.ownBlock = some g ∨ w1.heap.size ≤ g := fun g hg => (ho9 g hg).imp id (fun e => Nat.le_trans hzc e)
      have hzc := Nat.le_trans hzc hk9.size
      have hz19 := fun (g : Nat) (hg : kv9.ownBlock = some g) => hS9.lt hg
      refine hOneL (i := 19) (by kernel_rfl) (nCallL (i := 19) rfl rfl rfl (yc (args := [.tmp 130, .tmp 132, .tmp 135]) cf72 rfl) (insU_ret (i := i + 1) hC0 hS18 rfl honeU (by omega) (by omega) (fun b hb e => by have e : b18 = b := Option.some.inj e; have := hQl _ (hQc _ hb); omega)) ?_)
      rintro cv19 w19 ⟨hS19, hk19, ho19⟩
      refine ⟨hkc.trans (hk19.mono' hQc), ?_⟩
      have hkc := hkc.trans (hk19.mono' hQc)
      have hS9 := hS9.kp hk19 (fun g hg e => (ho9 g hg).elim (fun e' => (hd2 g e').2 e) (fun e' => by have := hQl _ (hQc _ e); omega))
      have hdis : ∀ g, w1.heap.size ≤ g → kv9.ownBlock = some g → cv19.ownBlock ≠ some g := fun g hg h1 h2 => by
       rcases ho19 g h2 with e | e
       ·have := hQl _ (hQc _ e); omega
       ·have := hz19 g h1; omega
      have ho19 : ∀ g, cv19.ownBlock = some g → q1c.ownBlock = some g ∨ w1.heap.size ≤ g := fun g hg => (ho19 g hg).imp id (fun e => Nat.le_trans hzc e)
      refine qL [21, 22, 23, 24, 25] 20 rfl (fun _ hS => ynk rfl) hkc (qL [22, 23, 24, 25] 21 rfl (fun _ hS => yfa fl84_1 rfl) hkc (hLate [22] (by kernel_rfl) (by kernel_rfl) (qO 22 (nEffP (i := 22) rfl rfl (zst ti23 rfl rfl (oneV_sl hS9) (hkc.blk hBn1 hQn) (by simp)) ?_))))
      rintro w22 ⟨hB22, hk22⟩
      refine ⟨trivial, ?_⟩
      refine qt 23 rfl (ynk rfl) trivial (qt 24 rfl (yfa fl84_3 rfl) trivial (qO 25 (nEffP (i := 25) rfl rfl (zst ti82 rfl rfl (oneV_sl hS19) hB22 (by simp)) ?_)))
      rintro w25 ⟨hB25, hk25⟩
      refine ⟨trivial, ?_⟩
      refine qE (Run.qb (e := [(0, _), (1, _), (6, _), (7, _), (8, _), (13, _)]) ?_)
      have hk2225 := hk22.trans hk25
      have hnk : ∀ g, kv9.ownBlock = some g → g ≠ nb1 no := fun g hg e => by
       rcases ho9 g hg with h | h
       ·rw [e] at h; exact hd1.1 h
       ·have := hBn1.lt; omega
      have hnc : ∀ g, cv19.ownBlock = some g → g ≠ nb1 no := fun g hg e => by
       rcases ho19 g hg with h | h
       ·rw [e] at h; exact hd1.2.2 h
       ·have := hBn1.lt; omega
      obtain ⟨hM', hfp⟩ := hM1.re (w' := w25) (n' := innNd c P) (kv' := kv9) (vv' := q1v) (cv' := cv19) hB25 (by
        rw [hPk]
        have := hS9.kp hk2225 hnk
        simp only [List.map_append, List.map_cons, List.map_take, List.map_drop, List.length_append, List.length_cons, List.length_take, List.length_drop, hkl]
        rw [show min i ps.length + (ps.length - i + 1) = ps.length + 1 by omega]
        exact this) (by
        have e : (innNd c P).vals = (innNd c ps).vals := rfl
        rw [e]
        exact (hV1.kp hkc (fun g hg e => by
         rw [hQ] at e
         rcases e with e | e
         ·exact (hd2 g e).1 hg
         ·exact hd3 g hg e)).kp hk2225 (fun g hg e => hd1.2.1 (by rw [← e]; exact hg))) (by
        rw [hPc]
        have := hS19.kp hk2225 hnc
        rw [Nat.mod_eq_of_lt (show more < 4294967296 by omega)] at this
        simp only [List.map_append, List.map_cons, List.map_take, List.map_drop, List.length_append, List.length_cons, List.length_take, List.length_drop, kcl]
        rw [show min (i + 1) (ps.length + 1) + (ps.length + 1 - (i + 1) + 1) = ps.length + 1 + 1 by omega]
        exact this) hbdP ho9 (fun g hg => .inl hg) ho19 (fun g hg => ⟨fun e => ⟨fun e' => by have := hV1.lt e'; omega, hdis g hg e⟩, fun e => by have := hV1.lt e; omega⟩)
      obtain ⟨F2, h2, hF2⟩ := hcl1 w25 _ ⟨nb1 no, kv9, q1v, cv19⟩ rfl hM' ((hkc.mono' (fun g hg => by
       rw [hQ] at hg
       exact hg.elim (fun e => .inr (.inl e)) (fun e => .inr (.inr (.inr e))))).trans (hk2225.mono' (fun g hg => .inl hg))) (fun g hg => (hfp g hg).imp id (fun e hh => by have := hFl1 g hh; omega))
      have hF12 : ∀ g, F2 g → F1 g ∨ w1.heap.size ≤ g := fun g hg => by
       rcases hF2 g hg with e | e
       ·exact .inl e
       ·exact (hfp g e).imp (fun e => (hq1F g e).1) id
      have hsz01 := hk01.size
      refine (hkn _ _ ⟨F2, _, rfl, rfl, h2, hk01.trans_new (S := F) (S' := F1) ((hkc.mono' hQF).trans (hk2225.mono' (fun g hg => by rw [hg]; exact (hq1F _ (.inl rfl)).1))) (fun i hi => (hF01 i hi).symm), fun g hg => ?_⟩).qb
      rcases hF12 g hg with e | e
      ·exact hF01 g e
      ·exact .inr (by omega)
    ·refine nValPL (i := 18) rfl rfl rfl (pbs (parts := [(0, .tmp 134)]) (cs := [_]) (zs := [Value.int .u32 0]) U82 ti89 rfl (by kernel_rfl) rfl rfl rfl (by decide)) ?_
     rintro _ w18 ⟨b18, rfl, ⟨hb18, hx18, hB18⟩, hS18⟩
     refine ⟨hkc.trans hx18.kp, ?_⟩
     have hkc := hkc.trans (hx18.kp (S := Q))
     try have hK0 := hK0.ext hx18
     have hC0 := hC0.ext hx18
     try have hS8 := hS8.ext hx18
     try have hS9 := hS9.ext hx18
     have hl18 : w1.heap.size ≤ b18 := by omega
     have hzc := Nat.le_trans hzc hx18.size
     refine hOneL (i := 8) (by kernel_rfl) (nValPL (i := 8) rfl rfl rfl (pbs (parts := [(0, .tmp 124)]) (cs := [_]) (zs := [Value.string ⟨#[]⟩]) U23 ti9 rfl (by kernel_rfl) rfl rfl rfl (by decide)) ?_)
     rintro _ w8 ⟨b8, rfl, ⟨hb8, hx8, hB8⟩, hS8⟩
     refine ⟨hkc.trans hx8.kp, ?_⟩
     have hkc := hkc.trans (hx8.kp (S := Q))
     have hK0 := hK0.ext hx8
     have hC0 := hC0.ext hx8
     try have hS18 := hS18.ext hx8
     have hl8 : w1.heap.size ≤ b8 := by omega
     have hzc := Nat.le_trans hzc hx8.size
     refine hOneL (i := 9) (by kernel_rfl) (nCallL (i := 9) rfl rfl rfl (yc (args := [.tmp 122, .tmp 123, .tmp 125]) cf69 rfl) (insS_ret (i := i) hK0 hS8 rfl hone hile (by omega) (fun b hb e => by have e : b8 = b := Option.some.inj e; have := hQl _ (hQk _ hb); omega)) ?_)
     rintro kv9 w9 ⟨hS9, hk9, ho9⟩
     refine ⟨hkc.trans (hk9.mono' hQk), ?_⟩
     have hkc := hkc.trans (hk9.mono' hQk)
     have hC0 := hC0.kp hk9 (fun g hg e => (hd2 g e).2 hg)
     try have hS18 := hS18.kp hk9 (fun g hg e => by have e' : b18 = g := Option.some.inj hg; have := hQl _ (hQk _ e); omega)
     have ho9 : ∀ g, kv9.ownBlock = some g → q1k.ownBlock = some g ∨ w1.heap.size ≤ g := fun g hg => (ho9 g hg).imp id (fun e => Nat.le_trans hzc e)
     have hzc := Nat.le_trans hzc hk9.size
     have hz19 := fun (g : Nat) (hg : kv9.ownBlock = some g) => hS9.lt hg
     refine hOneL (i := 19) (by kernel_rfl) (nCallL (i := 19) rfl rfl rfl (yc (args := [.tmp 130, .tmp 132, .tmp 135]) cf72 rfl) (insU_ret (i := i + 1) hC0 hS18 rfl honeU (by omega) (by omega) (fun b hb e => by have e : b18 = b := Option.some.inj e; have := hQl _ (hQc _ hb); omega)) ?_)
     rintro cv19 w19 ⟨hS19, hk19, ho19⟩
     refine ⟨hkc.trans (hk19.mono' hQc), ?_⟩
     have hkc := hkc.trans (hk19.mono' hQc)
     have hS9 := hS9.kp hk19 (fun g hg e => (ho9 g hg).elim (fun e' => (hd2 g e').2 e) (fun e' => by have := hQl _ (hQc _ e); omega))
     have hdis : ∀ g, w1.heap.size ≤ g → kv9.ownBlock = some g → cv19.ownBlock ≠ some g := fun g hg h1 h2 => by
      rcases ho19 g h2 with e | e
      ·have := hQl _ (hQc _ e); omega
      ·have := hz19 g h1; omega
     have ho19 : ∀ g, cv19.ownBlock = some g → q1c.ownBlock = some g ∨ w1.heap.size ≤ g := fun g hg => (ho19 g hg).imp id (fun e => Nat.le_trans hzc e)
     refine qL [21, 22, 23, 24, 25] 20 rfl (fun _ hS => ynk rfl) hkc (qL [22, 23, 24, 25] 21 rfl (fun _ hS => yfa fl84_1 rfl) hkc (hLate [22] (by kernel_rfl) (by kernel_rfl) (qO 22 (nEffP (i := 22) rfl rfl (zst ti23 rfl rfl (oneV_sl hS9) (hkc.blk hBn1 hQn) (by simp)) ?_))))
     rintro w22 ⟨hB22, hk22⟩
     refine ⟨trivial, ?_⟩
     refine qt 23 rfl (ynk rfl) trivial (qt 24 rfl (yfa fl84_3 rfl) trivial (qO 25 (nEffP (i := 25) rfl rfl (zst ti82 rfl rfl (oneV_sl hS19) hB22 (by simp)) ?_)))
     rintro w25 ⟨hB25, hk25⟩
     refine ⟨trivial, ?_⟩
     refine qE (Run.qb (e := [(0, _), (1, _), (6, _), (7, _), (8, _), (13, _)]) ?_)
     have hk2225 := hk22.trans hk25
     have hnk : ∀ g, kv9.ownBlock = some g → g ≠ nb1 no := fun g hg e => by
      rcases ho9 g hg with h | h
      ·rw [e] at h; exact hd1.1 h
      ·have := hBn1.lt; omega
     have hnc : ∀ g, cv19.ownBlock = some g → g ≠ nb1 no := fun g hg e => by
      rcases ho19 g hg with h | h
      ·rw [e] at h; exact hd1.2.2 h
      ·have := hBn1.lt; omega
     obtain ⟨hM', hfp⟩ := hM1.re (w' := w25) (n' := innNd c P) (kv' := kv9) (vv' := q1v) (cv' := cv19) hB25 (by
       rw [hPk]
       have := hS9.kp hk2225 hnk
       simp only [List.map_append, List.map_cons, List.map_take, List.map_drop, List.length_append, List.length_cons, List.length_take, List.length_drop, hkl]
       rw [show min i ps.length + (ps.length - i + 1) = ps.length + 1 by omega]
       exact this) (by
       have e : (innNd c P).vals = (innNd c ps).vals := rfl
       rw [e]
       exact (hV1.kp hkc (fun g hg e => by
        rw [hQ] at e
        rcases e with e | e
        ·exact (hd2 g e).1 hg
        ·exact hd3 g hg e)).kp hk2225 (fun g hg e => hd1.2.1 (by rw [← e]; exact hg))) (by
       rw [hPc]
       have := hS19.kp hk2225 hnc
       rw [Nat.mod_eq_of_lt (show more < 4294967296 by omega)] at this
       simp only [List.map_append, List.map_cons, List.map_take, List.map_drop, List.length_append, List.length_cons, List.length_take, List.length_drop, kcl]
       rw [show min (i + 1) (ps.length + 1) + (ps.length + 1 - (i + 1) + 1) = ps.length + 1 + 1 by omega]
       exact this) hbdP ho9 (fun g hg => .inl hg) ho19 (fun g hg => ⟨fun e => ⟨fun e' => by have := hV1.lt e'; omega, hdis g hg e⟩, fun e => by have := hV1.lt e; omega⟩)
     obtain ⟨F2, h2, hF2⟩ := hcl1 w25 _ ⟨nb1 no, kv9, q1v, cv19⟩ rfl hM' ((hkc.mono' (fun g hg => by
      rw [hQ] at hg
      exact hg.elim (fun e => .inr (.inl e)) (fun e => .inr (.inr (.inr e))))).trans (hk2225.mono' (fun g hg => .inl hg))) (fun g hg => (hfp g hg).imp id (fun e hh => by have := hFl1 g hh; omega))
     have hF12 : ∀ g, F2 g → F1 g ∨ w1.heap.size ≤ g := fun g hg => by
      rcases hF2 g hg with e | e
      ·exact .inl e
      ·exact (hfp g e).imp (fun e => (hq1F g e).1) id
     have hsz01 := hk01.size
     refine (hkn _ _ ⟨F2, _, rfl, rfl, h2, hk01.trans_new (S := F) (S' := F1) ((hkc.mono' hQF).trans (hk2225.mono' (fun g hg => by rw [hg]; exact (hq1F _ (.inl rfl)).1))) (fun i hi => (hF01 i hi).symm), fun g hg => ?_⟩).qb
     rcases hF12 g hg with e | e
     ·exact hF01 g e
     ·exact .inr (by omega)
theorem putAt_all {p : Nat} {k v : Bytes} {bt bk bv bp : Nat} : ∀ H, PutAt p k v bt bk bv bp (H + 1)
 | 0 => putAt_leaf
 | h + 1 => putAt_inner (putAt_all h)
end
end Go.Proofs.YtocnhaoilnojmaaGreat
namespace Go.Proofs.YtocnhaoilnojmaaGreat
open Go Go.RowKit
set_option linter.all false
theorem insE_len (es : Es) (k v : Bytes) : (insE es k v).length = es.length + if hasE es k then 0 else 1 := by
 by_cases h : hasE es k
 ·rw [insE_set h, if_pos h, List.length_set]; rfl
 ·have := posE_le es k
  rw [insE_new h, if_neg h, List.length_append, List.length_cons, List.length_take, List.length_drop]
  omega
theorem delE_len {es : Es} {k : Bytes} (h : hasE es k) : (delE es k).length + 1 = es.length := by
 have := hasE_lt h
 unfold delE
 rw [if_pos h, List.length_append, List.length_take, List.length_drop]
 omega
theorem InvP.stepR {T T' : Tr} {H H' g : Nat} {ns ns' : List Int} {es es' : Es} (h : InvP T H ns es) (e : EvoR T T' g) (b : Bn T.size T'.nodes H' T'.root [] none ns' es') (v : Ev T.nodes T'.nodes ns ns') (c : T'.count = es'.length) : InvP T' H' ns' es' := by
 have hn := e.num h.num h.gnum
 have hs : T'.size = T.size := (show Evo _ _ _ from e).size
 refine ⟨by rw [hs]; exact b, v.nd, fun x hx => ?_, c, hn.1, hn.2, e.giv, e.chgd h.chg⟩
 rcases v.d3 x hx with e | ⟨e1, e2⟩
 ·exact e
 ·exact absurd (h.all x e1) e2
theorem Inv.first {T : Tr} {H : Nat} {ns : List Int} {es : Es} (h : Inv T H ns es) (hz : sizeOk (T.size : Int)) (hr : T.root = 0) {f : Int} {gs : List Int} (hg : T.given = f :: gs) :
  es = [] ∧ H = 0 ∧ InvP { ((({ T with given := gs } : Tr).setN f (leafNd [])).mark f) with root := f } 1 [f] [] ∧ EvoR T { ((({ T with given := gs } : Tr).setN f (leafNd [])).mark f) with root := f } 1 := by
 rcases h.std with ⟨-, hH, hns, hes⟩ | ⟨e, -⟩
 ·have hev : EvoR T { ((({ T with given := gs } : Tr).setN f (leafNd [])).mark f) with root := f } 1 := (Evo.fresh h.giv hg).toR'
  have hn := hev.num h.num h.gnum
  have hno : ∀ x, T.nodes x = none := fun x => by
   cases e : T.nodes x with
   | none => rfl
   | some n => have := h.all x (by rw [e]; simp); rw [hns] at this; cases this
  subst hes
  refine ⟨rfl, hH, ⟨?_, by simp, fun x hx => ?_, h.cnt, hn.1, hn.2, hev.giv, hev.chgd h.chg⟩, hev⟩
  ·refine Bn.of_leaf (by have := hz.2.1; show T.size ≤ 4096; omega) (updI_same _ _ _) ⟨by simp, List.Pairwise.nil⟩ ?_ (by simp)
   have := hz.1
   show 3 + entB [] ≤ T.size
   simp [entB]; omega
  ·have hx' : updI T.nodes f (some (leafNd [])) x ≠ none := hx
   by_cases e : x = f
   ·simp [e]
   ·rw [updI_ne e, hno] at hx'; exact absurd rfl hx'
 ·exact absurd hr e
theorem InvP.two {T T2 : Tr} {H g : Nat} {ns : List Int} {es es' : Es} (h : InvP T H ns es) (hz : sizeOk (T.size : Int)) (e : Evo T T2 g) {up : Bytes} {more : Nat} (t : Two T.size H T.nodes T2.nodes T.root [] none ns es' up more) {f : Int} {gs : List Int} (hgv : T2.given = f :: gs) {r : Nat} (hr : T.root = (r : Int)) (hc : T2.count = es'.length) :
  ∃ ns', InvP { ((({ T2 with given := gs } : Tr).setN f (innNd r [(up, more)])).mark f) with root := f } (H + 1) ns' es' ∧ EvoR T { ((({ T2 with given := gs } : Tr).setN f (innNd r [(up, more)])).mark f) with root := f } (g + 1) := by
 obtain ⟨n1, n2, e1, e2, rfl, b1, b2, hev, hu1, hu2, hu3, hl1, hl2, hm0⟩ := t
 have hfn : T2.nodes f = none := (e.srt.free f (by rw [hgv]; simp)).1
 have hff := hev.nd
 have hs1 : ∀ y ∈ n1, y ≠ f := fun y hy e => b1.some y hy (by rw [e]; exact hfn)
 have hs2 : ∀ y ∈ n2, y ≠ f := fun y hy e => b2.some y hy (by rw [e]; exact hfn)
 have hE : EvoR T { ((({ T2 with given := gs } : Tr).setN f (innNd r [(up, more)])).mark f) with root := f } (g + 1) := (e.trans (Evo.fresh (n := innNd r [(up, more)]) e.srt hgv)).toR'
 have hr0 : r ≠ 0 := by
  have := h.num T.root (h.bn.some _ h.bn.mem)
  omega
 have hrf : (r : Int) ≠ f := fun e' => hs1 _ b1.mem (by rw [hr]; exact e')
 have hmf : (more : Int) ≠ f := hs2 _ b2.mem
 have hor : 8 ≤ orderE T.size := by have := hz.1; unfold orderE; omega
 obtain ⟨h0, rfl⟩ : ∃ h0, H = h0 + 1 := ⟨H - 1, by have := h.bn.pos; omega⟩
 refine ⟨f :: (n1 ++ n2), h.stepR hE ?_ (hev.trans (Ev.new (List.nodup_cons.2 ⟨fun hf => ?_, hff⟩) hfn (fun x hx => (List.mem_cons.1 hx).symm) (fun x hx => List.mem_cons_of_mem _ hx) (List.mem_cons_self ..))) hc, hE⟩
 ·refine Bn.of_inner (c := r) (ps := [(up, more)]) (by have := hz.1; omega) (updI_same _ _ _) ⟨by simpa using hu3, by simp [Rise]⟩ (by simp; omega) ⟨hr0, by simpa using hm0⟩ (by simpa using hu1) (fun d hd m hm => ?_) ⟨n1, n2, e1, e2, rfl, rfl, ?_, ?_⟩
  ·have hd' : d = r ∨ d = more := by simpa using hd
   rcases hd' with rfl | rfl
   ·have hm' : updI T2.nodes f (some (innNd d [(up, more)])) (d : Int) = some m := hm
    rw [updI_ne hrf] at hm'
    exact hl1 m (by rw [hr]; exact hm')
   ·have hm' : updI T2.nodes f (some (innNd r [(up, d)])) (d : Int) = some m := hm
    rw [updI_ne hmf] at hm'
    exact hl2 m hm'
  ·rw [← hr]
   exact b1.away (fun y _ hy => updI_ne (hs1 y hy))
  ·exact b2.away (fun y _ hy => updI_ne (hs2 y hy))
 ·rcases List.mem_append.1 hf with hf | hf
  ·exact hs1 _ hf rfl
  ·exact hs2 _ hf rfl
theorem EvoR.mono {T T' : Tr} {a b : Nat} (h : EvoR T T' a) (hab : a ≤ b) : EvoR T T' b := Evo.mono h hab
theorem Two.two {z : Nat} {N N' : Nodes} {no : Int} {lo : Bytes} {hi : Option Bytes} {ns : List Int} {es : Es} {up : Bytes} {more : Nat} (hz : sizeOk (z : Int)) (t : Two z 1 N N' no lo hi ns es up more) : 2 ≤ es.length := by
 obtain ⟨n1, n2, e1, e2, rfl, b1, b2, -, -, -, -, hl1, hl2, -⟩ := t
 obtain ⟨z1, z2, -⟩ := id hz
 obtain ⟨h1, -⟩ := b1.leaf (by omega)
 obtain ⟨h2, -⟩ := b2.leaf (by omega)
 have a1 := hl1 _ h1
 have a2 := hl2 _ h2
 rw [leafNd_low] at a1 a2
 have e1n : e1 ≠ [] := fun e => a1 (by rw [e]; simp [entB]; omega)
 have e2n : e2 ≠ [] := fun e => a2 (by rw [e]; simp [entB]; omega)
 have := List.length_pos_iff.2 e1n
 have := List.length_pos_iff.2 e2n
 rw [List.length_append]
 omega
end Go.Proofs.YtocnhaoilnojmaaGreat
namespace Go.Proofs.YtocnhaoilnojmaaGreat
open Go Go.RowKit
set_option linter.all false
set_option maxRecDepth 100000
section
variable {w : World} {p : Nat} {T : Tr} {nb : Int → Nat} {F : Nat → Prop}
def TreeS (p : Nat) (F : Nat → Prop) (w w' : World) (T' : Tr) (H' : Nat) (ns' : List Int) (es' : Es) : Prop := ∃ nb' F', TreeA w' p T' nb' F' ∧ Inv T' H' ns' es' ∧ Kp F w w' ∧ ∀ k, F' k → F k ∨ w.heap.size ≤ k
def may (z : Nat) (k v : Bytes) : Prop := keyOk k ∧ 3 + k.length + v.length ≤ mostE z
instance (k : Bytes) : Decidable (keyOk k) := by unfold keyOk; infer_instance
instance (z : Nat) (k v : Bytes) : Decidable (may z k v) := by unfold may; infer_instance
set_option maxHeartbeats 4000000 in
theorem putT_ret (h : TreeA w p T nb F) {H : Nat} {ns : List Int} {es : Es} (hI : Inv T H ns es) (hes : es.length ≤ 900000) (k v : Bytes) (hkl : k.length ≤ 140737488355328) (hvl : v.length ≤ 140737488355328) :
  Ret Tryz.prog 38 [ptr p 0, S k, S v] w fun val w' => (val = I 1 ∧ ¬ may T.size k v ∧ Ext w w') ∨ (val = I 3 ∧ may T.size k v ∧ T.given.length < H + 1 ∧ Ext w w') ∨ (val = I 0 ∧ may T.size k v ∧ H + 1 ≤ T.given.length ∧ ∃ T' H' ns', TreeS p F w w' T' H' ns' (insE es k v) ∧ EvoR T T' (H + 3)) := by
 have hz : sizeOk (T.size : Int) := size_ok h
 obtain ⟨z1, z2, -⟩ := id hz
 have hmz : mostE T.size ≤ 1100 := by unfold mostE; omega
 have hgl := hI.gl
 obtain ⟨mN, mC, mO, gv, kn, kc, ko, O⟩ := h.opn
 obtain ⟨ga, gcp, hgv, -⟩ := O.gs.rd.shape
 subst hgv
 have hHl := (hI.cnts hz).2
 refine ret_of_run (e := [(0, _), (1, _), (2, _)]) Tryz.func38 rfl Tryz.ntmps38 rfl rfl (qN rfl (rValP rfl rfl (pbx rfl rfl) ?_))
 rintro _ w1 ⟨bt, rfl, hbt, hx1, hB1⟩
 refine rValP rfl rfl (pbx rfl rfl) ?_
 rintro _ w2 ⟨bk, rfl, hbk, hx2, hB2⟩
 refine rValP rfl rfl (pbx rfl rfl) ?_
 rintro _ w3 ⟨bv, rfl, hbv, hx3, hB3⟩
 have hz1 := hx1.size
 have hz2 := hx2.size
 have hz3 := hx3.size
 have hBt := (hx2.trans hx3).blk hB1
 have hBk := hx3.blk hB2
 have hBv := hB3
 have hx03 : Ext w w3 := (hx1.trans hx2).trans hx3
 have hBO := hx03.blk O.blk
 have hlt := h.lt
 have hFt : ¬ F bt := fun e => by have := hlt _ e; omega
 have hFk : ¬ F bk := fun e => by have := hlt _ e; omega
 have hFv : ¬ F bv := fun e => by have := hlt _ e; omega
 refine qa rfl (rEnd (run_seq (run_block (qN rfl (qV (yld U24 rfl rfl hBt rfl) (qV (yeqpN U24 rfl rfl) (qa rfl (rEnd (run_false rfl (run_seq ?_))))))))))
 have hg3 : Ext w3 w3.drew := Ext.drew0 w3
 have hkey : ∀ (b : Bool) (w0 : World), decide (keyOk k) = b → Ret Tryz.prog 66 [S k] w0 fun v' w' => v' = .bool b ∧ w' = w0 := fun b w0 hb => by
  have := key_ret k w0
  rw [show decide (1 ≤ k.length ∧ k.length ≤ 64) = b from hb] at this
  exact this
 by_cases hk : keyOk k
 ·refine run_draw (fun w' => Ext w3 w') (by kernel_rfl) rfl (qT 0 rfl (fun _ hS => (by first | exact yld U9 rfl rfl (hS.blk hBt) rfl | exact yld U9 rfl rfl (hS.blk hBk) rfl | exact yld U9 rfl rfl (hS.blk hBv) rfl | exact yld U9 rfl rfl (hS.blk hBO) rfl)) hg3 ?_)
  refine qO 1 (nCall (i := 1) rfl rfl rfl (yc (args := [.tmp 14]) cf66 rfl) (hkey true _ (decide_eq_true hk)) ?_)
  rintro _ w4 ⟨rfl, rfl⟩
  refine ⟨hg3, ?_⟩
  refine qt 2 rfl ((by first | exact yntd rfl | exact ynt rfl)) hg3 ?_
  refine qt 3 rfl (ymv rfl) hg3 (qT 4 rfl (fun _ hS => (by first | exact yld U9 rfl rfl (hS.blk hBt) rfl | exact yld U9 rfl rfl (hS.blk hBk) rfl | exact yld U9 rfl rfl (hS.blk hBv) rfl | exact yld U9 rfl rfl (hS.blk hBO) rfl)) hg3 ?_)
  refine qt 5 rfl (ylnS U9 rfl) hg3 (qt 6 rfl (yad rfl rfl (by omega)) hg3 (qT 7 rfl (fun _ hS => (by first | exact yld U9 rfl rfl (hS.blk hBt) rfl | exact yld U9 rfl rfl (hS.blk hBk) rfl | exact yld U9 rfl rfl (hS.blk hBv) rfl | exact yld U9 rfl rfl (hS.blk hBO) rfl)) hg3 ?_))
  refine qt 8 rfl (ylnS U9 rfl) hg3 (qt 9 rfl (yad rfl rfl (by omega)) hg3 (qT 10 rfl (fun _ hS => (by first | exact yld U24 rfl rfl (hS.blk hBt) rfl | exact yld U24 rfl rfl (hS.blk hBk) rfl | exact yld U24 rfl rfl (hS.blk hBv) rfl | exact yld U24 rfl rfl (hS.blk hBO) rfl)) hg3 ?_))
  refine qt 11 rfl (ynk rfl) hg3 (qt 12 rfl (yfa fl74_2 rfl) hg3 (qT 13 rfl (fun _ hS => (by first | exact yld U3 rfl rfl (hS.blk hBt) rfl | exact yld U3 rfl rfl (hS.blk hBk) rfl | exact yld U3 rfl rfl (hS.blk hBv) rfl | exact yld U3 rfl rfl (hS.blk hBO) rfl)) hg3 ?_))
  refine qt 14 rfl (ygt rfl rfl) hg3 (qt 15 rfl (ypF rfl rfl) hg3 (qt 16 rfl (yas rfl) hg3 (qE (Run.qb (e := [(3, _), (4, _), (5, _), (6, _), (13, _)]) ?_))))
  refine run_if rfl (fun hm => ?_) (fun hm => ?_)
  ·refine qN rfl (qa rfl (rEnd (run_ret Tryz.func38 rfl ?_)))
   exact ⟨_, rfl, .inl ⟨rfl, fun hh => by have := hh.2; omega, hx03.trans hg3⟩⟩
  ·have hmay : may T.size k v := ⟨hk, by omega⟩
   have hg4 : Ext w3 w3.drew.drew := hg3.trans (Ext.drew0 _)
   have hx04 := hx03.trans hg4
   refine run_seq (run_draw (fun w' => Ext w3 w') (by kernel_rfl) rfl (qT 0 rfl (fun _ hS => (by first | exact yld U24 rfl rfl (hS.blk hBt) rfl | exact yld U24 rfl rfl (hS.blk hBO) rfl)) hg4 ?_))
   refine qt 1 rfl (ynk rfl) hg4 (qt 2 rfl (yfa fl74_6 rfl) hg4 (qT 3 rfl (fun _ hS => (by first | exact yld U34 rfl rfl (hS.blk hBt) rfl | exact yld U34 rfl rfl (hS.blk hBO) rfl)) hg4 ?_))
   refine qt 4 rfl (yln U34 rfl) hg4 (qT 5 rfl (fun _ hS => (by first | exact yld U24 rfl rfl (hS.blk hBt) rfl | exact yld U24 rfl rfl (hS.blk hBO) rfl)) hg4 ?_)
   refine qO 6 (nCall (i := 6) rfl rfl rfl (yc (args := [.tmp 36]) cf25 rfl) (need_ret (h.ext hx04) hI (by omega)) ?_)
   rintro _ w4 ⟨rfl, rfl⟩
   refine ⟨hg4, ?_⟩
   refine qt 7 rfl (ylt rfl rfl) hg4 (qt 8 rfl (yas rfl) hg4 (qE (run_if rfl (fun hf => ?_) (fun hf => ?_))))
   ·refine qN rfl (qa rfl (rEnd (run_ret Tryz.func38 rfl ?_)))
    exact ⟨_, rfl, .inr (.inl ⟨rfl, hmay, by omega, hx04⟩)⟩
   ·have hroom : H + 1 ≤ T.given.length := by omega
    have hBt4 := hg4.blk hBt
    have hBO4 := hg4.blk hBO
    obtain ⟨w4, hw4⟩ : ∃ w4, w3.drew.drew = w4 := ⟨_, rfl⟩
    rw [hw4] at hg4 hx04 hBt4 hBO4 ⊢
    have h4 := h.ext hx04
    have hz4 := hg4.size
    refine run_skip (run_inBlock (run_seq (qN rfl (qV ((by first | exact yld U24 rfl rfl hBt4 rfl | exact yld U24 rfl rfl hBO4 rfl)) ?_))))
    refine qV (ynk rfl) (qV (yfa fl74_1 rfl) (qV ((by first | exact yld U3 rfl rfl hBt4 rfl | exact yld U3 rfl rfl hBO4 rfl)) ?_))
    refine qV (yeq rfl rfl) (rEnd (run_cut (fun e' w5 => ∃ T1 nb1 F1 H1 ns1 g1, e' = [(3, ptr bt 0), (4, ptr bk 0), (5, ptr bv 0), (6, I 0)] ∧ TreeA w5 p T1 nb1 F1 ∧ InvP T1 H1 ns1 es ∧ EvoR T T1 g1 ∧ g1 + H1 ≤ H + 2 ∧ ((H1 = 1 ∧ es = []) ∨ H1 + 1 ≤ T1.given.length) ∧ (∀ c ps, T1.nodes T1.root = some (innNd c ps) → ps ≠ []) ∧ Kp F w4 w5 ∧ ∀ g, F1 g → F g ∨ w4.heap.size ≤ g) ?hk (fun hk => ?hmain)))
    case hk =>
     rintro e' w5 ⟨T1, nb1, F1, H1, ns1, g1, rfl, h1, hI1, hE1, hg1, hroom1, hne1, hk45, hF1⟩
     have hw4l : bt < w4.heap.size ∧ bk < w4.heap.size ∧ bv < w4.heap.size := ⟨(hg4.blk hBt).lt, (hg4.blk hBk).lt, (hg4.blk hBv).lt⟩
     have hF1t : ¬ F1 bt ∧ ¬ F1 bk ∧ ¬ F1 bv := ⟨fun e => (hF1 _ e).elim hFt (by omega), fun e => (hF1 _ e).elim hFk (by omega), fun e => (hF1 _ e).elim hFv (by omega)⟩
     have hBt5 := hk45.blk (hg4.blk hBt) hFt
     have hBk5 := hk45.blk (hg4.blk hBk) hFk
     have hBv5 := hk45.blk (hg4.blk hBv) hFv
     have hlt1 := h1.lt
     refine qN rfl (rValP rfl rfl (pal (cs := [_]) ti110 rfl) ?_)
     rintro _ w6 ⟨bp, rfl, hbp, hx6, hB6⟩
     refine qM rfl (qV (ymf (first := []) (caps := [.tmp 3, .tmp 4, .tmp 5, .tmp 7]) rfl rfl) (rEffP rfl (zst ti110 rfl rfl rfl hB6 (by simp)) ?_))
     rintro w7 ⟨hB7, hk7⟩
     have hx57 : Ext w5 w7 := hx6.trans_new hk7 (fun i hi => by omega)
     have h7 := h1.ext hx57
     have hFp : ¬ F1 bp := fun e => by have := hlt1 _ e; omega
     have hc7 : PutC w7 F1 p k v bt bk bv bp := ⟨hx57.blk hBt5, hx57.blk hBk5, hx57.blk hBv5, hB7, hF1t.1, hF1t.2.1, hF1t.2.2, hFp⟩
     have hz57 := hx57.size
     have hg7 : Ext w7 w7.drew := Ext.drew0 w7
     have hz7 := hg7.size
     have hgl1 := hI1.gl
     have hput : Ret Tryz.prog 68 [I T1.root, ptr bt 0, ptr bk 0, ptr bv 0, ptr bp 0] w7.drew fun val w' => ∃ T' nb' F', TreeA w' p T' nb' F' ∧ PutPost T1 H1 T1.root [] none ns1 es k v val T' ∧ Kp F1 w7.drew w' ∧ (∀ i, F' i → F1 i ∨ w7.drew.heap.size ≤ i) ∧ ∀ x, T1.nodes x ≠ none → x ∉ ns1 → nb' x = nb1 x := by
      have hc8 : PutC w7.drew F1 p k v bt bk bv bp := hc7.kp hg7.kp (fun i hi => .inl hi)
      have hs1 : T1.size = T.size := (show Evo _ _ _ from hE1).size
      have hkv : 3 + k.length + v.length ≤ mostE T1.size := by rw [hs1]; exact hmay.2
      have hcn1 : T1.count ≤ 1000000000 := by have := hI1.cnt; omega
      rcases hroom1 with ⟨e1, e2⟩ | hr1
      ·subst e1
       subst e2
       exact put_leaf_ret (h7.ext hg7) hc8 hI1.bn (inB_top k) hk hkv hI1.giv hI1.gnum (by omega) (.inl rfl) hcn1
      ·obtain ⟨h0, rfl⟩ : ∃ h0, H1 = h0 + 1 := ⟨H1 - 1, by have := hI1.bn.pos; omega⟩
       exact putAt_all h0 _ T1 nb1 F1 T1.root [] none ns1 es (h7.ext hg7) hc8 hI1.bn hI1.nd (inB_top k) hk hkv hI1.giv hI1.gnum hI1.num (by omega) hcn1 hne1
     obtain ⟨mN7, mC7, mO7, gv7, kn7, kc7, ko7, O7⟩ := h7.opn
     have hBO7 := O7.blk
     have hBt7 := hc7.t
     refine rEnd (run_seq (run_seq (run_drawL [5] (fun w' => Ext w7 w') (by kernel_rfl) rfl (qL [5, 6, 7, 8, 9, 10] 0 rfl (fun _ hS => (by first | exact yld U110 rfl rfl (hS.blk hB7) rfl | exact yld U110 rfl rfl (hS.blk hBt7) rfl | exact yld U110 rfl rfl (hS.blk hBO7) rfl)) hg7 ?_))))
     refine qL [2, 3, 4, 5, 6, 7, 8, 9, 10] 1 rfl (fun _ hS => (by first | exact yld U24 rfl rfl (hS.blk hB7) rfl | exact yld U24 rfl rfl (hS.blk hBt7) rfl | exact yld U24 rfl rfl (hS.blk hBO7) rfl)) hg7 ?_
     refine qL [3, 4, 5, 6, 7, 8, 9, 10] 2 rfl (fun _ hS => ynk rfl) hg7 (qL [4, 5, 6, 7, 8, 9, 10] 3 rfl (fun _ hS => yfa fl74_1 rfl) hg7 (qL [5, 6, 7, 8, 9, 10] 4 rfl (fun _ hS => (by first | exact yld U3 rfl rfl (hS.blk hB7) rfl | exact yld U3 rfl rfl (hS.blk hBt7) rfl | exact yld U3 rfl rfl (hS.blk hBO7) rfl)) hg7 ?_))
     refine hLate [5] (by kernel_rfl) (by kernel_rfl) (qO 5 (nCall (i := 5) rfl rfl rfl (ycv' (args := [.tmp 56]) cf68 rfl rfl) (hput) ?_))
     rintro v8 w8 ⟨T2, nb2, F2, h2, ⟨hcn2, hE2, hout⟩, hk2, hF2, -⟩
     refine ⟨trivial, ?_⟩
     have hs1 : T1.size = T.size := (show Evo _ _ _ from hE1).size
     have hz1' : sizeOk (T1.size : Int) := by rw [hs1]; exact hz
     have hk5d : Kp F w4 w7.drew := hk45.trans (hx57.trans hg7).kp
     have hk48 : Kp F w4 w8 := hk5d.trans_new hk2 (fun i hi => (hF1 i hi).symm)
     have hz45 := hk45.size
     have hF2' : ∀ g, F2 g → F g ∨ w4.heap.size ≤ g := fun g hg => by
      rcases hF2 g hg with e | e
      ·exact hF1 g e
      ·exact .inr (by omega)
     have hes2 : T2.count = (insE es k v).length := by rw [insE_len, hcn2, hI1.cnt]
     have hBt8 := hk48.blk (hg4.blk hBt) hFt
     have hF2t : ¬ F2 bt := fun e => (hF2' _ e).elim hFt (by omega)
     have hE12 := hE1.trans hE2.toR
     rcases hout with ⟨rfl, hone, -⟩ | ⟨up, more, rfl, htwo⟩
     ·obtain ⟨nsx, hb2, hev2⟩ := hone
      have hI2 : InvP T2 H1 nsx (insE es k v) := hI1.step hE2 hb2 hev2 hes2
      refine qt 6 rfl (ymv rfl) trivial (qt 7 rfl (yex rfl rfl) trivial (qt 8 rfl (yex rfl rfl) trivial (qt 9 rfl (yas rfl) trivial (qt 10 rfl (yas rfl) trivial (qE (qN rfl (qm rfl (qV (yne rfl rfl) (rEnd (run_false rfl (run_skip (qN rfl (qV (yld U24 rfl rfl hBt8 rfl) ?_)))))))))))))
      refine rCall rfl rfl (yc (args := [.tmp 78]) cf48 rfl) (settle_ret h2 hI2) ?_
      rintro _ w9 ⟨rfl, T3, H3, ns3, F3, h3, hI3, hH3, hE3, hk3, hF3⟩
      refine qM rfl (qa rfl (rEnd (run_ret Tryz.func38 rfl ?_)))
      have hz8 := hk48.size
      refine ⟨_, rfl, .inr (.inr ⟨rfl, hmay, hroom, T3, H3, ns3, ⟨_, F3, h3, hI3, hx04.kp.trans (hk48.trans_new hk3 (fun i hi => (hF2' i hi).symm)), fun g hg => ?_⟩, (hE12.trans hE3).mono (by omega)⟩)⟩
      have hz04 := hx04.size
      rcases hF3 g hg with e | e
      ·exact (hF2' g e).imp id (fun e => by omega)
      ·exact .inr (by omega)
     ·refine qt 6 rfl (ymv rfl) trivial (qt 7 rfl (yex rfl rfl) trivial (qt 8 rfl (yex rfl rfl) trivial (qt 9 rfl (yas rfl) trivial (qt 10 rfl (yas rfl) trivial (qE (qN rfl (qm rfl (qV (yne rfl rfl) (rEnd (run_cut (fun e' w10 => ∃ T3 H3 ns3 nb3 F3, e' = [(3, ptr bt 0), (6, I 0)] ∧ TreeA w10 p T3 nb3 F3 ∧ InvP T3 H3 ns3 (insE es k v) ∧ EvoR T T3 (H + 3) ∧ Kp F w4 w10 ∧ ∀ g, F3 g → F g ∨ w4.heap.size ≤ g) ?hkb (fun hkb => ?hmainb)))))))))))
      case hkb =>
       rintro e' w10 ⟨T3, H3, ns3, nb3, F3, rfl, h3, hI3, hE3, hk410, hF3⟩
       have hBt10 := hk410.blk (hg4.blk hBt) hFt
       refine qN rfl (qV (yld U24 rfl rfl hBt10 rfl) (rCall rfl rfl (yc (args := [.tmp 78]) cf48 rfl) (settle_ret h3 hI3) ?_))
       rintro _ w11 ⟨rfl, T4, H4, ns4, F4, h4', hI4, hH4, hE4, hk4', hF4⟩
       refine qM rfl (qa rfl (rEnd (run_ret Tryz.func38 rfl ?_)))
       have hz10 := hk410.size
       have hz04 := hx04.size
       refine ⟨_, rfl, .inr (.inr ⟨rfl, hmay, hroom, T4, H4, ns4, ⟨_, F4, h4', hI4, hx04.kp.trans (hk410.trans_new hk4' (fun i hi => (hF3 i hi).symm)), fun g hg => ?_⟩, (hE3.trans hE4).mono (by omega)⟩)⟩
       rcases hF4 g hg with e | e
       ·exact (hF3 g e).imp id (fun e => by omega)
       ·exact .inr (by omega)
      case hmainb =>
       refine run_if rfl (fun hm => ?_) (fun hm => ?_)
       ·have hgl2 : T2.given.length ≤ 2147483647 := by
         have := rise_len hE2.srt.rise (fun x hx => (hE2.toR.num hI1.num hI1.gnum).2 x hx)
         omega
        obtain ⟨f, gs, hgs⟩ : ∃ f gs, T2.given = f :: gs := by
         cases e : T2.given with
         | nil =>
           have hle := hE2.len
           rw [e] at hle
           simp at hle
           rcases hroom1 with ⟨e1, e2⟩ | hr1
           ·subst e1
            subst e2
            have := htwo.two hz1'
            rw [insE_len] at this
            simp at this
            split at this <;> omega
           ·omega
         | cons a l => exact ⟨a, l, rfl⟩
        have hr1 := hI1.num T1.root (hI1.bn.some _ hI1.bn.mem)
        obtain ⟨r, hr⟩ : ∃ r : Nat, T1.root = (r : Int) := ⟨T1.root.toNat, by omega⟩
        have hr2 : T2.root = (r : Int) := by rw [hE2.root]; exact hr
        obtain ⟨ns3, hI3, hE3⟩ := hI1.two hz1' hE2 htwo hgs hr hes2
        have hmn : 1 ≤ (more : Int) ∧ (more : Int) ≤ 2147483647 := by
         obtain ⟨n1, n2, e1, e2, -, -, hb2, -⟩ := htwo
         exact (hE2.toR.num hI1.num hI1.gnum).1 _ (hb2.some _ hb2.mem)
        have hup : 1 ≤ up.length ∧ up.length ≤ 64 := by
         obtain ⟨n1, n2, e1, e2, -, -, -, -, -, -, hu, -⟩ := htwo
         exact hu
        obtain ⟨mN8, mC8, mO8, gv8, kn8, kc8, ko8, O8⟩ := h2.opn
        have hBO8 : Blk w8 p [I (T2.size : Int), I ((r : Nat) : Int), I (mostE T2.size : Int), I (orderE T2.size : Int), I (T2.count : Int), .map (some mN8), gv8, .map (some mC8), .map (some mO8)] 74 := by rw [← hr2]; exact O8.blk
        have hg8 : Ext w8 w8.drew := Ext.drew0 w8
        have hkc : Kp F2 w8 w8.drew := hg8.kp
        have hxc : Ext w8 w8.drew := hg8
        have hlt2 := h2.lt
        have hzc := hg8.size
        have hz8 := hk48.size
        have hz04 := hx04.size
        refine run_drawL [16] (fun w' => Kp F2 w8 w') (by kernel_rfl) rfl (qL [14, 15, 16] 0 rfl (fun _ hS => yld U24 rfl rfl (hS.blk hBt8 hF2t) rfl) hkc (qL [13, 14, 15, 16] 1 rfl (fun _ hS => yld U24 rfl rfl (hS.blk hBt8 hF2t) rfl) hkc (qL [3, 12, 13, 14, 15, 16] 2 rfl (fun _ hS => ymv rfl) hkc (qL [5, 6, 7, 8, 11, 12, 13, 14, 15, 16] 4 rfl (fun _ hS => yld U24 rfl rfl (hS.blk hBt8 hF2t) rfl) hkc (qL [6, 7, 8, 11, 12, 13, 14, 15, 16] 5 rfl (fun _ hS => ynk rfl) hkc (qL [7, 8, 11, 12, 13, 14, 15, 16] 6 rfl (fun _ hS => yfa fl74_1 rfl) hkc (qL [10, 11, 12, 13, 14, 15, 16] 9 rfl (fun _ hS => ymv rfl) hkc (qL [11, 12, 13, 14, 15, 16] 10 rfl (fun _ hS => ycv32 rfl U3 U89) hkc (hTwoL (i := 3) (j := 7) (by kernel_rfl) ?_ ?_)))))))))
        ·refine nValPL (i := 3) rfl rfl rfl (pbs (parts := [(0, .tmp 64)]) (cs := [_]) (zs := [Value.string ⟨#[]⟩]) U23 ti9 rfl (by kernel_rfl) rfl rfl rfl (by decide)) ?_
         rintro _ wa ⟨ba, rfl, ⟨hba, hxa, hBa⟩, hSa⟩
         refine ⟨hkc.trans hxa.kp, ?_⟩
         have hkc := hkc.trans (hxa.kp (S := F2))
         have hxc := hxc.trans hxa
         try have hSb := hSb.ext hxa
         have hla : w8.heap.size ≤ ba := by omega
         have hzc := Nat.le_trans hzc hxa.size
         refine hOneL (i := 7) (by kernel_rfl) (nValL (i := 7) rfl rfl rfl (yld U3 rfl rfl (hxc.blk hBO8) rfl) (hkc) (qL [11, 12, 13, 14, 15, 16] 8 rfl (fun _ hS => ycv32 rfl U3 U89) hkc (hOneL (i := 11) (by kernel_rfl) (nValPL (i := 11) rfl rfl rfl (pbs (parts := [(0, .tmp 70), (1, .tmp 72)]) (cs := [_, _]) (zs := [Value.int .u32 0, Value.int .u32 0]) U82 ti89 rfl (by kernel_rfl) rfl rfl rfl (by decide)) ?_))))
         rintro _ wb ⟨bb, rfl, ⟨hbb, hxb, hBb⟩, hSb⟩
         refine ⟨hkc.trans hxb.kp, ?_⟩
         have hkc := hkc.trans (hxb.kp (S := F2))
         have hxc := hxc.trans hxb
         try have hSa := hSa.ext hxb
         have hlb : w8.heap.size ≤ bb := by omega
         have hzc := Nat.le_trans hzc hxb.size
         refine qL [13, 14, 15, 16] 12 rfl (fun _ hS => ybd (parts := [(1, .tmp 65), (3, .tmp 73)]) (cs := [_, _, _, _]) ti84 rfl sp84 rfl rfl) hkc ?_
         have hne : ba ≠ bb := by have := hBa.lt; have := hBb.lt; omega
         rw [Nat.mod_eq_of_lt (show more < 4294967296 by omega), Nat.mod_eq_of_lt (show r < 4294967296 by omega)] at hSb
         have hNd : NdP _ (innNd r [(up, more)]) _ (.slice none 0 0) _ := ⟨hSa, Sl.nil _ _ _, hSb, ⟨by simp [innNd], by simp [innNd], by simp [innNd], by simp [innNd]; omega, by simp [innNd], by simp [innNd]; omega⟩, fun k hk => ⟨by simp [Value.ownBlock], fun e => hne ((Option.some.inj hk).trans (Option.some.inj e).symm)⟩, fun k hk => by simp [Value.ownBlock] at hk⟩
         have hfr := fresh_ret (h2.ext hxc) hgs (by rw [hgs] at hgl2; simp at hgl2; omega) hNd (fun g hg hh => by
          have := hlt2 g hh
          rcases hg with e | e | e
          ·have e' : ba = g := Option.some.inj e; omega
          ·simp [Value.ownBlock] at e
          ·have e' : bb = g := Option.some.inj e; omega) (hE2.srt.free f (by rw [hgs]; simp)).1
         rw [show (innNd r [(up, more)]).leaf = false from rfl] at hfr
         refine hOneL (i := 13) (by kernel_rfl) (nCallL (i := 13) rfl rfl rfl (yc (args := [.tmp 63, .tmp 74]) cf67 rfl) (hfr) ?_)
         rintro _ w9 ⟨rfl, b9, F9, h9, hk9, hF9⟩
         refine ⟨hkc.trans hk9, ?_⟩
         have hkc := hkc.trans hk9
         obtain ⟨mN9, mC9, mO9, gv9, kn9, kc9, ko9, O9⟩ := h9.opn
         have hB9 := O9.blk
         refine qL [15, 16] 14 rfl (fun _ hS => ynk rfl) hkc (qL [16] 15 rfl (fun _ hS => yfa fl74_1 rfl) hkc (hLate [16] (by kernel_rfl) (by kernel_rfl) (qO 16 (nEffP (i := 16) rfl rfl (zst ti3 rfl rfl rfl hB9 (by simp [trCs])) ?_))))
         rintro w10 ⟨hB10, hk10⟩
         refine ⟨trivial, ?_⟩
         refine qE (Run.qb (e := [(3, _), (6, _)]) ?_)
         have h10 := O9.setB w10 f T2.count (by simpa [trCs, Tr.setN, Tr.mark] using hB10) hk10
         have hF9' : ∀ g, F9 g → F g ∨ w4.heap.size ≤ g := fun g hg => by
          rcases hF9 g hg with e | e | e
          ·exact hF2' g e
          ·exact .inr (by omega)
          ·rcases e with e | e | e
           ·have e' : ba = g := Option.some.inj e; exact .inr (by omega)
           ·simp [Value.ownBlock] at e
           ·have e' : bb = g := Option.some.inj e; exact .inr (by omega)
         have hk410 : Kp F w4 w10 := (hk48.trans_new hkc (fun i hi => (hF2' i hi).symm)).trans_new hk10 (fun i hi => by rw [hi]; exact (hF9' _ O9.fp.1).symm)
         exact (hkb _ _ ⟨_, _, ns3, _, F9, rfl, h10, hI3, (hE1.trans hE3).mono (by omega), hk410, hF9'⟩).qb
        ·refine nValL (i := 7) rfl rfl rfl (yld U3 rfl rfl (hxc.blk hBO8) rfl) (hkc) (qL [11, 12, 13, 14, 15, 16] 8 rfl (fun _ hS => ycv32 rfl U3 U89) hkc (hTwoL (i := 3) (j := 11) (by kernel_rfl) ?_ ?_))
         ·refine nValPL (i := 3) rfl rfl rfl (pbs (parts := [(0, .tmp 64)]) (cs := [_]) (zs := [Value.string ⟨#[]⟩]) U23 ti9 rfl (by kernel_rfl) rfl rfl rfl (by decide)) ?_
          rintro _ wa ⟨ba, rfl, ⟨hba, hxa, hBa⟩, hSa⟩
          refine ⟨hkc.trans hxa.kp, ?_⟩
          have hkc := hkc.trans (hxa.kp (S := F2))
          have hxc := hxc.trans hxa
          try have hSb := hSb.ext hxa
          have hla : w8.heap.size ≤ ba := by omega
          have hzc := Nat.le_trans hzc hxa.size
          refine hOneL (i := 11) (by kernel_rfl) (nValPL (i := 11) rfl rfl rfl (pbs (parts := [(0, .tmp 70), (1, .tmp 72)]) (cs := [_, _]) (zs := [Value.int .u32 0, Value.int .u32 0]) U82 ti89 rfl (by kernel_rfl) rfl rfl rfl (by decide)) ?_)
          rintro _ wb ⟨bb, rfl, ⟨hbb, hxb, hBb⟩, hSb⟩
          refine ⟨hkc.trans hxb.kp, ?_⟩
          have hkc := hkc.trans (hxb.kp (S := F2))
          have hxc := hxc.trans hxb
          try have hSa := hSa.ext hxb
          have hlb : w8.heap.size ≤ bb := by omega
          have hzc := Nat.le_trans hzc hxb.size
          refine qL [13, 14, 15, 16] 12 rfl (fun _ hS => ybd (parts := [(1, .tmp 65), (3, .tmp 73)]) (cs := [_, _, _, _]) ti84 rfl sp84 rfl rfl) hkc ?_
          have hne : ba ≠ bb := by have := hBa.lt; have := hBb.lt; omega
          rw [Nat.mod_eq_of_lt (show more < 4294967296 by omega), Nat.mod_eq_of_lt (show r < 4294967296 by omega)] at hSb
          have hNd : NdP _ (innNd r [(up, more)]) _ (.slice none 0 0) _ := ⟨hSa, Sl.nil _ _ _, hSb, ⟨by simp [innNd], by simp [innNd], by simp [innNd], by simp [innNd]; omega, by simp [innNd], by simp [innNd]; omega⟩, fun k hk => ⟨by simp [Value.ownBlock], fun e => hne ((Option.some.inj hk).trans (Option.some.inj e).symm)⟩, fun k hk => by simp [Value.ownBlock] at hk⟩
          have hfr := fresh_ret (h2.ext hxc) hgs (by rw [hgs] at hgl2; simp at hgl2; omega) hNd (fun g hg hh => by
           have := hlt2 g hh
           rcases hg with e | e | e
           ·have e' : ba = g := Option.some.inj e; omega
           ·simp [Value.ownBlock] at e
           ·have e' : bb = g := Option.some.inj e; omega) (hE2.srt.free f (by rw [hgs]; simp)).1
          rw [show (innNd r [(up, more)]).leaf = false from rfl] at hfr
          refine hOneL (i := 13) (by kernel_rfl) (nCallL (i := 13) rfl rfl rfl (yc (args := [.tmp 63, .tmp 74]) cf67 rfl) (hfr) ?_)
          rintro _ w9 ⟨rfl, b9, F9, h9, hk9, hF9⟩
          refine ⟨hkc.trans hk9, ?_⟩
          have hkc := hkc.trans hk9
          obtain ⟨mN9, mC9, mO9, gv9, kn9, kc9, ko9, O9⟩ := h9.opn
          have hB9 := O9.blk
          refine qL [15, 16] 14 rfl (fun _ hS => ynk rfl) hkc (qL [16] 15 rfl (fun _ hS => yfa fl74_1 rfl) hkc (hLate [16] (by kernel_rfl) (by kernel_rfl) (qO 16 (nEffP (i := 16) rfl rfl (zst ti3 rfl rfl rfl hB9 (by simp [trCs])) ?_))))
          rintro w10 ⟨hB10, hk10⟩
          refine ⟨trivial, ?_⟩
          refine qE (Run.qb (e := [(3, _), (6, _)]) ?_)
          have h10 := O9.setB w10 f T2.count (by simpa [trCs, Tr.setN, Tr.mark] using hB10) hk10
          have hF9' : ∀ g, F9 g → F g ∨ w4.heap.size ≤ g := fun g hg => by
           rcases hF9 g hg with e | e | e
           ·exact hF2' g e
           ·exact .inr (by omega)
           ·rcases e with e | e | e
            ·have e' : ba = g := Option.some.inj e; exact .inr (by omega)
            ·simp [Value.ownBlock] at e
            ·have e' : bb = g := Option.some.inj e; exact .inr (by omega)
          have hk410 : Kp F w4 w10 := (hk48.trans_new hkc (fun i hi => (hF2' i hi).symm)).trans_new hk10 (fun i hi => by rw [hi]; exact (hF9' _ O9.fp.1).symm)
          exact (hkb _ _ ⟨_, _, ns3, _, F9, rfl, h10, hI3, (hE1.trans hE3).mono (by omega), hk410, hF9'⟩).qb
         ·refine nValPL (i := 11) rfl rfl rfl (pbs (parts := [(0, .tmp 70), (1, .tmp 72)]) (cs := [_, _]) (zs := [Value.int .u32 0, Value.int .u32 0]) U82 ti89 rfl (by kernel_rfl) rfl rfl rfl (by decide)) ?_
          rintro _ wb ⟨bb, rfl, ⟨hbb, hxb, hBb⟩, hSb⟩
          refine ⟨hkc.trans hxb.kp, ?_⟩
          have hkc := hkc.trans (hxb.kp (S := F2))
          have hxc := hxc.trans hxb
          try have hSa := hSa.ext hxb
          have hlb : w8.heap.size ≤ bb := by omega
          have hzc := Nat.le_trans hzc hxb.size
          refine hOneL (i := 3) (by kernel_rfl) (nValPL (i := 3) rfl rfl rfl (pbs (parts := [(0, .tmp 64)]) (cs := [_]) (zs := [Value.string ⟨#[]⟩]) U23 ti9 rfl (by kernel_rfl) rfl rfl rfl (by decide)) ?_)
          rintro _ wa ⟨ba, rfl, ⟨hba, hxa, hBa⟩, hSa⟩
          refine ⟨hkc.trans hxa.kp, ?_⟩
          have hkc := hkc.trans (hxa.kp (S := F2))
          have hxc := hxc.trans hxa
          try have hSb := hSb.ext hxa
          have hla : w8.heap.size ≤ ba := by omega
          have hzc := Nat.le_trans hzc hxa.size
          refine qL [13, 14, 15, 16] 12 rfl (fun _ hS => ybd (parts := [(1, .tmp 65), (3, .tmp 73)]) (cs := [_, _, _, _]) ti84 rfl sp84 rfl rfl) hkc ?_
          have hne : ba ≠ bb := by have := hBa.lt; have := hBb.lt; omega
          rw [Nat.mod_eq_of_lt (show more < 4294967296 by omega), Nat.mod_eq_of_lt (show r < 4294967296 by omega)] at hSb
          have hNd : NdP _ (innNd r [(up, more)]) _ (.slice none 0 0) _ := ⟨hSa, Sl.nil _ _ _, hSb, ⟨by simp [innNd], by simp [innNd], by simp [innNd], by simp [innNd]; omega, by simp [innNd], by simp [innNd]; omega⟩, fun k hk => ⟨by simp [Value.ownBlock], fun e => hne ((Option.some.inj hk).trans (Option.some.inj e).symm)⟩, fun k hk => by simp [Value.ownBlock] at hk⟩
          have hfr := fresh_ret (h2.ext hxc) hgs (by rw [hgs] at hgl2; simp at hgl2; omega) hNd (fun g hg hh => by
           have := hlt2 g hh
           rcases hg with e | e | e
           ·have e' : ba = g := Option.some.inj e; omega
           ·simp [Value.ownBlock] at e
           ·have e' : bb = g := Option.some.inj e; omega) (hE2.srt.free f (by rw [hgs]; simp)).1
          rw [show (innNd r [(up, more)]).leaf = false from rfl] at hfr
          refine hOneL (i := 13) (by kernel_rfl) (nCallL (i := 13) rfl rfl rfl (yc (args := [.tmp 63, .tmp 74]) cf67 rfl) (hfr) ?_)
          rintro _ w9 ⟨rfl, b9, F9, h9, hk9, hF9⟩
          refine ⟨hkc.trans hk9, ?_⟩
          have hkc := hkc.trans hk9
          obtain ⟨mN9, mC9, mO9, gv9, kn9, kc9, ko9, O9⟩ := h9.opn
          have hB9 := O9.blk
          refine qL [15, 16] 14 rfl (fun _ hS => ynk rfl) hkc (qL [16] 15 rfl (fun _ hS => yfa fl74_1 rfl) hkc (hLate [16] (by kernel_rfl) (by kernel_rfl) (qO 16 (nEffP (i := 16) rfl rfl (zst ti3 rfl rfl rfl hB9 (by simp [trCs])) ?_))))
          rintro w10 ⟨hB10, hk10⟩
          refine ⟨trivial, ?_⟩
          refine qE (Run.qb (e := [(3, _), (6, _)]) ?_)
          have h10 := O9.setB w10 f T2.count (by simpa [trCs, Tr.setN, Tr.mark] using hB10) hk10
          have hF9' : ∀ g, F9 g → F g ∨ w4.heap.size ≤ g := fun g hg => by
           rcases hF9 g hg with e | e | e
           ·exact hF2' g e
           ·exact .inr (by omega)
           ·rcases e with e | e | e
            ·have e' : ba = g := Option.some.inj e; exact .inr (by omega)
            ·simp [Value.ownBlock] at e
            ·have e' : bb = g := Option.some.inj e; exact .inr (by omega)
          have hk410 : Kp F w4 w10 := (hk48.trans_new hkc (fun i hi => (hF2' i hi).symm)).trans_new hk10 (fun i hi => by rw [hi]; exact (hF9' _ O9.fp.1).symm)
          exact (hkb _ _ ⟨_, _, ns3, _, F9, rfl, h10, hI3, (hE1.trans hE3).mono (by omega), hk410, hF9'⟩).qb
       ·exfalso
        apply hm
        intro e
        obtain ⟨n1, n2, e1, e2, -, -, -, -, -, -, -, -, -, hm0⟩ := htwo
        omega
    case hmain =>
     refine run_if rfl (fun hr => ?_) (fun hr => ?_)
     ·obtain ⟨f, gs, hgs⟩ : ∃ f gs, T.given = f :: gs := by
       cases e : T.given with
       | nil => rw [e] at hroom; simp at hroom
       | cons a l => exact ⟨a, l, rfl⟩
      have hg5 : Ext w4 w4.drew := Ext.drew0 w4
      obtain ⟨he0, hH0, hP1, hE1⟩ := hI.first hz hr hgs
      subst he0
      have hNd : NdP w4.drew (leafNd []) (.slice none 0 0) (.slice none 0 0) (.slice none 0 0) := ⟨Sl.nil _ _ _, Sl.nil _ _ _, Sl.nil _ _ _, leaf_bd hz ⟨by simp, List.Pairwise.nil⟩ (by simp [entB]), fun k hk => by simp [Value.ownBlock] at hk, fun k hk => by simp [Value.ownBlock] at hk⟩
      have hown : ∀ k, ¬ ownP (.slice none 0 0) (.slice none 0 0) (.slice none 0 0) k := fun k hk => by simp [ownP, Value.ownBlock] at hk
      have hfr := fresh_ret (h4.ext hg5) hgs (by rw [hgs] at hgl; simp at hgl; omega) hNd (fun k hk => absurd hk (hown k)) (hI.giv.free f (by rw [hgs]; simp)).1
      rw [show (leafNd []).leaf = true from rfl] at hfr
      refine run_drawL [6] (fun w' => Kp F w4 w') (by kernel_rfl) rfl (qL [4, 5, 6] 0 rfl (fun _ hS => yld U24 rfl rfl (hS.blk hBt4 hFt) rfl) (hg5.kp) (qL [3, 4, 5, 6] 1 rfl (fun _ hS => yld U24 rfl rfl (hS.blk hBt4 hFt) rfl) (hg5.kp) (qL [3, 4, 5, 6] 2 rfl (fun _ hS => ybd (parts := [(0, .const (Value.bool true))]) (cs := [_, _, _, _]) ti84 rfl sp84 rfl rfl) (hg5.kp) (hOneL (i := 3) (by kernel_rfl) (nCallL (i := 3) rfl rfl rfl (yc (args := [.tmp 45, .tmp 46]) cf67 rfl) (hfr) ?_)))))
      rintro _ w5 ⟨rfl, b5, F5, h5, hk5, hF5⟩
      refine ⟨hg5.kp.trans hk5, ?_⟩
      obtain ⟨mN5, mC5, mO5, gv5, kn5, kc5, ko5, O5⟩ := h5.opn
      have hB5 := O5.blk
      refine qL [5, 6] 4 rfl (fun _ hS => ynk rfl) (hg5.kp.trans hk5) (qL [6] 5 rfl (fun _ hS => yfa fl74_1 rfl) (hg5.kp.trans hk5) (hLate [6] (by kernel_rfl) (by kernel_rfl) (qO 6 (nEffP (i := 6) rfl rfl (zst ti3 rfl rfl rfl hB5 (by simp [trCs])) ?_))))
      rintro w6 ⟨hB6, hk6⟩
      refine ⟨trivial, ?_⟩
      refine qE (Run.qb (e := [(3, _), (4, _), (5, _), (6, _)]) ?_)
      have h6 := O5.setB w6 f T.count (by simpa [trCs, Tr.setN, Tr.mark] using hB6) hk6
      have hz5 := hg5.size
      have hF5' : ∀ g, F5 g → F g ∨ w4.heap.size ≤ g := fun g hg => by
       rcases hF5 g hg with e | e | e
       ·exact .inl e
       ·exact .inr (by omega)
       ·exact absurd e (hown g)
      refine (hk _ _ ⟨_, _, F5, 1, [f], 1, rfl, h6, hP1, hE1, by omega, .inl ⟨rfl, rfl⟩, fun c ps hn => ?_, (hg5.kp.trans hk5).trans_new hk6 (fun i hi => by rw [hi]; exact (hF5' _ O5.fp.1).symm), hF5'⟩).qb
      have hn' : updI T.nodes f (some (leafNd [])) f = some (innNd c ps) := hn
      rw [updI_same] at hn'
      have := congrArg (fun n => n.map Nd.leaf) hn'
      simp [leafNd, innNd] at this
     ·refine run_skip ?_
      have hP := hI.toP hr
      refine (hk _ _ ⟨T, nb, F, H, ns, 0, rfl, h4, hP, (Evo.refl hI.giv).toR, by omega, .inr hroom, fun c ps hn => ?_, Kp.refl _ _, fun g hg => .inl hg⟩).qb
      rcases hI.std with ⟨e, -⟩ | ⟨-, -, -, -, hk'⟩
      ·exact absurd e hr
      ·have := hk' _ hn
       intro e
       rw [e] at this
       exact this rfl
 ·refine run_draw (fun w' => Ext w3 w') (by kernel_rfl) rfl (qT 0 rfl (fun _ hS => (by first | exact yld U9 rfl rfl (hS.blk hBt) rfl | exact yld U9 rfl rfl (hS.blk hBk) rfl | exact yld U9 rfl rfl (hS.blk hBv) rfl | exact yld U9 rfl rfl (hS.blk hBO) rfl)) hg3 ?_)
  refine qO 1 (nCall (i := 1) rfl rfl rfl (yc (args := [.tmp 14]) cf66 rfl) (hkey false _ (decide_eq_false hk)) ?_)
  rintro _ w4 ⟨rfl, rfl⟩
  refine ⟨hg3, ?_⟩
  refine qt 2 rfl ((by first | exact yntd rfl | exact ynt rfl)) hg3 ?_
  refine qt 3 rfl (ymv rfl) hg3 (qJ 4 rfl (hg3) (qJ 5 rfl (hg3) (qJ 6 rfl (hg3) (qJ 7 rfl (hg3) (qJ 8 rfl (hg3) (qJ 9 rfl (hg3) (qJ 10 rfl (hg3) (qJ 11 rfl (hg3) (qJ 12 rfl (hg3) (qJ 13 rfl (hg3) (qJ 14 rfl (hg3) (qt 15 rfl (ypT rfl rfl) hg3 (qt 16 rfl (yas rfl) hg3 ?_)))))))))))))
  refine qE (Run.qb (e := [(3, _), (4, _), (5, _), (6, _), (13, _)]) ?_)
  refine run_true rfl (qN rfl (qa rfl (rEnd (run_ret Tryz.func38 rfl ?_))))
  exact ⟨_, rfl, .inl ⟨rfl, fun hh => hk hh.1, hx03.trans hg3⟩⟩
end
def Tr0 (z : Nat) : Tr := ⟨z, 0, 0, fun _ => none, [], fun _ => false, fun _ => false⟩
theorem inv0 (z : Nat) : Inv (Tr0 z) 0 [] [] := ⟨.inl ⟨rfl, rfl, rfl, rfl⟩, fun x h => absurd rfl h, rfl, fun x h => absurd rfl h, fun x h => absurd h List.not_mem_nil, ⟨List.Pairwise.nil, fun x h => absurd h List.not_mem_nil⟩, fun x h => absurd rfl h⟩
section
variable {w : World}
theorem newT_ret (z : Int) : Ret Tryz.prog 8 [I z] w fun v w' => Ext w w' ∧ ((sizeOk z ∧ ∃ p F, v = .tuple #[ptr p 0, I 0] ∧ TreeA w' p (Tr0 z.toNat) (fun _ => 0) F ∧ ∀ k, F k → w.heap.size ≤ k) ∨ (¬ sizeOk z ∧ v = .tuple #[.pointer none, I 1])) := by
 refine ret_of_run (e := [(0, _)]) Tryz.func8 rfl Tryz.ntmps8 rfl rfl (qN rfl (qa rfl (qa rfl (qM rfl (qm rfl ?_)))))
 by_cases hz : sizeOk z
 ·obtain ⟨k, rfl⟩ : ∃ k : Nat, z = (k : Int) := ⟨z.toNat, by have := hz.1; omega⟩
  refine rCall rfl rfl (yc (args := [.tmp 9]) cf34 rfl) (most_ok hz w) ?_
  rintro _ w ⟨rfl, rfl⟩
  refine qm rfl (qV (yex rfl rfl) (qV (yex rfl rfl) (qa rfl (qa rfl (rEnd (run_seq (qN rfl (qm rfl (qV (yne rfl rfl) (rEnd (run_if rfl (fun h0 => ?_) (fun h0 => ?_))))))))))))
  ·exact absurd rfl h0
  ·refine run_skip (qN rfl (qm rfl (rCall rfl rfl (yc (args := [.tmp 17]) cf35 rfl) (order_ok hz w) ?_)))
   rintro _ w ⟨rfl, rfl⟩
   refine qm rfl (qV (yex rfl rfl) (qV (yex rfl rfl) (qa rfl (qa rfl (qM rfl (qm rfl (qm rfl (qm rfl (rValP rfl rfl (pmm) ?_)))))))))
   rintro _ w1 ⟨m1, rfl, hm1, hx1, hh1⟩
   refine rValP rfl rfl (pmm) ?_
   rintro _ w2 ⟨m2, rfl, hm2, hx2, hh2⟩
   refine rValP rfl rfl (pmm) ?_
   rintro _ w3 ⟨m3, rfl, hm3, hx3, hh3⟩
   refine qV (ybd (parts := [(0, .tmp 21), (2, .tmp 22), (3, .tmp 23), (5, .tmp 24), (7, .tmp 25), (8, .tmp 26)]) (cs := [_, _, _, _, _, _, _, _, _]) ti74 rfl sp74 rfl rfl) (rValP rfl rfl (pbx rfl rfl) ?_)
   rintro _ w4 ⟨b, rfl, hb, hx4, hB4⟩
   refine qa rfl (qa rfl (rEnd (Run.qb (e := [(2, _), (3, _)]) ?_)))
   refine run_ret Tryz.func8 rfl ?_
   have hz1 := hx1.size
   have hz2 := hx2.size
   have hz3 := hx3.size
   have l1 : m1 < w1.heap.size := (MapB.new (K := KZ) hh1).lt
   have l2 : m2 < w2.heap.size := (MapB.new (K := KZ) hh2).lt
   have l3 : m3 < w3.heap.size := (MapB.new (K := KZ) hh3).lt
   have hM1 := (MapB.new (K := KZ) hh1).ext ((hx2.trans hx3).trans hx4)
   have hM2 := (MapB.new (K := KZ) hh2).ext (hx3.trans hx4)
   have hM3 := (MapB.new (K := KZ) hh3).ext hx4
   refine ⟨_, rfl, ((hx1.trans hx2).trans hx3).trans hx4, .inl ⟨hz, b, fpT b (Tr0 k) m1 m2 m3 (.slice none 0 0) (fun _ => ⟨0, .slice none 0 0, .slice none 0 0, .slice none 0 0⟩), rfl, ⟨m1, m2, m3, .slice none 0 0, fun _ => ⟨0, .slice none 0 0, .slice none 0 0, .slice none 0 0⟩, ⟨?_, ⟨[], hM1, fun _ => rfl⟩, ⟨[], hM2, fun _ => rfl⟩, ⟨[], hM3, fun _ => rfl⟩, Sl.nil _ _ _, fun no n h => by simp [Tr0] at h, fun no n no' n' h => by simp [Tr0] at h, fun no n h => by simp [Tr0] at h, ⟨by omega, by omega, by omega, by omega, by omega, by omega⟩, fun k hk => by simp [Value.ownBlock] at hk, hz⟩, fun _ => rfl, fun _ => Iff.rfl⟩, fun i hi => ?_⟩⟩
   ·exact hB4
   ·rcases hi with h | h | h | h | h | ⟨no, n, h, -⟩
    ·omega
    ·omega
    ·omega
    ·omega
    ·simp [Value.ownBlock] at h
    ·simp [Tr0] at h
 ·have hm := most_ret z w
  rw [if_neg hz, if_neg hz] at hm
  refine rCall rfl rfl (yc (args := [.tmp 9]) cf34 rfl) (hm) ?_
  rintro _ w ⟨rfl, rfl⟩
  refine qm rfl (qV (yex rfl rfl) (qV (yex rfl rfl) (qa rfl (qa rfl (rEnd (run_seq (qN rfl (qm rfl (qV (yne rfl rfl) (rEnd (run_if rfl (fun h0 => ?_) (fun h0 => ?_))))))))))))
  ·refine qN rfl (qm rfl (qa rfl (qa rfl (rEnd (run_ret Tryz.func8 rfl ?_)))))
   exact ⟨_, rfl, Ext.refl _, .inr ⟨hz, rfl⟩⟩
  ·exact absurd (by decide) h0
end
def giveOk (T : Tr) (l : List Int) : Prop := l.Nodup ∧ ∀ x ∈ l, (1 ≤ x ∧ x ≤ 2147483647) ∧ T.nodes x = none ∧ T.old x = false ∧ x ∉ T.given
theorem nodup_le {l : List Int} (h : l.Nodup) (hb : ∀ x ∈ l, 1 ≤ x ∧ x ≤ 2147483647) : l.length ≤ 2147483647 := by
 have h1 := rise_len (sortZ_lt h) (a := 1) (b := 2147483647) (fun x hx => hb x (sortZ_mem.1 hx))
 rw [sortZ_len] at h1
 omega
theorem Inv.give {T : Tr} {H : Nat} {ns : List Int} {es : Es} (h : Inv T H ns es) {l : List Int} (hl : giveOk T l) : Inv { T with given := sortZ (T.given ++ l) } H ns es := by
 obtain ⟨h1, h2⟩ := hl
 refine ⟨h.std, h.all, h.cnt, h.num, fun x hx => ?_, ⟨sortZ_lt ?_, fun x hx => ?_⟩, h.chg⟩
 ·rcases List.mem_append.1 (sortZ_mem.1 hx) with hx | hx
  ·exact h.gnum x hx
  ·exact (h2 x hx).1
 ·exact List.nodup_append.2 ⟨nodup_of_lt h.giv.rise, h1, fun a ha b hb e => (h2 b hb).2.2.2 (e ▸ ha)⟩
 ·rcases List.mem_append.1 (sortZ_mem.1 hx) with hx | hx
  ·exact h.giv.free x hx
  ·exact ⟨(h2 x hx).2.1, (h2 x hx).2.2.1⟩
section
variable {w : World} {p : Nat} {T : Tr} {nb : Int → Nat} {F : Nat → Prop}
set_option maxHeartbeats 4000000 in
theorem give_ret (h : TreeA w p T nb F) {H : Nat} {ns : List Int} {es : Es} (hI : Inv T H ns es) {lv : Value} {l : List Int} (hR : Rd w lv 1 l.length (l.map I)) (hl : l.length ≤ 17592186044415) :
  Ret Tryz.prog 50 [ptr p 0, lv] w fun v w' => (v = I 0 ∧ giveOk T l ∧ Kp F w w' ∧ ∃ F', TreeA w' p { T with given := sortZ (T.given ++ l) } nb F' ∧ ∀ k, F' k → F k ∨ w.heap.size ≤ k) ∨ (v = I 1 ∧ ¬ giveOk T l ∧ Ext w w') := by
 obtain ⟨la, lc, rfl, -⟩ := hR.shape
 have hgl := hI.gl
 have hlt := h.lt
 refine ret_of_run (e := [(0, _), (1, _)]) Tryz.func50 rfl Tryz.ntmps50 rfl rfl (qN rfl (qa rfl (rEnd (run_seq (qN rfl (qm rfl (qV (yeqpN U24 rfl rfl) (rEnd (run_false rfl (run_skip (qN rfl (rValP rfl rfl (pmm) ?_))))))))))))
 rintro _ w1 ⟨ms, rfl, hms, hx1, hh1⟩
 have hl1 : ms < w1.heap.size := (MapB.new (K := KZ) hh1).lt
 refine qa rfl (rEnd (run_seq (qN rfl (qm rfl (qV (yln U34 rfl) (qm rfl (rEnd (run_block (run_loop (α := Nat) (0) (fun i => [(0, ptr p 0), (1, .slice la l.length lc), (5, .map (some ms)), (11, .slice la l.length lc), (12, I (l.length : Int)), (13, I (i : Int))]) (fun i w' => i ≤ l.length ∧ Ext w w' ∧ (l.take i).Nodup ∧ (∀ x ∈ l.take i, (1 ≤ x ∧ x ≤ 2147483647) ∧ T.nodes x = none ∧ T.old x = false ∧ x ∉ T.given) ∧ ∃ kv, MapB KZ w' ms kv ∧ ∀ x, getL kv x = if x ∈ l.take i then some (I 1) else none) (fun i => l.length - i) (by repeat (first | exact Sub.nil | refine Sub.cons rfl ?_)) ?hI ?hround)))))))))
 case hI => exact ⟨Nat.zero_le _, hx1, by simp, by simp, [], MapB.new hh1, fun x => by simp [getL]⟩
 case hround =>
  rintro i wi ⟨hi, hxi, hnd, hall, kv, hMs, hkv⟩ ih
  have hi' := h.ext hxi
  obtain ⟨mN, mC, mO, gv, kn, kc, ko, O⟩ := hi'.opn
  obtain ⟨ga, gcp, hgv, -⟩ := O.gs.rd.shape
  subst hgv
  have hzi := hxi.size
  try dsimp only
  refine qN rfl (qV (ylt rfl rfl) (rEnd (run_seq (run_if rfl (fun hlt' => ?_) (fun hlt' => ?_)))))
  ·have hil : i < l.length := by omega
   obtain ⟨lb, lo, s, rfl, hs'⟩ := rd_getI hR hil
   have hmem : s ∈ l := List.mem_of_getElem? hs'
   refine run_skip (run_seq (run_block (qN rfl (qV (yis U34 ti3 rfl rfl (by omega)) (qV (yldc U3 rfl rfl (rd_intT (hR.ext hxi) hil hs')) (qa rfl (qM rfl (qm rfl (qm rfl (qV (ylk (k := s) (K := KZ) U72 (ky_int U3) ti3 rfl rfl hMs.l) ?_))))))))))
   have hbad : (¬ (1 ≤ s ∧ s ≤ 2147483647) ∨ s ∈ l.take i ∨ T.nodes s ≠ none ∨ T.old s = true ∨ s ∈ T.given) → ¬ giveOk T l := fun hb hok => by
    obtain ⟨g1, g2⟩ := hok
    obtain ⟨g3, g4, g5, g6⟩ := g2 s hmem
    rcases hb with hb | hb | hb | hb | hb
    ·exact hb g3
    ·obtain ⟨j, hj, e⟩ := List.mem_take_iff_getElem.1 hb
     obtain ⟨hi2, e2⟩ := List.getElem?_eq_some_iff.1 hs'
     have := (List.getElem_inj g1).1 (e.trans e2.symm)
     omega
    ·exact hb g4
    ·rw [g5] at hb; cases hb
    ·exact g6 hb
   obtain ⟨q, hq, hq'⟩ : ∃ q : Nat, (getL kv s).getD (I 0) = I (q : Int) ∧ ((q = 0 ∧ s ∉ l.take i) ∨ (q = 1 ∧ s ∈ l.take i)) := by
    rw [hkv s]
    by_cases hm : s ∈ l.take i
    ·exact ⟨1, by rw [if_pos hm]; rfl, .inr ⟨rfl, hm⟩⟩
    ·exact ⟨0, by rw [if_neg hm]; rfl, .inl ⟨rfl, hm⟩⟩
   rw [hq]
   refine qV (yad rfl rfl (by omega)) (rEffP rfl (zmuB U72 (ky_int U3) rfl rfl rfl hMs (k := s)) ?_)
   rintro w2 ⟨hM2, hk2⟩
   have hx2 : Ext w w2 := hxi.trans_new hk2 (fun j hj => by omega)
   have hO2 : ∀ g, F g → ¬ g = ms := fun g hg e => by have := hlt g hg; omega
   have hBO := hk2.blk O.blk (hO2 _ O.fp.1)
   have hMN := O.nm.kp hk2 (hO2 _ O.fp.2.1)
   have hMO := O.om.kp hk2 (hO2 _ O.fp.2.2.2.1)
   have hGS := O.gs.kp hk2 (fun g hg => hO2 g (O.fp.2.2.2.2 g hg))
   have hget2 : (getL (putL kv s (I ((q : Int) + 1))) s).getD (I 0) = I ((q : Int) + 1) := by rw [getL_put, if_pos rfl]; rfl
   refine qM rfl (qm rfl (qV (ylt rfl rfl) (rVal_if (fun hc1 => ?_) (fun hc1 => ?_))))
   ·refine qm rfl (qS (qS (qV (ypT rfl rfl) (qm rfl (qS (qS (qS (qS (qV (ypT rfl rfl) (qm rfl (qS (qS (qS ?_)))))))))))))
    refine qS (qS (qS (qS (qV (ypT rfl rfl) (qm rfl (qS (qS (qS (qS (qS (qS (qS (qV (ypT rfl rfl) ?_)))))))))))))
    refine qm rfl (qS (qS (qS (qS (qS (qS (qV (ypT rfl rfl) (rEnd (run_true rfl (qN rfl (qa rfl (rEnd (run_ret Tryz.func50 rfl ?_)))))))))))))
    exact ⟨_, rfl, .inr ⟨rfl, hbad (.inl (by omega)), hx2⟩⟩
   ·refine qm rfl (qm rfl (qV (ygt rfl rfl) (rVal_if (fun hc2 => ?_) (fun hc2 => ?_))))
    ·refine qV (ypF rfl rfl) (qm rfl (qS (qS (qS (qS (qV (ypT rfl rfl) (qm rfl (qS (qS (qS (qS (qS (qS ?_)))))))))))))
     refine qS (qV (ypT rfl rfl) (qm rfl (qS (qS (qS (qS (qS (qS (qS (qV (ypT rfl rfl) (qm rfl (qS (qS ?_)))))))))))))
     refine qS (qS (qS (qS (qV (ypT rfl rfl) (rEnd (run_true rfl (qN rfl (qa rfl (rEnd (run_ret Tryz.func50 rfl ?_))))))))))
     exact ⟨_, rfl, .inr ⟨rfl, hbad (.inl (by omega)), hx2⟩⟩
    ·refine qV (ypF rfl rfl) (qm rfl (qm rfl (qm rfl (qV (ylk (k := s) (K := KZ) U72 (ky_int U3) ti3 rfl rfl hM2.l) ?_))))
     rw [hget2]
     refine qV (ygt rfl rfl) (rVal_if (fun hc3 => ?_) (fun hc3 => ?_))
     ·refine qV (ypF rfl rfl) (qm rfl (qS (qS (qS (qS (qS (qS (qS (qV (ypT rfl rfl) (qm rfl (qS (qS (qS ?_)))))))))))))
      refine qS (qS (qS (qS (qV (ypT rfl rfl) (qm rfl (qS (qS (qS (qS (qS (qS (qV (ypT rfl rfl) (rEnd ?_)))))))))))))
      refine run_true rfl (qN rfl (qa rfl (rEnd (run_ret Tryz.func50 rfl ?_))))
      exact ⟨_, rfl, .inr ⟨rfl, hbad (.inr (.inl (hq'.elim (fun e => by have := e.1; omega) (fun e => e.2)))), hx2⟩⟩
     ·have hnm : s ∉ l.take i ∧ q = 0 := hq'.elim (fun e => ⟨e.2, e.1⟩) (fun e => by have := e.1; omega)
      obtain ⟨hnm, rfl⟩ := hnm
      refine qV (ypF rfl rfl) (qm rfl (qm rfl (qV (ynk rfl) (qV (yfa fl74_5 rfl) (qV (yld U71 rfl rfl hBO rfl) (qm rfl (qV (ylk (k := s) (K := KZ) U71 (ky_int U3) ti81 rfl rfl hMN.l) ?_)))))))
      rw [show (getL kn s).getD (.pointer none) = (match T.nodes s with | none => .pointer none | some _ => ptr (nb s) 0) by rw [O.ng s]; cases T.nodes s <;> rfl]
      cases hns : T.nodes s with
      | some n0 =>
        refine qV (ynepN U81 rfl rfl) (qV (ypF rfl rfl) (qm rfl (qS (qS (qS (qS (qS (qS (qS (qV (ypT rfl rfl) (qm rfl (qS (qS ?_)))))))))))))
        refine qS (qS (qS (qS (qV (ypT rfl rfl) (rEnd (run_true rfl (qN rfl (qa rfl (rEnd (run_ret Tryz.func50 rfl ?_))))))))))
        exact ⟨_, rfl, .inr ⟨rfl, hbad (.inr (.inr (.inl (by rw [hns]; simp)))), hx2⟩⟩
      | none =>
        refine qV (ynepN U81 rfl rfl) (qV (ypF rfl rfl) (qm rfl (qm rfl (qV (ynk rfl) (qV (yfa fl74_8 rfl) (qV (yld U72 rfl rfl hBO rfl) (qm rfl (qV (ylk (k := s) (K := KZ) U72 (ky_int U3) ti3 rfl rfl hMO.l) ?_))))))))
        rw [show (getL ko s).getD (I 0) = I (if T.old s then 1 else 0) by rw [O.og s]; cases T.old s <;> rfl]
        refine qV (ygt rfl rfl) (rVal_if (fun hc4 => ?_) (fun hc4 => ?_))
        ·refine qV (ypF rfl rfl) (qm rfl (qS (qS (qS (qS (qS (qS (qV (ypT rfl rfl) (rEnd (run_true rfl (qN rfl (qa rfl (rEnd ?_)))))))))))))
         refine run_ret Tryz.func50 rfl ?_
         exact ⟨_, rfl, .inr ⟨rfl, hbad (.inr (.inr (.inr (.inl (by cases ho : T.old s <;> simp_all))))), hx2⟩⟩
        ·have hold : T.old s = false := by cases ho : T.old s <;> simp_all
         refine qV (ypF rfl rfl) (qm rfl (qm rfl (qV (ynk rfl) (qV (yfa fl74_6 rfl) (qV (yld U34 rfl rfl hBO rfl) (qm rfl (rCall rfl rfl (yc (args := [.tmp 55, .tmp 56]) cf80 rfl) (containsI_ret s hGS.rd (by omega)) ?_)))))))
         rintro _ w2 ⟨rfl, rfl⟩
         refine qV (ypF rfl rfl) (rEnd (run_if rfl (fun hc5 => ?_) (fun hc5 => ?_)))
         ·refine qN rfl (qa rfl (rEnd (run_ret Tryz.func50 rfl ?_)))
          exact ⟨_, rfl, .inr ⟨rfl, hbad (.inr (.inr (.inr (.inr hc5)))), hx2⟩⟩
         ·refine run_skip (run_inBlock (run_reg rfl (qV (yad rfl rfl (by omega)) (qm rfl (rEnd ?_)))))
          obtain ⟨hi2, e2⟩ := List.getElem?_eq_some_iff.1 hs'
          refine (ih (i + 1) w2 ⟨by omega, hx2, ?_, fun x hx => ?_, _, hM2, fun x => ?_⟩ (by omega)).qb
          ·rw [List.take_succ_eq_append_getElem hi2, e2]
           exact List.nodup_append.2 ⟨hnd, by simp, fun a ha b hb e => by simp at hb; subst hb; subst e; exact hnm ha⟩
          ·rcases (mem_take_succ hs').1 hx with hx | rfl
           ·exact hall x hx
           ·exact ⟨by omega, hns, hold, hc5⟩
          ·rw [getL_put, hkv x]
           by_cases hxs : x = s
           ·rw [if_pos hxs, if_pos ((mem_take_succ hs').2 (.inr hxs))]; rfl
           ·rw [if_neg hxs]
            by_cases hxm : x ∈ l.take i
            ·rw [if_pos hxm, if_pos ((mem_take_succ hs').2 (.inl hxm))]
            ·rw [if_neg hxm, if_neg (fun hh => by rcases (mem_take_succ hs').1 hh with e | e; exact hxm e; exact hxs e)]
  ·have : i = l.length := by omega
   subst this
   rw [List.take_length] at hnd hall
   have hok : giveOk T l := ⟨hnd, hall⟩
   have hll := nodup_le hnd (fun x hx => (hall x hx).1)
   have hBO := O.blk
   have hml : maxLen = 9223372036854775807 := rfl
   refine run_exit rfl (qN rfl (qm rfl (qm rfl (qV (ynk rfl) (qV (yfa fl74_6 rfl) (qV (yld U34 rfl rfl hBO rfl) (qm rfl (rValP rfl rfl (pap U34 ti3 rfl (by decide) rfl rfl O.gs (hR.ext hxi) (by intro c hc; obtain ⟨z, -, rfl⟩ := List.mem_map.1 hc; rfl) (by omega) (by omega)) ?_))))))))
   rintro gv2 w2 ⟨hS2, hk2, ho2, -⟩
   have hz2 := hk2.size
   have hBO2 := hk2.blk hBO (fun e => O.ne.2.2.2 e)
   refine qV (ynk rfl) (qV (yfa fl74_6 rfl) (rEffP rfl (zst ti34 rfl rfl (oneV_sl hS2) hBO2 (by simp [trCs])) ?_))
   rintro w3 ⟨hB3, hk3⟩
   have hB3' : Blk w3 p (trCs T mN mC mO gv2) 74 := hB3
   have hpo : ∀ g, gv2.ownBlock = some g → g ≠ p := fun g hg e => by
    subst e
    rcases ho2 g hg with e | e
    ·exact O.ne.2.2.2 e
    ·have := hlt g O.fp.1; omega
   have hS3 := hS2.kp hk3 (fun g hg e => hpo g hg e)
   have hS3' : Sl w3 gv2 3 1 (T.given ++ l).length ((T.given ++ l).map I) := by
    rw [List.length_append, List.map_append]; exact hS3
   refine qM rfl (qm rfl (qV (ynk rfl) (qV (yfa fl74_6 rfl) (qV (yld U34 rfl rfl hB3' rfl) (rCall rfl rfl (yc (args := [.tmp 72]) cf62 rfl) (sortZ_ret hS3' (by rw [List.length_append]; omega)) ?_)))))
   rintro _ w4 ⟨rfl, hS4, hk4⟩
   have hB4 := hk4.blk hB3' (fun e => hpo p e rfl)
   refine qM rfl (qa rfl (rEnd (run_ret Tryz.func50 rfl ?_)))
   have hkk : Kp (fun k => k = p ∨ (Value.slice ga T.given.length gcp).ownBlock = some k) wi w4 := (((hk2.mono' (fun k e => .inr e)).trans (hk3.mono' (fun k e => .inl e)))).trans_new hk4 (fun k e => (ho2 k e).elim (fun e => .inr (.inr e)) .inl)
   obtain ⟨F', h', hF'⟩ := O.setG w4 gv2 (sortZ (T.given ++ l)) hB4 hS4 hkk ho2
   exact ⟨_, rfl, .inl ⟨rfl, hok, hxi.kp.trans (hkk.mono' (fun k e => e.elim (fun e => e ▸ O.fp.1) (fun e => O.fp.2.2.2.2 k e))), F', h', fun k hk => (hF' k hk).imp id (fun e => by omega)⟩⟩
end
end Go.Proofs.YtocnhaoilnojmaaGreat
namespace Go.Proofs.YtocnhaoilnojmaaGreat
open Go Go.RowKit
set_option linter.all false
structure Sub1 (z : Nat) (N : Nodes) (V : List Int) (rt : Bool) (no : Int) (lo : Bytes) (hi : Option Bytes) (h : Nat) (ns : List Int) (es : Es) : Prop where
 bn : Bn z N h no lo hi ns es
 nd : ns.Nodup
 out : ∀ x ∈ ns, x ∉ V
 cnd : ∀ n, N no = some n → if rt then n.keys ≠ [] else ¬ n.low z
def NoSub (z : Nat) (N : Nodes) (V : List Int) (rt : Bool) (no : Int) (lo : Bytes) (hi : Option Bytes) : Prop := ∀ h ns es, ¬ Sub1 z N V rt no lo hi h ns es
section
variable {z : Nat} {N : Nodes} {V : List Int} {rt : Bool} {no : Int} {lo : Bytes} {hi : Option Bytes} {n : Nd}
theorem bn_at {h : Nat} {ns : List Int} {es : Es} (s : Bn z N h no lo hi ns es) : ∃ n, N no = some n ∧ NdOk z n ∧ ∀ k ∈ n.keys, inB lo hi k := by
 cases h with
 | zero => exact s.elim
 | succ h => obtain ⟨n, h1, h2, h3, -⟩ := s; exact ⟨n, h1, h2, h3⟩
theorem nosub_none (h : N no = none) : NoSub z N V rt no lo hi := fun _ _ _ s => by
 obtain ⟨n, h1, -⟩ := bn_at s.bn; rw [h] at h1; cases h1
theorem nosub_met (h : no ∈ V) : NoSub z N V rt no lo hi := fun _ _ _ s => s.out no s.bn.mem h
theorem nosub_cnd (hn : N no = some n) (h : ¬ if rt then n.keys ≠ [] else ¬ n.low z) : NoSub z N V rt no lo hi := fun _ _ _ s => h (s.cnd n hn)
theorem nosub_key (hn : N no = some n) {k : Bytes} (hk : k ∈ n.keys) (h : ¬ inB lo hi k) : NoSub z N V rt no lo hi := fun _ _ _ s => by
 obtain ⟨m, h1, -, h3⟩ := bn_at s.bn
 rw [hn] at h1; cases h1
 exact h (h3 k hk)
theorem sub1_leaf (hz : sizeOk (z : Int)) {E : Es} (hn : N no = some (leafNd E)) (hok : NdOk z (leafNd E)) (hin : ∀ k ∈ (leafNd E).keys, inB lo hi k) (hv : no ∉ V) (hc : if rt then (leafNd E).keys ≠ [] else ¬ (leafNd E).low z) : Sub1 z N V rt no lo hi 1 [no] E := by
 obtain ⟨h1, h2⟩ := (leafNd_ok (by have := hz.2.1; omega)).1 hok
 refine ⟨Bn.of_leaf (by have := hz.2.1; omega) hn h1 h2 (fun x hx => hin x.1 (List.mem_map.2 ⟨x, hx, rfl⟩)), by simp, by simpa using hv, fun m hm => ?_⟩
 rw [hn] at hm; cases hm; exact hc
structure KidsU (z : Nat) (N : Nodes) (V : List Int) (no : Int) (lo : Bytes) (hi : Option Bytes) (c : Nat) (ps : List (Bytes × Nat)) (h : Nat) (L : List (List Int × Es)) : Prop where
 len : L.length ≤ ps.length + 1
 bn : ∀ (i : Nat) b l, (bnds lo hi c ps)[i]? = some b → L[i]? = some l → Bn z N h (b.1 : Int) b.2.1 b.2.2 l.1 l.2 ∧ Full z N b.1
 nd : (L.flatMap (·.1)).Nodup
 out : ∀ x ∈ L.flatMap (·.1), x ∉ no :: V
variable {c : Nat} {ps : List (Bytes × Nat)} {L : List (List Int × Es)} {h h' a : Nat} {l : Bytes} {u : Option Bytes} {ns : List Int} {es : Es}
theorem KidsU.nil (h : Nat) : KidsU z N V no lo hi c ps h [] := ⟨by simp, fun i b l _ hl => by simp at hl, by simp, by simp⟩
theorem KidsU.change (K : KidsU z N V no lo hi c ps h []) (h' : Nat) : KidsU z N V no lo hi c ps h' [] := KidsU.nil h'
theorem KidsU.step (K : KidsU z N V no lo hi c ps h L) (hb : (bnds lo hi c ps)[L.length]? = some (a, l, u)) (s : Sub1 z N (L.flatMap (·.1) ++ no :: V) false (a : Int) l u h ns es) : KidsU z N V no lo hi c ps h (L ++ [(ns, es)]) := by
 have hlt : L.length < ps.length + 1 := by
  have := (List.getElem?_eq_some_iff.1 hb).1
  rwa [bnds_length] at this
 refine ⟨by simp; omega, fun i b q hq1 hq2 => ?_, ?_, ?_⟩
 ·rcases Nat.lt_or_ge i L.length with hi' | hi'
  ·rw [List.getElem?_append_left hi'] at hq2
   exact K.bn i b q hq1 hq2
  ·have e : i = L.length := by
    have := (List.getElem?_eq_some_iff.1 hq2).1
    simp at this; omega
   subst e
   rw [hb] at hq1; cases hq1
   rw [List.getElem?_append_right (Nat.le_refl _)] at hq2
   simp at hq2; subst hq2
   exact ⟨s.bn, fun m hm => by have := s.cnd m hm; simpa using this⟩
 ·rw [List.flatMap_append, List.nodup_append]
  refine ⟨K.nd, by simpa using s.nd, fun x hx y hy e => ?_⟩
  subst e
  exact s.out x (by simpa using hy) (List.mem_append_left _ hx)
 ·intro x hx
  rw [List.flatMap_append] at hx
  rcases List.mem_append.1 hx with hx | hx
  ·exact K.out x hx
  ·exact fun hv => s.out x (by simpa using hx) (List.mem_append_right _ hv)
theorem KidsU.pre (hz : sizeOk (z : Int)) (hn : N no = some (innNd c ps)) (K : KidsU z N V no lo hi c ps h L) {h0 : Nat} {ns0 : List Int} {es0 : Es} (s : Sub1 z N V rt no lo hi h0 ns0 es0) :
  ∃ (h2 : Nat) (L' : List (List Int × Es)), L'.length = ps.length + 1 ∧ L'.take L.length = L ∧ (∀ (i : Nat) b l, (bnds lo hi c ps)[i]? = some b → L'[i]? = some l → Bn z N (h2 + 1) (b.1 : Int) b.2.1 b.2.2 l.1 l.2 ∧ Full z N b.1) ∧ (no :: L'.flatMap (·.1)).Nodup ∧ (∀ x ∈ L'.flatMap (·.1), x ∉ V) ∧ (0 < L.length → h = h2 + 1) := by
 have hpos := s.bn.pos
 rcases Nat.eq_or_lt_of_le hpos with e | e
 ·have hb := s.bn
  rw [← e] at hb
  obtain ⟨h1, -⟩ := hb.leaf (by have := hz.2.1; omega)
  rw [hn] at h1
  have := congrArg Nd.leaf (Option.some.inj h1)
  simp [leafNd, innNd] at this
 ·obtain ⟨h2, rfl⟩ : ∃ h2, h0 = h2 + 2 := ⟨h0 - 2, by omega⟩
  obtain ⟨c', ps', ns', hn', rfl, -, -, -, -, hfull, hC⟩ := s.bn.inner (by have := hz.1; omega)
  rw [hn] at hn'
  obtain ⟨rfl, rfl⟩ := innNd_inj (Option.some.inj hn')
  obtain ⟨L', hl', hS, rfl, rfl⟩ := (ch_iff hi).1 hC
  have hget : ∀ (j : Nat) q, L[j]? = some q → L'[j]? = some q ∧ h = h2 + 1 := fun j q hq => by
   have hj : j < L.length := (List.getElem?_eq_some_iff.1 hq).1
   have hlen := K.len
   obtain ⟨b, hb⟩ : ∃ b, (bnds lo hi c ps)[j]? = some b := ⟨_, List.getElem?_eq_getElem (by rw [bnds_length]; omega)⟩
   obtain ⟨q', hq'⟩ : ∃ q, L'[j]? = some q := ⟨_, List.getElem?_eq_getElem (by omega)⟩
   obtain ⟨e1, e2, e3⟩ := bn_det hz (K.bn j b q hb hq).1 (hS j b q' hb hq')
   rw [hq']
   exact ⟨by rw [Prod.ext e2.symm e3.symm], e1⟩
  refine ⟨h2, L', hl', ?_, fun i b l hb hl => ⟨hS i b l hb hl, ?_⟩, s.nd, fun x hx => s.out x (List.mem_cons_of_mem _ hx), fun h0 => ?_⟩
  ·apply List.ext_getElem?
   intro j
   rw [List.getElem?_take]
   split
   ·rename_i hj
    rw [List.getElem?_eq_getElem hj]
    exact (hget j _ (List.getElem?_eq_getElem hj)).1
   ·rw [List.getElem?_eq_none (by omega)]
  ·obtain ⟨a, l', u', h1, h2', -, -⟩ := bnds_get hi ps lo c i (by
    have := (List.getElem?_eq_some_iff.1 hb).1
    rw [bnds_length] at this; omega)
   rw [hb] at h1; cases h1
   exact hfull _ (List.mem_of_getElem? h2')
  ·exact (hget 0 _ (List.getElem?_eq_getElem h0)).2
theorem kidsU_no (hz : sizeOk (z : Int)) (hn : N no = some (innNd c ps)) (K : KidsU z N V no lo hi c ps h L) (hb : (bnds lo hi c ps)[L.length]? = some (a, l, u)) (hno : NoSub z N (L.flatMap (·.1) ++ no :: V) false (a : Int) l u) : NoSub z N V rt no lo hi := fun h0 ns0 es0 s => by
 obtain ⟨h2, L', hl', ht, hS, hnd, hv, -⟩ := K.pre hz hn s
 have hlt : L.length < L'.length := by
  have := (List.getElem?_eq_some_iff.1 hb).1
  rw [bnds_length] at this; omega
 have hq := List.getElem?_eq_getElem hlt
 obtain ⟨b1, b2⟩ := hS _ _ _ hb hq
 have hsp : L' = L ++ L'[L.length] :: L'.drop (L.length + 1) := by
  conv => lhs; rw [← List.take_append_drop L.length L', ht, List.drop_eq_getElem_cons hlt]
 rw [hsp, List.flatMap_append, List.flatMap_cons] at hnd
 obtain ⟨n1, n2⟩ := List.nodup_cons.1 hnd
 obtain ⟨n3, n4, n5⟩ := List.nodup_append.1 n2
 refine hno _ _ _ ⟨b1, (List.nodup_append.1 n4).1, fun x hx hx' => ?_, fun m hm => by simpa using b2 m hm⟩
 rcases List.mem_append.1 hx' with hx' | hx'
 ·exact n5 x hx' x (List.mem_append_left _ hx) rfl
 ·rcases List.mem_cons.1 hx' with rfl | hx'
  ·exact n1 (List.mem_append_right _ (List.mem_append_left _ hx))
  ·exact hv x (List.mem_flatMap.2 ⟨_, List.getElem_mem hlt, hx⟩) hx'
theorem kidsU_dep (hz : sizeOk (z : Int)) (hn : N no = some (innNd c ps)) (K : KidsU z N V no lo hi c ps h L) (h0 : 0 < L.length) (hb : (bnds lo hi c ps)[L.length]? = some (a, l, u)) {W : List Int} (s : Sub1 z N W false (a : Int) l u h' ns es) (hne : h' ≠ h) : NoSub z N V rt no lo hi := fun _ ns0 es0 s0 => by
 obtain ⟨h2, L', hl', ht, hS, -, -, hh⟩ := K.pre hz hn s0
 have hlt : L.length < L'.length := by
  have := (List.getElem?_eq_some_iff.1 hb).1
  rw [bnds_length] at this; omega
 obtain ⟨b1, b2⟩ := hS _ _ _ hb (List.getElem?_eq_getElem hlt)
 have := (bn_det hz s.bn b1).1
 have := hh h0
 omega
theorem kidsU_all (hz : sizeOk (z : Int)) (hn : N no = some (innNd c ps)) (hok : NdOk z (innNd c ps)) (hin : ∀ k ∈ (innNd c ps).keys, inB lo hi k) (K : KidsU z N V no lo hi c ps h L) (hl : L.length = ps.length + 1) (hv : no ∉ V) (hc : if rt then (innNd c ps).keys ≠ [] else ¬ (innNd c ps).low z) :
  Sub1 z N V rt no lo hi (h + 1) (no :: L.flatMap (·.1)) (L.flatMap (·.2)) := by
 obtain ⟨a1, a2, a3, a4⟩ := (innNd_ok (by have := hz.1; omega)).1 hok
 obtain ⟨b0, hb0⟩ : ∃ b, (bnds lo hi c ps)[0]? = some b := ⟨_, List.getElem?_eq_getElem (by rw [bnds_length]; omega)⟩
 have hp := (K.bn 0 b0 _ hb0 (List.getElem?_eq_getElem (by omega))).1.pos
 obtain ⟨h2, rfl⟩ : ∃ h2, h = h2 + 1 := ⟨h - 1, by omega⟩
 have hfull : ∀ d ∈ c :: ps.map (·.2), Full z N d := fun d hd => by
  obtain ⟨i, hi', e⟩ := List.getElem_of_mem hd
  have hil : i ≤ ps.length := by simp at hi'; omega
  obtain ⟨a, l', u', h1, h2', -, -⟩ := bnds_get hi ps lo c i hil
  have := (K.bn i _ _ h1 (List.getElem?_eq_getElem (by omega))).2
  rw [List.getElem?_eq_getElem hi', e] at h2'
  cases h2'
  exact this
 refine ⟨Bn.of_inner (by have := hz.1; omega) hn a1 a2 ⟨a3, a4⟩ hin hfull ((ch_iff hi).2 ⟨L, hl, fun i b l hb hl => (K.bn i b l hb hl).1, rfl, rfl⟩), ?_, fun x hx => ?_, fun m hm => ?_⟩
 ·exact List.nodup_cons.2 ⟨fun hx => K.out no hx (List.mem_cons_self ..), K.nd⟩
 ·rcases List.mem_cons.1 hx with rfl | hx
  ·exact hv
  ·exact fun h => K.out x hx (List.mem_cons_of_mem _ h)
 ·rw [hn] at hm; cases hm; exact hc
end
theorem bn_height {z : Nat} {N : Nodes} (hz : sizeOk (z : Int)) : ∀ {h : Nat} {no : Int} {lo : Bytes} {hi : Option Bytes} {ns : List Int} {es : Es}, Bn z N h no lo hi ns es → h ≤ ns.length
 | 0, _, _, _, _, _, s => s.elim
 | 1, _, _, _, _, _, s => by
   obtain ⟨-, rfl, -⟩ := s.leaf (by have := hz.2.1; omega)
   simp
 | h + 2, _, _, hi, _, _, s => by
   obtain ⟨c, ps, n1, -, rfl, -, -, -, -, -, hC⟩ := s.inner (by have := hz.1; omega)
   obtain ⟨L, hl, hS, rfl, rfl⟩ := (ch_iff hi).1 hC
   have hq : 0 < L.length := by omega
   have := bn_height hz (hS 0 _ _ (List.getElem?_eq_getElem (by rw [bnds_length]; omega)) (List.getElem?_eq_getElem hq))
   obtain ⟨x, L', rfl⟩ : ∃ x L', L = x :: L' := by cases L with
    | nil => simp at hq
    | cons x L' => exact ⟨x, L', rfl⟩
   simp at this ⊢
   omega
end Go.Proofs.YtocnhaoilnojmaaGreat
namespace Go.Proofs.YtocnhaoilnojmaaGreat
open Go Go.RowKit
set_option linter.all false
set_option maxRecDepth 100000
theorem bn_okAll {z : Nat} {N : Nodes} (hz : sizeOk (z : Int)) : ∀ {h : Nat} {no : Int} {lo : Bytes} {hi : Option Bytes} {ns : List Int} {es : Es}, Bn z N h no lo hi ns es → ∀ x ∈ ns, ∃ n, N x = some n ∧ NdOk z n
 | 0, _, _, _, _, _, s, _, _ => s.elim
 | 1, _, _, _, _, _, s, x, hx => by
   obtain ⟨h1, rfl, -⟩ := s.leaf (by have := hz.2.1; omega)
   obtain ⟨n, h2, h3, -⟩ := bn_at s
   simp at hx; subst hx
   exact ⟨n, h2, h3⟩
 | h + 2, _, _, hi, _, _, s, x, hx => by
   obtain ⟨n, h2, h3, -⟩ := bn_at s
   obtain ⟨c, ps, n1, -, rfl, -, -, -, -, -, hC⟩ := s.inner (by have := hz.1; omega)
   obtain ⟨L, hl, hS, rfl, rfl⟩ := (ch_iff hi).1 hC
   rcases List.mem_cons.1 hx with rfl | hx
   ·exact ⟨n, h2, h3⟩
   ·obtain ⟨l, hl', hxl⟩ := List.mem_flatMap.1 hx
    obtain ⟨i, hi', e⟩ := List.getElem_of_mem hl'
    exact bn_okAll hz (hS i _ l (List.getElem?_eq_getElem (by rw [bnds_length]; omega)) (by rw [List.getElem?_eq_getElem hi', e])) x hxl
theorem Inv.nodup {T : Tr} {H : Nat} {ns : List Int} {es : Es} (h : Inv T H ns es) : ns.Nodup := by
 rcases h.std with ⟨-, -, rfl, -⟩ | ⟨-, -, -, h, -⟩
 ·simp
 ·exact h
theorem Inv.mem {T : Tr} {H : Nat} {ns : List Int} {es : Es} (h : Inv T H ns es) (x : Int) : T.nodes x ≠ none ↔ x ∈ ns := by
 refine ⟨h.all x, fun hx => ?_⟩
 rcases h.std with ⟨-, -, rfl, -⟩ | ⟨-, -, hB, -, -⟩
 ·cases hx
 ·exact Bn.some hB x hx
theorem Inv.ok {T : Tr} {H : Nat} {ns : List Int} {es : Es} (h : Inv T H ns es) (hz : sizeOk (T.size : Int)) {x : Int} {n : Nd} (hn : T.nodes x = some n) : NdOk T.size n := by
 have hx := (h.mem x).1 (by rw [hn]; simp)
 rcases h.std with ⟨-, -, rfl, -⟩ | ⟨-, -, hB, -, -⟩
 ·cases hx
 ·obtain ⟨m, h1, h2⟩ := bn_okAll hz hB x hx
  rw [hn] at h1; cases h1; exact h2
section
variable {P : Program} {e : Env} {d : Option Nat} {ty : TypeId} {pos : String} {aft : Array Edge} {g : Option (Nat × Bool)} {x : Operand} {w : World} {κ : Type} [DecidableEq κ] {K : κ → Value} {r m : Nat} {left : List (κ × Value)}
theorem pnx (hx : look e x = some (ptr r 0)) (hi : RgI K w r m left) : Yp P e ⟨d, .next x false, ty, pos, aft, g⟩ w fun v w' => (left = [] ∧ v = .tuple #[.bool false] ∧ w' = w) ∨ ∃ k u l1 l2, left = l1 ++ (k, u) :: l2 ∧ v = .tuple #[.bool true, K k, u] ∧ RgE K w' r m (k, u) (l1 ++ l2) ∧ Kp (fun i => i = r) w w' := by
 rcases ynx hx hi with ⟨h, hy⟩ | ⟨⟨k, u⟩, l1, l2, w', h, hy, h1, h2⟩
 ·exact ⟨_, _, hy, .inl ⟨h, rfl, rfl⟩⟩
 ·exact ⟨_, _, hy, .inr ⟨k, u, l1, l2, h, rfl, h1, h2⟩⟩
end
theorem RgE.i {κ : Type} [DecidableEq κ] {K : κ → Value} {w : World} {r m : Nat} {p : κ × Value} {left : List (κ × Value)} (h : RgE K w r m p left) : RgI K w r m left := h.1
def PgSl (w : World) (v : Value) (l : Pgs) : Prop := Sl w v 55 2 l.length (pgC l)
section
variable {w : World} {p : Nat} {T : Tr} {nb : Int → Nat} {F : Nat → Prop}
theorem keys_iff {T : Tr} {nb : Int → Nat} {kn : List (Int × Value)} (hg : ∀ no, getL kn no = (T.nodes no).map fun _ => ptr (nb no) 0) (x : Int) : x ∈ kn.map (·.1) ↔ T.nodes x ≠ none := by
 constructor
 ·intro hx e
  have := hg x
  rw [e] at this
  exact getL_notin this hx
 ·intro hx
  cases e : T.nodes x with
  | none => exact absurd e hx
  | some n =>
    have := hg x
    rw [e] at this
    exact List.mem_map.2 ⟨_, getL_mem this, rfl⟩
set_option maxHeartbeats 4000000 in
theorem told_ret (h : TreeA w p T nb F) {H : Nat} {ns : List Int} {es : Es} (hI : Inv T H ns es) (hns : ns.length ≤ 1000000) {g : Nat} {caps : List Value} {q : Int → Bool} (hcf : CF Tryz.prog g) (hw : ∀ w' x, Ext w w' → Ret Tryz.prog g (I x :: caps) w' fun v w'' => v = .bool (q x) ∧ w'' = w') :
  Ret Tryz.prog 55 [ptr p 0, .func (.func g) #[] caps.toArray] w fun v w' => Ext w w' ∧ PgSl w' v (pgs T.size T.nodes ns q) ∧ ∀ g, v.ownBlock = some g → w.heap.size ≤ g := by
 have hz : sizeOk (T.size : Int) := size_ok h
 obtain ⟨mN, mC, mO, gv, kn, kc, ko, O⟩ := h.opn
 have hlt := h.lt
 have hki := keys_iff O.ng
 refine ret_of_run (e := [(0, _), (1, _)]) Tryz.func55 rfl Tryz.ntmps55 rfl rfl (qN rfl (qa rfl (qM rfl (qa rfl (rEnd (run_seq (qN rfl (qm rfl (qV (ynk rfl) (qV (yfa fl74_5 rfl) (qV (yld U71 rfl rfl O.blk rfl) (rValP rfl rfl (prg U71 rfl O.nm) ?_))))))))))))
 rintro _ w1 ⟨r, rfl, hr, hx1, hg1⟩
 refine rEnd (run_block (run_loop (α := List (Int × Value) × Value) ((kn, .slice none 0 0)) (fun x => [(0, ptr p 0), (1, .func (.func g) #[] caps.toArray), (14, ptr r 0), (5, x.2)]) (fun x w' => Ext w w' ∧ RgI KZ w' r mN x.1 ∧ (∀ y ∈ x.1, y ∈ kn) ∧ (x.1.map (·.1)).Nodup ∧ ∃ l : Pgs, Sl w' x.2 55 2 l.length (pgC l) ∧ (∀ g, x.2.ownBlock = some g → w.heap.size ≤ g ∧ g ≠ r) ∧ (l.map (·.1)).Nodup ∧ (∀ y ∈ l, y.2 = encAt T.size T.nodes y.1) ∧ ∀ z, z ∈ l.map (·.1) ↔ (z ∈ ns ∧ q z = true ∧ z ∉ x.1.map (·.1))) (fun x => x.1.length) (by repeat (first | exact Sub.nil | refine Sub.cons rfl ?_)) ?hI ?hround))
 case hI =>
  refine ⟨hx1, hg1, fun y hy => hy, O.nm.nd, [], Sl.nil _ _ _, fun g hg => by simp [Value.ownBlock] at hg, by simp, by simp, fun z => ?_⟩
  simp only [List.map_nil, List.not_mem_nil, false_iff]
  rintro ⟨h1, -, h3⟩
  exact h3 ((hki z).2 ((hI.mem z).2 h1))
 case hround =>
  rintro ⟨left, lv⟩ wi ⟨hxi, hRg, hsub, hnd, l, hSl, hown, hln, hlt2, hmem⟩ ih
  dsimp only at hRg hsub hnd hSl hown hmem
  have hll : l.length ≤ ns.length := by
   have := List.Nodup.length_le_of_subset hln (l₂ := ns) (fun z hz => ((hmem z).1 hz).1)
   simpa using this
  have hzi := hxi.size
  try dsimp only
  refine qN rfl (rValP rfl rfl (pnx rfl hRg) ?_)
  rintro v2 w2 hv
  rcases hv with ⟨rfl, rfl, rfl⟩ | ⟨x, u, l1, l2, rfl, rfl, hRe, hk2⟩
  ·refine qV (yex rfl rfl) (rEnd (run_seq (run_false rfl (run_exit rfl (qN rfl (qm rfl (rCall rfl rfl (yc (args := [.tmp 40, .func 91]) cf90 rfl) (sortP_ret hSl (by omega) (fun y hy => by have := hI.num y.1 ((hI.mem _).2 ((hmem y.1).1 (List.mem_map.2 ⟨y, hy, rfl⟩)).1); omega)) ?_)))))))
   rintro _ w3 ⟨rfl, hk3, l', hp, hso, hS3⟩
   refine qM rfl (qm rfl (qa rfl (rEnd (run_ret Tryz.func55 rfl ?_))))
   have hmem' : ∀ z, z ∈ l'.map (·.1) ↔ z ∈ l.map (·.1) := fun z => (hp.map _).mem_iff
   have e : l' = pgs T.size T.nodes ns q := pgs_of hI.nodup hso ((hp.map _).nodup_iff.2 hln) (fun z => by rw [hmem' z, hmem z]; simp) (fun y hy => hlt2 y (hp.mem_iff.1 hy))
   rw [e] at hS3
   exact ⟨_, rfl, hxi.trans_new hk3 (fun i hi => (hown i hi).1), hS3, fun g hg => (hown g hg).1⟩
  ·have hxin : (x, u) ∈ kn := hsub _ (by simp)
   have hgx := getL_of_mem O.nm.nd hxin
   rw [O.ng x] at hgx
   obtain ⟨n, hn⟩ : ∃ n, T.nodes x = some n := by
    cases e : T.nodes x with
    | none => rw [e] at hgx; cases hgx
    | some n => exact ⟨n, rfl⟩
   rw [hn] at hgx
   have hu : u = ptr (nb x) 0 := (Option.some.inj hgx).symm
   subst hu
   have hx2 : Ext w w2 := hxi.trans_new hk2 (fun i hi => by omega)
   have h2 := h.ext hx2
   obtain ⟨pl, hpq, hM, -, -⟩ := h2.nodeF hn
   obtain ⟨qb, qk, qv, qc⟩ := pl
   dsimp only at hpq
   subst hpq
   have hBn := hM.blk
   dsimp only at hBn
   have hBO := hx2.blk O.blk
   have hS2 := hSl.kp hk2 (fun g hg e => (hown g hg).2 e)
   have hnx : x ∉ (l1 ++ l2).map (·.1) := fun hx => by
    rw [List.map_append, List.map_cons] at hnd
    have h3 := List.nodup_append.1 hnd
    rw [List.map_append] at hx
    rcases List.mem_append.1 hx with hx | hx
    ·exact h3.2.2 x hx x (List.mem_cons_self ..) rfl
    ·exact (List.nodup_cons.1 h3.2.1).1 hx
   have hnd2 : ((l1 ++ l2).map (·.1)).Nodup := by
    rw [List.map_append, List.map_cons] at hnd
    rw [List.map_append]
    have h3 := List.nodup_append.1 hnd
    exact List.nodup_append.2 ⟨h3.1, (List.nodup_cons.1 h3.2.1).2, fun a ha b hb => h3.2.2 a ha b (List.mem_cons_of_mem _ hb)⟩
   have hmm : ∀ z, z ∈ (l1 ++ (x, ptr (nb x) 0) :: l2).map (·.1) ↔ z = x ∨ z ∈ (l1 ++ l2).map (·.1) := fun z => by
    simp only [List.map_append, List.map_cons, List.mem_append, List.mem_cons]
    constructor
    ·rintro (h | h | h)
     ·exact .inr (.inl h)
     ·exact .inl h
     ·exact .inr (.inr h)
    ·rintro (h | h | h)
     ·exact .inr (.inl h)
     ·exact .inl h
     ·exact .inr (.inr h)
   have hxns : x ∈ ns := (hI.mem x).1 (by rw [hn]; simp)
   have hsub2 : ∀ y ∈ l1 ++ l2, y ∈ kn := fun y hy => hsub y (by
    rcases List.mem_append.1 hy with hy | hy
    ·exact List.mem_append_left _ hy
    ·exact List.mem_append_right _ (List.mem_cons_of_mem _ hy))
   have hlen2 : (l1 ++ l2).length < (l1 ++ (x, ptr (nb x) 0) :: l2).length := by simp
   have hz2 := hx2.size
   refine qV (yex rfl rfl) (rEnd (run_seq (run_true rfl (run_skip (run_block (qN rfl (qV (yen rfl hRe) ?_)))))))
   dsimp only
   refine qV (yex rfl rfl) (qV (yex rfl rfl) (qa rfl (qa rfl (qM rfl (qm rfl (qm rfl (rCall rfl rfl (ycv' (args := [.tmp 21]) hcf rfl rfl) (hw w2 x hx2) ?_)))))))
   rintro _ w2 ⟨rfl, rfl⟩
   refine rEnd (run_cond rfl (fun hq => ?_) (fun hq => ?_))
   ·have hg2 : Ext w2 w2.drew := Ext.drew0 w2
    refine run_seq (run_draw (fun w' => Ext w2 w') (by kernel_rfl) rfl (qt 0 rfl (ymv rfl) hg2 (qt 1 rfl (ynk rfl) hg2 (qT 2 rfl (fun _ hS => (by first | exact yldA U84 rfl ti84 rfl (Blk.cells (n := 4) (hS.blk hBn) (news := [_, _, _, _]) rfl) rfl | exact yldA U84 rfl ti84 rfl (Blk.cells (n := 4) (hS.blk hBO) (news := [_, _, _, _]) rfl) rfl)) hg2 ?_))))
    refine qt 3 rfl (ymv rfl) hg2 (qt 4 rfl (ynk rfl) hg2 (qt 5 rfl (yfa fl74_0 rfl) hg2 (qT 6 rfl (fun _ hS => (by first | exact yld U3 rfl rfl (hS.blk hBn) rfl | exact yld U3 rfl rfl (hS.blk hBO) rfl)) hg2 ?_)))
    refine qO 7 (nCall (i := 7) rfl rfl rfl (yc (args := [.tmp 26, .tmp 30]) cf83 rfl) (encode_ret (n := n) (hM.r.ext hg2) hM.bd hz) ?_)
    rintro v3 w3 ⟨hx3, hv3⟩
    refine ⟨hg2.trans hx3, ?_⟩
    obtain rfl : v3 = .tuple #[S (enc T.size n), I 0] := by
     rcases hv3 with ⟨-, e⟩ | ⟨e, -⟩
     ·exact e
     ·exact absurd (hI.ok hz hn) e
    have hx23 := hg2.trans hx3
    refine qt 8 rfl (ymv rfl) (hg2.trans hx3) (qt 9 rfl (yex rfl rfl) (hg2.trans hx3) (qt 10 rfl (yex rfl rfl) (hg2.trans hx3) (qt 11 rfl (yas rfl) (hg2.trans hx3) (qt 12 rfl (yas rfl) (hg2.trans hx3) (qE (run_reg rfl (qm rfl (qm rfl (qm rfl (qV (ybd (parts := [(0, .tmp 35), (1, .tmp 36)]) (cs := [_, _]) ti55 rfl sp55 rfl rfl) (rValP rfl rfl (pbs (parts := [(0, .tmp 37)]) (cs := [_, _]) (zs := [Value.int .i64 0, Value.string ⟨#[]⟩]) U52 ti55 rfl (by kernel_rfl) rfl rfl rfl (by decide)) ?_)))))))))))
    rintro _ w4 ⟨b4, rfl, ⟨hb4, hx4, hB4⟩, hS4⟩
    have hml : maxLen = 9223372036854775807 := rfl
    refine rValP rfl rfl (pap U52 ti55 rfl (by decide) rfl rfl ((hS2.ext hx23).ext hx4) hS4.rd (by intro c hc; simp at hc; rcases hc with rfl | rfl <;> rfl) (by omega) (by omega)) ?_
    rintro lv5 w5 ⟨hS5, hk5, ho5, -⟩
    refine qa rfl (rEnd (run_inBlock ?_))
    have hz4 := (hx23.trans hx4).size
    have hrl : r < w2.heap.size := by
     obtain ⟨es0, c0, s0, c1, si0, -, hr0, -⟩ := hRe.i
     exact lt_of_heap hr0
    have hx25 : Ext w w4 := (hx2.trans hx23).trans hx4
    refine (ih (l1 ++ l2, lv5) w5 ⟨hx25.trans_new hk5 (fun i hi => (hown i hi).1), ?_, hsub2, hnd2, l ++ [(x, enc T.size n)], ?_, fun g hg => ?_, ?_, fun y hy => ?_, fun z => ?_⟩ hlen2).qb
    ·refine ((hRe.i.kp (hx23.trans hx4) id id)).kp hk5 (fun e => (hown r e).2 rfl) (fun e => ?_)
     have := (hown mN e).1
     have := hlt mN O.fp.2.1
     omega
    ·rw [pgC_app, List.length_append]; exact hS5
    ·rcases ho5 g hg with e | e
     ·exact hown g e
     ·omega
    ·rw [List.map_append]
     exact List.nodup_append.2 ⟨hln, by simp, fun a ha b hb e => by
      simp at hb; subst hb; subst e
      exact ((hmem a).1 ha).2.2 ((hmm a).2 (.inl rfl))⟩
    ·rcases List.mem_append.1 hy with hy | hy
     ·exact hlt2 y hy
     ·simp at hy; subst hy
      simp only [encAt, hn]
    ·rw [List.map_append, List.mem_append, hmem z, hmm z]
     simp only [List.map_cons, List.map_nil, List.mem_singleton]
     constructor
     ·rintro (⟨a, b, c⟩ | rfl)
      ·exact ⟨a, b, fun e => c (.inr e)⟩
      ·exact ⟨hxns, hq, hnx⟩
     ·rintro ⟨a, b, c⟩
      by_cases e : z = x
      ·exact .inr e
      ·exact .inl ⟨a, b, fun hh => hh.elim e c⟩
   ·refine run_skip (run_inBlock ((ih (l1 ++ l2, lv) w2 ⟨hx2, hRe.i, hsub2, hnd2, l, hS2, hown, hln, hlt2, fun z => ?_⟩ hlen2).qb))
    rw [hmem z, hmm z]
    constructor
    ·rintro ⟨a, b, c⟩
     exact ⟨a, b, fun e => c (.inr e)⟩
    ·rintro ⟨a, b, c⟩
     exact ⟨a, b, fun hh => hh.elim (fun e => by rw [e, hq] at b; cases b) c⟩
theorem pages1 (w : World) (x : Int) : Ret Tryz.prog 56 [I x] w fun v w' => v = .bool true ∧ w' = w := by
 refine ret_of_run (e := [(0, _)]) Tryz.func56 rfl Tryz.ntmps56 rfl rfl (qN rfl (qa rfl (qM rfl (qa rfl (rEnd (run_ret Tryz.func56 rfl ?_))))))
 exact ⟨_, rfl, rfl, rfl⟩
theorem pages_ret (h : TreeA w p T nb F) {H : Nat} {ns : List Int} {es : Es} (hI : Inv T H ns es) (hns : ns.length ≤ 1000000) :
  Ret Tryz.prog 22 [ptr p 0] w fun v w' => Ext w w' ∧ PgSl w' v (pgs T.size T.nodes ns fun _ => true) ∧ ∀ g, v.ownBlock = some g → w.heap.size ≤ g := by
 refine ret_of_run (e := [(0, _)]) Tryz.func22 rfl Tryz.ntmps22 rfl rfl (qN rfl (qa rfl (rEnd (run_seq (qN rfl (qm rfl (qV (yeqpN U24 rfl rfl) (rEnd (run_false rfl (run_skip (qN rfl (qm rfl (rCall rfl rfl (yc (args := [.tmp 5, .func 56]) cf55 rfl) (told_ret (caps := []) (q := fun _ => true) h hI hns cf56 (fun w' x _ => pages1 w' x)) ?_)))))))))))))
 rintro v w1 ⟨hx1, hS1, ho1⟩
 refine qa rfl (rEnd (run_ret Tryz.func22 rfl ?_))
 exact ⟨_, rfl, hx1, hS1, ho1⟩
theorem changed1 {w : World} {bt : Nat} {mN mC mO : Nat} {gv : Value} {kc : List (Int × Value)} (hB : Blk w bt [ptr p 0] 24) (hT : Blk w p (trCs T mN mC mO gv) 74) (hm : MapB KZ w mC kc) (hg : ∀ no, getL kc no = flag (T.changed no)) (x : Int) :
  Ret Tryz.prog 63 [I x, ptr bt 0] w fun v w' => v = .bool (T.changed x) ∧ w' = w := by
 refine ret_of_run (e := [(0, _), (1, _)]) Tryz.func63 rfl Tryz.ntmps63 rfl rfl (qN rfl (qa rfl (qM rfl (qV ((by first | exact yld U24 rfl rfl hB rfl | exact yld U24 rfl rfl hT rfl)) ?_))))
 refine qV (ynk rfl) (qV (yfa fl74_7 rfl) (qV ((by first | exact yld U72 rfl rfl hB rfl | exact yld U72 rfl rfl hT rfl)) ?_))
 refine qm rfl (qV (ylk (k := x) (K := KZ) U72 (ky_int U3) ti3 rfl rfl hm.l) ?_)
 rw [show (getL kc x).getD (I 0) = I (if T.changed x then 1 else 0) by rw [hg x]; cases T.changed x <;> rfl]
 refine qV (ygt rfl rfl) (qa rfl (rEnd (run_ret Tryz.func63 rfl ?_)))
 exact ⟨_, rfl, by cases T.changed x <;> rfl, rfl⟩
theorem changed_ret (h : TreeA w p T nb F) {H : Nat} {ns : List Int} {es : Es} (hI : Inv T H ns es) (hns : ns.length ≤ 1000000) :
  Ret Tryz.prog 31 [ptr p 0] w fun v w' => Ext w w' ∧ PgSl w' v (pgs T.size T.nodes ns T.changed) ∧ ∀ g, v.ownBlock = some g → w.heap.size ≤ g := by
 obtain ⟨mN, mC, mO, gv, kn, kc, ko, O⟩ := h.opn
 refine ret_of_run (e := [(0, _)]) Tryz.func31 rfl Tryz.ntmps31 rfl rfl (qN rfl (rValP rfl rfl (pbx rfl rfl) ?_))
 rintro _ w1 ⟨bt, rfl, hbt, hx1, hB1⟩
 refine qa rfl (rEnd (run_seq (qN rfl (qV (yld U24 rfl rfl hB1 rfl) (qV (yeqpN U24 rfl rfl) (rEnd (run_false rfl (run_skip (qN rfl (qV (yld U24 rfl rfl hB1 rfl) (qV (ymf (first := []) (caps := [.tmp 1]) rfl rfl) ?_)))))))))))
 have hz1 := hx1.size
 refine rCall rfl rfl (yc (args := [.tmp 5, .tmp 6]) cf55 rfl) (told_ret (caps := [ptr bt 0]) (q := T.changed) (h.ext hx1) hI hns cf63 (fun w' x hx => changed1 (hx.blk hB1) ((hx1.trans hx).blk O.blk) (O.cm.ext (hx1.trans hx)) O.cg x)) ?_
 rintro v w2 ⟨hx2, hS2, ho2⟩
 refine qa rfl (rEnd (run_ret Tryz.func31 rfl ?_))
 exact ⟨_, rfl, hx1.trans hx2, hS2, fun g hg => by have := ho2 g hg; omega⟩
set_option maxHeartbeats 4000000 in
theorem freed_ret (h : TreeA w p T nb F) {os : List Int} (hos : ∀ x, T.old x = true → x ∈ os) (hol : os.length ≤ 1000000) :
  Ret Tryz.prog 28 [ptr p 0] w fun v w' => Ext w w' ∧ ∃ fl : List Int, fl.Pairwise (· < ·) ∧ (∀ x, x ∈ fl ↔ T.old x = true ∧ T.nodes x = none) ∧ fl.length ≤ os.length ∧ Sl w' v 3 1 fl.length (fl.map I) ∧ ∀ g, v.ownBlock = some g → w.heap.size ≤ g := by
 obtain ⟨mN, mC, mO, gv, kn, kc, ko, O⟩ := h.opn
 have hlt := h.lt
 have hko : ∀ x, x ∈ ko.map (·.1) ↔ T.old x = true := fun x => by
  constructor
  ·intro hx
   cases e : T.old x with
   | true => rfl
   | false =>
     have := O.og x
     rw [e] at this
     exact absurd hx (getL_notin this)
  ·intro hx
   have := O.og x
   rw [hx] at this
   exact List.mem_map.2 ⟨_, getL_mem this, rfl⟩
 refine ret_of_run (e := [(0, _)]) Tryz.func28 rfl Tryz.ntmps28 rfl rfl (qN rfl (qa rfl (rEnd (run_seq (qN rfl (qm rfl (qV (yeqpN U24 rfl rfl) (rEnd (run_false rfl (run_skip (qN rfl (qa rfl (rEnd ?_)))))))))))))
 refine run_seq (qN rfl (qm rfl (qV (ynk rfl) (qV (yfa fl74_8 rfl) (qV (yld U72 rfl rfl O.blk rfl) (rValP rfl rfl (prg U72 rfl O.om) ?_))))))
 rintro _ w1 ⟨r, rfl, hr, hx1, hg1⟩
 refine rEnd (run_block (run_loop (α := List (Int × Value) × Value) ((ko, .slice none 0 0)) (fun x => [(0, ptr p 0), (11, ptr r 0), (3, x.2)]) (fun x w' => Ext w w' ∧ RgI KZ w' r mO x.1 ∧ (∀ y ∈ x.1, y ∈ ko) ∧ (x.1.map (·.1)).Nodup ∧ ∃ l : List Int, Sl w' x.2 3 1 l.length (l.map I) ∧ (∀ g, x.2.ownBlock = some g → w.heap.size ≤ g ∧ g ≠ r) ∧ l.Nodup ∧ ∀ z, z ∈ l ↔ (T.old z = true ∧ T.nodes z = none ∧ z ∉ x.1.map (·.1))) (fun x => x.1.length) (by repeat (first | exact Sub.nil | refine Sub.cons rfl ?_)) ?hI ?hround))
 case hI =>
  refine ⟨hx1, hg1, fun y hy => hy, O.om.nd, [], Sl.nil _ _ _, fun g hg => by simp [Value.ownBlock] at hg, by simp, fun z => ?_⟩
  simp only [List.not_mem_nil, false_iff]
  rintro ⟨h1, -, h3⟩
  exact h3 ((hko z).2 h1)
 case hround =>
  rintro ⟨left, lv⟩ wi ⟨hxi, hRg, hsub, hnd, l, hSl, hown, hln, hmem⟩ ih
  dsimp only at hRg hsub hnd hSl hown hmem
  have hll : l.length ≤ os.length := List.Nodup.length_le_of_subset hln (fun z hz => hos z ((hmem z).1 hz).1)
  have hzi := hxi.size
  try dsimp only
  refine qN rfl (rValP rfl rfl (pnx rfl hRg) ?_)
  rintro v2 w2 hv
  rcases hv with ⟨rfl, rfl, rfl⟩ | ⟨x, u, l1, l2, rfl, rfl, hRe, hk2⟩
  ·refine qV (yex rfl rfl) (rEnd (run_seq (run_false rfl (run_exit rfl (qN rfl (qm rfl (rCall rfl rfl (yc (args := [.tmp 27]) cf62 rfl) (sortZ_ret hSl (by omega)) ?_)))))))
   rintro _ w3 ⟨rfl, hS3, hk3⟩
   refine qM rfl (qm rfl (qa rfl (rEnd (run_ret Tryz.func28 rfl ?_))))
   exact ⟨_, rfl, hxi.trans_new hk3 (fun i hi => (hown i hi).1), sortZ l, sortZ_lt hln, fun x => by rw [sortZ_mem, hmem x]; simp, by rw [sortZ_len]; exact hll, hS3, fun g hg => (hown g hg).1⟩
  ·have hnx : x ∉ (l1 ++ l2).map (·.1) := fun hx => by
    rw [List.map_append, List.map_cons] at hnd
    have h3 := List.nodup_append.1 hnd
    rw [List.map_append] at hx
    rcases List.mem_append.1 hx with hx | hx
    ·exact h3.2.2 x hx x (List.mem_cons_self ..) rfl
    ·exact (List.nodup_cons.1 h3.2.1).1 hx
   have hnd2 : ((l1 ++ l2).map (·.1)).Nodup := by
    rw [List.map_append, List.map_cons] at hnd
    rw [List.map_append]
    have h3 := List.nodup_append.1 hnd
    exact List.nodup_append.2 ⟨h3.1, (List.nodup_cons.1 h3.2.1).2, fun a ha b hb => h3.2.2 a ha b (List.mem_cons_of_mem _ hb)⟩
   have hmm : ∀ z, z ∈ (l1 ++ (x, u) :: l2).map (·.1) ↔ z = x ∨ z ∈ (l1 ++ l2).map (·.1) := fun z => by
    simp only [List.map_append, List.map_cons, List.mem_append, List.mem_cons]
    constructor
    ·rintro (h | h | h)
     ·exact .inr (.inl h)
     ·exact .inl h
     ·exact .inr (.inr h)
    ·rintro (h | h | h)
     ·exact .inr (.inl h)
     ·exact .inl h
     ·exact .inr (.inr h)
   have hsub2 : ∀ y ∈ l1 ++ l2, y ∈ ko := fun y hy => hsub y (by
    rcases List.mem_append.1 hy with hy | hy
    ·exact List.mem_append_left _ hy
    ·exact List.mem_append_right _ (List.mem_cons_of_mem _ hy))
   have hlen2 : (l1 ++ l2).length < (l1 ++ (x, u) :: l2).length := by simp
   have hxo : T.old x = true := (hko x).1 (List.mem_map.2 ⟨_, hsub (x, u) (by simp), rfl⟩)
   have hx2 : Ext w w2 := hxi.trans_new hk2 (fun i hi => by omega)
   have hBO := hx2.blk O.blk
   have hMN := O.nm.ext hx2
   have hS2 := hSl.kp hk2 (fun g hg e => (hown g hg).2 e)
   have hz2 := hx2.size
   refine qV (yex rfl rfl) (rEnd (run_seq (run_true rfl (run_skip (run_block (qN rfl (qV (yen rfl hRe) ?_)))))))
   dsimp only
   refine qV (yex rfl rfl) (qa rfl (qM rfl (qm rfl (qV (ynk rfl) (qV (yfa fl74_5 rfl) (qV (yld U71 rfl rfl hBO rfl) (qm rfl (qV (ylk (k := x) (K := KZ) U71 (ky_int U3) ti81 rfl rfl hMN.l) ?_))))))))
   rw [show (getL kn x).getD (.pointer none) = (match T.nodes x with | none => .pointer none | some _ => ptr (nb x) 0) by rw [O.ng x]; cases T.nodes x <;> rfl]
   cases hnx0 : T.nodes x with
   | some n0 =>
     refine qV (yeqpN U81 rfl rfl) (rEnd (run_false rfl (run_skip (run_inBlock ((ih (l1 ++ l2, lv) w2 ⟨hx2, hRe.i, hsub2, hnd2, l, hS2, hown, hln, fun z => ?_⟩ hlen2).qb)))))
     rw [hmem z, hmm z]
     constructor
     ·rintro ⟨a, b, c⟩
      exact ⟨a, b, fun e => c (.inr e)⟩
     ·rintro ⟨a, b, c⟩
      exact ⟨a, b, fun hh => hh.elim (fun e => by rw [e, hnx0] at b; cases b) c⟩
   | none =>
     refine qV (yeqpN U81 rfl rfl) (rEnd (run_true rfl (run_reg rfl (qm rfl (qm rfl (rValP rfl rfl (pbs (parts := [(0, .tmp 24)]) (cs := [_]) (zs := [Value.int .i64 0]) U34 ti3 rfl (by kernel_rfl) rfl rfl rfl (by decide)) ?_))))))
     rintro _ w4 ⟨b4, rfl, ⟨hb4, hx4, hB4⟩, hS4⟩
     have hml : maxLen = 9223372036854775807 := rfl
     refine rValP rfl rfl (pap U34 ti3 rfl (by decide) rfl rfl (hS2.ext hx4) hS4.rd (by intro c hc; simp at hc; subst hc; rfl) (by omega) (by omega)) ?_
     rintro lv5 w5 ⟨hS5, hk5, ho5, -⟩
     refine qa rfl (rEnd (run_inBlock ?_))
     have hz4 := hx4.size
     have hrl : r < w2.heap.size := by
      obtain ⟨es0, c0, s0, c1, si0, -, hr0, -⟩ := hRe.i
      exact lt_of_heap hr0
     refine (ih (l1 ++ l2, lv5) w5 ⟨(hx2.trans hx4).trans_new hk5 (fun i hi => (hown i hi).1), ?_, hsub2, hnd2, l ++ [x], ?_, fun g hg => ?_, ?_, fun z => ?_⟩ hlen2).qb
     ·refine ((hRe.i.kp hx4 id id)).kp hk5 (fun e => (hown r e).2 rfl) (fun e => ?_)
      have := (hown mO e).1
      have := hlt mO O.fp.2.2.2.1
      omega
     ·rw [List.map_append, List.length_append]; exact hS5
     ·rcases ho5 g hg with e | e
      ·exact hown g e
      ·omega
     ·exact List.nodup_append.2 ⟨hln, by simp, fun a ha b hb e => by
       simp at hb; subst hb; subst e
       exact ((hmem a).1 ha).2.2 ((hmm a).2 (.inl rfl))⟩
     ·rw [List.mem_append, hmem z, hmm z, List.mem_singleton]
      constructor
      ·rintro (⟨a, b, c⟩ | rfl)
       ·exact ⟨a, b, fun e => c (.inr e)⟩
       ·exact ⟨hxo, hnx0, hnx⟩
      ·rintro ⟨a, b, c⟩
       by_cases e : z = x
       ·exact .inr e
       ·exact .inl ⟨a, b, fun hh => hh.elim e c⟩
set_option maxHeartbeats 4000000 in
theorem clean_ret (h : TreeA w p T nb F) : Ret Tryz.prog 58 [ptr p 0] w fun v w' => v = I 0 ∧ TreeA w' p { T with changed := fun _ => false, old := fun x => (T.nodes x).isSome } nb F ∧ Kp F w w' := by
 obtain ⟨mN, mC, mO, gv, kn, kc, ko, O⟩ := h.opn
 have hlt := h.lt
 have hki := keys_iff O.ng
 refine ret_of_run (e := [(0, _)]) Tryz.func58 rfl Tryz.ntmps58 rfl rfl (qN rfl (qa rfl (rEnd (run_seq (qN rfl (qm rfl (qV (yeqpN U24 rfl rfl) (rEnd (run_false rfl (run_skip (qN rfl (qm rfl (qV (ynk rfl) ?_)))))))))))))
 refine qV (yfa fl74_7 rfl) (qV (yld U72 rfl rfl O.blk rfl) (rValP0 rfl (pclrM U72 rfl O.cm) ?_))
 rintro _ w1 ⟨hM1, hk1⟩
 have h1 := O.setC w1 [] (fun _ => false) hM1 hk1 (fun _ => rfl)
 have hB1 := hk1.blk O.blk O.ne.2.1.symm
 have hN1 := O.nm.kp hk1 O.ap.1
 have hO1 := O.om.kp hk1 O.ap.2.2.symm
 refine qM rfl (qm rfl (qV (ynk rfl) (qV (yfa fl74_8 rfl) (qV (yld U72 rfl rfl hB1 rfl) (rValP0 rfl (pclrM U72 rfl hO1) ?_)))))
 rintro _ w2 ⟨hM2, hk2⟩
 have hB2 := hk2.blk hB1 O.ne.2.2.1.symm
 have hN2 := hN1.kp hk2 O.ap.2.1
 refine rEnd (run_seq (qN rfl (qm rfl (qV (ynk rfl) (qV (yfa fl74_5 rfl) (qV (yld U71 rfl rfl hB2 rfl) (rValP rfl rfl (prg U71 rfl hN2) ?_)))))))
 rintro _ w3 ⟨r, rfl, hr, hx3, hg3⟩
 have hz1 := hk1.size
 have hz2 := hk2.size
 have hlO := hlt mO O.fp.2.2.2.1
 have hlN := hlt mN O.fp.2.1
 have hlp := hlt p O.fp.1
 refine rEnd (run_block (run_loop (α := List (Int × Value)) (kn) (fun x => [(0, ptr p 0), (18, ptr r 0), (2, I 0)]) (fun x w' => Kp (fun k => k = mO ∨ w2.heap.size ≤ k) w2 w' ∧ RgI KZ w' r mN x ∧ (∀ y ∈ x, y ∈ kn) ∧ (x.map (·.1)).Nodup ∧ ∃ kv, MapB KZ w' mO kv ∧ ∀ z, getL kv z = flag (decide (T.nodes z ≠ none ∧ z ∉ x.map (·.1)))) (fun x => x.length) (by repeat (first | exact Sub.nil | refine Sub.cons rfl ?_)) ?hI ?hround))
 case hI =>
  refine ⟨hx3.kp, hg3, fun y hy => hy, O.nm.nd, [], hM2.ext hx3, fun z => ?_⟩
  rw [decide_eq_false (fun hh => hh.2 ((hki z).2 hh.1))]; rfl
 case hround =>
  rintro left wi ⟨hki', hRg, hsub, hnd, kv, hMv, hkv⟩ ih
  have hzi := hki'.size
  try dsimp only
  refine qN rfl (rValP rfl rfl (pnx rfl hRg) ?_)
  rintro v2 w4 hv
  rcases hv with ⟨rfl, rfl, rfl⟩ | ⟨x, u, l1, l2, rfl, rfl, hRe, hk4⟩
  ·refine qV (yex rfl rfl) (rEnd (run_seq (run_false rfl (run_exit rfl (qN rfl (qa rfl (rEnd (run_ret Tryz.func58 rfl ?_))))))))
   have hkm : Kp (fun k => k = mO) w1 w4 := (hk2.trans_new hki' (fun i hi => hi.elim .inr (fun e => .inl (by omega))))
   obtain ⟨mN', mC', mO', gv', kn', kc', ko', O1⟩ := h1.opn
   have heq : trCs { T with changed := fun _ => false } mN' mC' mO' gv' = trCs T mN mC mO gv := Blk.inj O1.blk hB1
   have hmo : mO' = mO := by simp [trCs] at heq; exact heq.2.2.2
   subst hmo
   refine ⟨_, rfl, rfl, O1.setO w4 kv (fun x => (T.nodes x).isSome) hMv hkm (fun no => ?_), (hk1.mono' (fun k e => by rw [e]; exact O.fp.2.2.1)).trans (hkm.mono' (fun k e => by rw [e]; exact O.fp.2.2.2.1))⟩
   rw [hkv no]
   congr 1
   cases T.nodes no <;> simp
  ·have hnx : x ∉ (l1 ++ l2).map (·.1) := fun hx => by
    rw [List.map_append, List.map_cons] at hnd
    have h3 := List.nodup_append.1 hnd
    rw [List.map_append] at hx
    rcases List.mem_append.1 hx with hx | hx
    ·exact h3.2.2 x hx x (List.mem_cons_self ..) rfl
    ·exact (List.nodup_cons.1 h3.2.1).1 hx
   have hnd2 : ((l1 ++ l2).map (·.1)).Nodup := by
    rw [List.map_append, List.map_cons] at hnd
    rw [List.map_append]
    have h3 := List.nodup_append.1 hnd
    exact List.nodup_append.2 ⟨h3.1, (List.nodup_cons.1 h3.2.1).2, fun a ha b hb => h3.2.2 a ha b (List.mem_cons_of_mem _ hb)⟩
   have hmm : ∀ z, z ∈ (l1 ++ (x, u) :: l2).map (·.1) ↔ z = x ∨ z ∈ (l1 ++ l2).map (·.1) := fun z => by
    simp only [List.map_append, List.map_cons, List.mem_append, List.mem_cons]
    constructor
    ·rintro (h | h | h)
     ·exact .inr (.inl h)
     ·exact .inl h
     ·exact .inr (.inr h)
    ·rintro (h | h | h)
     ·exact .inr (.inl h)
     ·exact .inl h
     ·exact .inr (.inr h)
   have hsub2 : ∀ y ∈ l1 ++ l2, y ∈ kn := fun y hy => hsub y (by
    rcases List.mem_append.1 hy with hy | hy
    ·exact List.mem_append_left _ hy
    ·exact List.mem_append_right _ (List.mem_cons_of_mem _ hy))
   have hlen2 : (l1 ++ l2).length < (l1 ++ (x, u) :: l2).length := by simp
   have hxn : T.nodes x ≠ none := (hki x).1 (List.mem_map.2 ⟨_, hsub (x, u) (by simp), rfl⟩)
   have hk24 : Kp (fun k => k = mO ∨ w2.heap.size ≤ k) w2 w4 := hki'.trans (hk4.mono' (fun k e => .inr (by omega)))
   have hB4 := hk24.blk hB2 (fun e => e.elim (fun e => O.ne.2.2.1 e.symm) (fun e => by omega))
   have hM4 := hMv.kp hk4 (fun e => by omega)
   refine qV (yex rfl rfl) (rEnd (run_seq (run_true rfl (run_skip (run_block (qN rfl (qV (yen rfl hRe) ?_)))))))
   dsimp only
   refine qV (yex rfl rfl) (qa rfl (rEnd (run_reg rfl (qm rfl (qV (ynk rfl) (qV (yfa fl74_8 rfl) (qV (yld U72 rfl rfl hB4 rfl) (qm rfl (rEffP rfl (zmuB U72 (ky_int U3) rfl rfl rfl hM4 (k := x)) ?_)))))))))
   rintro w5 ⟨hM5, hk5⟩
   refine rEnd (run_inBlock ((ih (l1 ++ l2) w5 ⟨hk24.trans (hk5.mono' (fun k e => .inl e)), hRe.i.kp hk5 (fun e => by omega) (fun e => O.ap.2.1 e), hsub2, hnd2, _, hM5, fun z => ?_⟩ hlen2).qb))
   rw [getL_put, hkv z]
   by_cases e : z = x
   ·subst e
    rw [if_pos rfl, decide_eq_true (⟨hxn, hnx⟩)]; rfl
   ·rw [if_neg e]
    congr 1
    rw [decide_eq_decide, hmm z]
    constructor
    ·rintro ⟨a, b⟩
     exact ⟨a, fun hh => b (.inr hh)⟩
    ·rintro ⟨a, b⟩
     exact ⟨a, fun hh => hh.elim e b⟩
end
def spanC (lo : Bytes) (hi : Option Bytes) (tb : Bytes) : List Value := [S lo, S tb, .bool hi.isSome]
def spanOk (hi : Option Bytes) (tb : Bytes) : Prop := ∀ u, hi = some u → tb = u
section
variable {w : World}
set_option maxHeartbeats 1000000 in
theorem kid_ret {qb : Nat} {n : Nd} {kv vv cv : Value} (hB : Blk w qb [.bool n.leaf, kv, vv, cv] 84) (hK : Rd w kv 1 n.keys.length (n.keys.map S)) (hkl : n.keys.length ≤ 100000) {lo tb : Bytes} {hi : Option Bytes} (hto : spanOk hi tb) (i : Nat) (hil : i ≤ n.keys.length) :
  Ret Tryz.prog 85 [.agg (spanC lo hi tb).toArray, ptr qb 0, I (i : Int)] w fun v w' => Ext w w' ∧ ∃ lo' hi' tb', v = .agg (spanC lo' hi' tb').toArray ∧ spanOk hi' tb' ∧ ((i = 0 ∧ lo' = lo) ∨ (0 < i ∧ n.keys[i - 1]? = some lo')) ∧ ((i = n.keys.length ∧ hi' = hi) ∨ ∃ k, n.keys[i]? = some k ∧ hi' = some k) := by
 obtain ⟨ka, kc, rfl, -⟩ := hK.shape
 refine ret_of_run (e := [(0, _), (1, _), (2, _)]) Tryz.func85 rfl Tryz.ntmps85 rfl rfl (qN rfl (rValP rfl rfl (pbx rfl (cs := spanC lo hi tb) rfl) ?_))
 rintro _ w1 ⟨b3, rfl, hb3, hx1, hB1⟩
 refine rValP rfl rfl (pal (cs := [_, _, _]) ti128 rfl) ?_
 rintro _ w2 ⟨b6, rfl, hb6, hx2, hB2⟩
 have hz1 := hx1.size
 have hz2 := hx2.size
 have hB12 := hx2.blk hB1
 have hx02 := hx1.trans hx2
 have hBn := hx02.blk hB
 have l1 := hB1.lt
 have l2 := hB2.lt
 have hlB := hB.lt
 have hB1' : Blk w2 b3 [S lo, S tb, .bool hi.isSome] 128 := hB12
 refine rEnd (run_seq (qN rfl (qm rfl (qV (ygt rfl rfl) (rEnd (run_cut (fun e' w' => ∃ lo', e' = [(1, ptr qb 0), (2, I (i : Int)), (3, ptr b3 0), (6, ptr b6 0)] ∧ Kp (fun k => k = b3) w2 w' ∧ Blk w' b3 [S lo', S tb, .bool hi.isSome] 128 ∧ ((i = 0 ∧ lo' = lo) ∨ (0 < i ∧ n.keys[i - 1]? = some lo'))) ?hk (fun hk => ?hmain)))))))
 case hk =>
  rintro e' w3 ⟨lo', rfl, hk3, hB3, hlo⟩
  have hBn3 := hk3.blk hBn (by omega)
  have hK3 := (hK.ext hx02)
  refine run_seq (qN rfl (qm rfl (qm rfl (qV (ynk rfl) (qV (yfa fl84_1 rfl) (qV (yld U23 rfl rfl hBn3 rfl) (qV (yln U23 rfl) (qV (ylt rfl rfl) (rEnd (run_cut (fun e' w' => ∃ hi' tb', e' = [(3, ptr b3 0), (6, ptr b6 0)] ∧ Kp (fun k => k = b3) w2 w' ∧ Blk w' b3 [S lo', S tb', .bool hi'.isSome] 128 ∧ spanOk hi' tb' ∧ ((i = n.keys.length ∧ hi' = hi) ∨ ∃ k, n.keys[i]? = some k ∧ hi' = some k)) ?hkn (fun hkn => ?hmainn)))))))))))
  case hkn =>
   rintro e' w4 ⟨hi', tb', rfl, hk4, hB4, hso, hhi⟩
   have hB24 := hk4.blk hB2 (by omega)
   refine qN rfl (qV (yldA U128 rfl ti128 rfl (Blk.cells (n := 3) hB4 (news := [_, _, _]) rfl) rfl) (rEffP rfl (zstA ti128 rfl rfl rfl rfl hB24 (by simp)) ?_))
   rintro w5 ⟨hB5, hk5⟩
   refine rEnd (run_retR Tryz.func85 (.cell U128 rfl ti128 rfl (Blk.cells (n := 3) hB5 (news := [_, _, _]) rfl) rfl .nil) ?_)
   exact ⟨_, rfl, (hx02.trans_new hk4 (fun j hj => by omega)).trans_new hk5 (fun j hj => by omega), lo', hi', tb', rfl, hso, hlo, hhi⟩
  case hmainn =>
   refine run_if rfl (fun h2 => ?_) (fun h2 => ?_)
   ·have hi' : i < n.keys.length := by omega
    obtain ⟨lb, lo2, s, rfl, hs⟩ := rd_gets hK hi'
    have hKk := hK.kp (hx02.kp.trans hk3) (fun g hg e => by
     have := hK.ltz (by omega) (by omega) hg
     omega)
    refine run_reg rfl (qm rfl (qV (ynk rfl) (qV (yfa fl84_1 rfl) (qV (yld U23 rfl rfl hBn3 rfl) (qm rfl (qV (yis U23 ti9 rfl rfl (by omega)) (qV (yldc U9 rfl rfl (rd_str hKk hi' hs)) (qV (yfa fl128_1 rfl) (rEffP rfl (zst ti9 rfl rfl rfl hB3 (by simp)) ?_)))))))))
    rintro w4 ⟨hB4, hk4⟩
    refine qV (yfa fl128_2 rfl) (rEffP rfl (zst ti4 rfl rfl rfl hB4 (by simp)) ?_)
    rintro w5 ⟨hB5, hk5⟩
    refine rEnd ?_
    exact (hkn _ _ ⟨some s, s, rfl, (hk3.trans hk4).trans hk5, hB5, fun u hu => by cases hu; rfl, .inr ⟨s, hs, rfl⟩⟩).qb
   ·refine run_skip ?_
    exact (hkn _ _ ⟨hi, tb, rfl, hk3, hB3, hto, .inl ⟨by omega, rfl⟩⟩).qb
 case hmain =>
  refine run_if rfl (fun h1 => ?_) (fun h1 => ?_)
  ·have hi' : i - 1 < n.keys.length := by omega
   obtain ⟨lb, lo2, s, rfl, hs⟩ := rd_gets hK hi'
   have hKk := hK.ext hx02
   refine run_reg rfl (qm rfl (qV (ynk rfl) (qV (yfa fl84_1 rfl) (qV (yld U23 rfl rfl hBn rfl) (qm rfl (qV (ysb rfl rfl (by omega)) ?_))))))
   rw [show ((i : Int) - 1) = ((i - 1 : Nat) : Int) by omega]
   refine qV (yis U23 ti9 rfl rfl (by omega)) (qV (yldc U9 rfl rfl (rd_str hKk hi' hs)) (qV (yfa fl128_0 rfl) (rEffP rfl (zst ti9 rfl rfl rfl hB1' (by simp)) ?_)))
   rintro w4 ⟨hB4, hk4⟩
   refine rEnd ?_
   exact (hk _ _ ⟨s, rfl, hk4, hB4, .inr ⟨by omega, hs⟩⟩).qb
  ·refine run_skip ?_
   exact (hk _ _ ⟨lo, rfl, Kp.refl _ _, hB1', .inl ⟨by omega, rfl⟩⟩).qb
end
structure WhC (w : World) (p bt bm bw mm : Nat) : Prop where
 t : Blk w bt [ptr p 0] 24
 m : Blk w bm [.map (some mm)] 72
 f : Blk w bw [.func (.func 84) #[] #[ptr bt 0, ptr bm 0, ptr bw 0]] 126
 ne : bt ≠ mm ∧ bm ≠ mm ∧ bw ≠ mm ∧ bt ≠ p ∧ bm ≠ p ∧ bw ≠ p ∧ mm ≠ p
theorem WhC.kp {w w' : World} {p bt bm bw mm : Nat} (h : WhC w p bt bm bw mm) (k : Kp (fun k => k = mm ∨ k = p) w w') : WhC w' p bt bm bw mm :=
 ⟨k.blk h.t (fun e => e.elim h.ne.1 h.ne.2.2.2.1), k.blk h.m (fun e => e.elim h.ne.2.1 h.ne.2.2.2.2.1), k.blk h.f (fun e => e.elim h.ne.2.2.1 h.ne.2.2.2.2.2.1), h.ne⟩
theorem WhC.ext {w w' : World} {p bt bm bw mm : Nat} (h : WhC w p bt bm bw mm) (k : Ext w w') : WhC w' p bt bm bw mm := h.kp k.kp
def MetM (w : World) (mm : Nat) (V : List Int) : Prop := ∃ kv, MapB KZ w mm kv ∧ kv.length = V.length ∧ ∀ x, getL kv x = if x ∈ V then some (I 1) else none
theorem MetM.kp {S : Nat → Prop} {w w' : World} {mm : Nat} {V : List Int} (h : MetM w mm V) (k : Kp S w w') (hn : ¬ S mm) : MetM w' mm V := by
 obtain ⟨kv, h1, h2, h3⟩ := h
 exact ⟨kv, h1.kp k hn, h2, h3⟩
theorem MetM.same {w : World} {mm : Nat} {V V' : List Int} (h : MetM w mm V) (hl : V.length = V'.length) (hm : ∀ x, x ∈ V ↔ x ∈ V') : MetM w mm V' := by
 obtain ⟨kv, h1, h2, h3⟩ := h
 refine ⟨kv, h1, by rw [h2, hl], fun x => ?_⟩
 rw [h3 x]
 by_cases e : x ∈ V
 ·rw [if_pos e, if_pos ((hm x).1 e)]
 ·rw [if_neg e, if_neg (fun h => e ((hm x).2 h))]
def WhAt (p bt bm bw mm k : Nat) : Prop := ∀ (w : World) (T : Tr) (nb : Int → Nat) (F : Nat → Prop) (no : Int) (lo : Bytes) (hi : Option Bytes) (tb : Bytes) (V pg : List Int),
 TreeA w p T nb F → WhC w p bt bm bw mm → (¬ F bt ∧ ¬ F bm ∧ ¬ F bw ∧ ¬ F mm) → (∀ x n, T.nodes x = some n → NdOk T.size n) → (∀ x, T.nodes x ≠ none → x ∈ pg) → pg.length ≤ 1000000 → MetM w mm V → V.Nodup → (∀ x ∈ V, x ∈ pg) → T.count ≤ V.length * 100000 → pg.length ≤ V.length + k → spanOk hi tb → ((V = [] ∧ no = T.root) ∨ T.root ∈ V) →
 Ret Tryz.prog 84 [I no, .agg (spanC lo hi tb).toArray, ptr bt 0, ptr bm 0, ptr bw 0] w fun val w' => Kp (fun k => k = mm ∨ k = p) w w' ∧
  ((∃ (h : Nat) (ns : List Int) (es : Es), val = I (h : Int) ∧ Sub1 T.size T.nodes V (decide (V = [])) no lo hi h ns es ∧ TreeA w' p { T with count := T.count + es.length } nb F ∧ MetM w' mm (ns ++ V) ∧ T.count + es.length ≤ (ns ++ V).length * 100000) ∨ (val = I (-1) ∧ NoSub T.size T.nodes V (decide (V = [])) no lo hi))
set_option maxHeartbeats 8000000 in
theorem whAt_step {p bt bm bw mm k : Nat} (ihk : ∀ k', k' < k → WhAt p bt bm bw mm k') : WhAt p bt bm bw mm k := by
 intro w T nb F no lo hi tb V pg h hc hF hok hpg hpl hmet hVn hVp hcnt hk hto hroot
 have hz : sizeOk (T.size : Int) := size_ok h
 obtain ⟨z1, z2, -⟩ := id hz
 obtain ⟨mN, mC, mO, gv, kn, kc, ko, O⟩ := h.opn
 obtain ⟨kv, hMv, hkl, hkv⟩ := hmet
 have hlt := h.lt
 have hVl : V.length ≤ pg.length := List.Nodup.length_le_of_subset hVn (fun x hx => hVp x hx)
 have hBt := hc.t
 have hBm := hc.m
 obtain ⟨q, hq, hq'⟩ : ∃ q : Nat, (getL kv no).getD (I 0) = I (q : Int) ∧ ((q = 0 ∧ no ∉ V) ∨ (q = 1 ∧ no ∈ V)) := by
  rw [hkv no]
  by_cases hm : no ∈ V
  ·exact ⟨1, by rw [if_pos hm]; rfl, .inr ⟨rfl, hm⟩⟩
  ·exact ⟨0, by rw [if_neg hm]; rfl, .inl ⟨rfl, hm⟩⟩
 have hMlt := hMv.lt
 refine ret_of_run (e := [(0, _), (1, _), (2, _), (3, _), (4, _)]) Tryz.func84 rfl Tryz.ntmps84 rfl rfl (qN rfl (rValP rfl rfl (pbx rfl (cs := spanC lo hi tb) rfl) ?_))
 rintro _ w1 ⟨b6, rfl, hb6, hx1, hB6⟩
 have hBt1 := hx1.blk hBt
 have hBm1 := hx1.blk hBm
 have hBO1 := hx1.blk O.blk
 have hMN1 := O.nm.ext hx1
 have hM1 := hMv.ext hx1
 refine qa rfl (qM rfl (qV ((by first | exact yld U24 rfl rfl hBt1 rfl | exact yld U24 rfl rfl hBm1 rfl | exact yld U24 rfl rfl hBO1 rfl)) ?_))
 refine qV (ynk rfl) (qV (yfa fl74_5 rfl) (qV ((by first | exact yld U71 rfl rfl hBt1 rfl | exact yld U71 rfl rfl hBm1 rfl | exact yld U71 rfl rfl hBO1 rfl)) ?_))
 refine qm rfl (qV (ylk (k := no) (K := KZ) U71 (ky_int U3) ti81 rfl rfl hMN1.l) ?_)
 obtain ⟨v8, hv8⟩ : ∃ v8, (getL kn no).getD (.pointer none) = v8 := ⟨_, rfl⟩
 rw [hv8]
 rw [O.ng no] at hv8
 refine qa rfl (rEnd (run_seq (qN rfl (qV ((by first | exact yld U72 rfl rfl hBt1 rfl | exact yld U72 rfl rfl hBm1 rfl | exact yld U72 rfl rfl hBO1 rfl)) ?_))))
 refine qm rfl (qV (ylk (k := no) (K := KZ) U72 (ky_int U3) ti3 rfl rfl hM1.l) ?_)
 rw [hq]
 refine qV (yad rfl rfl (by omega)) (rEffP rfl (zmuB U72 (ky_int U3) rfl rfl rfl hM1 (k := no)) ?_)
 rintro w2 ⟨hM2, hk2⟩
 have hk02 : Kp (fun k => k = mm ∨ k = p) w w2 := hx1.kp.trans (hk2.mono' (fun k e => .inl e))
 have hz1 := hx1.size
 have hz2 := hk2.size
 have hBt2 := hk2.blk hBt1 hc.ne.1
 have hBm2 := hk2.blk hBm1 hc.ne.2.1
 have hBO2 := hk2.blk hBO1 hc.ne.2.2.2.2.2.2.symm
 have hc2 := hc.kp hk02
 have hFk : ∀ g, F g → ¬ (g = mm) := fun g hg e => hF.2.2.2 (e ▸ hg)
 have h2 : TreeA w2 p T nb F := (h.ext hx1).kp hk2 hFk
 have hB62 := hk2.blk hB6 (by have := hMlt; omega)
 have hlb6 := hB62.lt
 have hget2 : (getL (putL kv no (I ((q : Int) + 1))) no).getD (I 0) = I ((q : Int) + 1) := by rw [getL_put, if_pos rfl]; rfl
 have hbad : ∀ {w' : World}, Kp (fun k => k = mm ∨ k = p) w w' → NoSub T.size T.nodes V (decide (V = [])) no lo hi → Kp (fun k => k = mm ∨ k = p) w w' ∧ ((∃ (h : Nat) (ns : List Int) (es : Es), (I (-1) : Value) = I (h : Int) ∧ Sub1 T.size T.nodes V (decide (V = [])) no lo hi h ns es ∧ TreeA w' p { T with count := T.count + es.length } nb F ∧ MetM w' mm (ns ++ V) ∧ T.count + es.length ≤ (ns ++ V).length * 100000) ∨ ((I (-1) : Value) = I (-1) ∧ NoSub T.size T.nodes V (decide (V = [])) no lo hi)) := fun hk hn => ⟨hk, .inr ⟨rfl, hn⟩⟩
 refine rEnd (run_seq (run_cut (fun e' w' => ∃ c61 : Bool, e' = [(2, ptr bt 0), (4, ptr bw 0), (6, ptr b6 0), (8, v8), (61, .bool c61)] ∧ Ext w2 w' ∧ (c61 = true → NoSub T.size T.nodes V (decide (V = [])) no lo hi) ∧ (c61 = false → ∃ n, T.nodes no = some n ∧ no ∉ V ∧ if decide (V = []) then n.keys ≠ [] else ¬ n.low T.size)) ?hk (fun hk => ?hmain)))
 case hk =>
  rintro e' w3 ⟨c61, rfl, hx3, hc1, hc2'⟩
  have hk03 := hk02.trans hx3.kp
  refine run_cond rfl (fun h61 => ?_) (fun h61 => ?_)
  ·refine qN rfl (qa rfl (rEnd (run_ret Tryz.func84 rfl ?_)))
   exact ⟨_, rfl, hbad hk03 (hc1 h61)⟩
  ·obtain ⟨n, hn, hnV, hcnd⟩ := hc2' h61
   rw [hn] at hv8
   have hv8' : v8 = ptr (nb no) 0 := hv8.symm
   subst hv8'
   have hno : no ∈ pg := hpg no (by rw [hn]; simp)
   have hokn := hok no n hn
   obtain rfl : q = 0 := hq'.elim (fun e => e.1) (fun e => absurd e.2 hnV)
   have hVlt : V.length < pg.length := by
    have : (no :: V).length ≤ pg.length := List.Nodup.length_le_of_subset (List.nodup_cons.2 ⟨hnV, hVn⟩) (fun x hx => by
     rcases List.mem_cons.1 hx with rfl | hx
     ·exact hno
     ·exact hVp x hx)
    rw [List.length_cons] at this
    omega
   have h3 := h2.ext hx3
   obtain ⟨pl, hpq, hM, hplF, -⟩ := h3.nodeF hn
   obtain ⟨qb, qk, qv, qc⟩ := pl
   dsimp only at hpq
   subst hpq
   have hBn3 := hM.blk
   have hK3 := hM.keys
   dsimp only at hBn3 hK3
   obtain ⟨ka, kac, hkq, -⟩ := hK3.rd.shape
   subst hkq
   have hbd := hM.bd
   have hkll := hbd.kl
   have hM3V : MetM w3 mm (no :: V) := by
    have hgn : getL kv no = none := by rw [hkv no, if_neg hnV]
    refine ⟨_, hM2.ext hx3, by rw [putL_new _ _ _ hgn]; simp [hkl], fun x => ?_⟩
    rw [getL_put, hkv x]
    by_cases e : x = no
    ·rw [if_pos e, if_pos (by rw [e]; exact List.mem_cons_self ..)]; rfl
    ·rw [if_neg e]
     by_cases hx : x ∈ V
     ·rw [if_pos hx, if_pos (List.mem_cons_of_mem _ hx)]
     ·rw [if_neg hx, if_neg (fun hh => by rcases List.mem_cons.1 hh with hh | hh; exact e hh; exact hx hh)]
   have hB63 : Blk w3 b6 [S lo, S tb, .bool hi.isSome] 128 := hx3.blk hB62
   have hc3 := hc2.ext hx3
   have hz3 := hx3.size
   refine run_skip (run_seq (qN rfl (qm rfl (qV (ynk rfl) (qV (yfa fl84_1 rfl) (qV (yld U23 rfl rfl hBn3 rfl) (qV (yln U23 rfl) (qm rfl (rEnd (run_block (run_cut2 (fun e' w' => e' = [(2, ptr bt 0), (4, ptr bw 0), (6, ptr b6 0), (8, ptr (nb no) 0)] ∧ w' = w3 ∧ ∀ k ∈ n.keys, inB lo hi k) ?hkl (fun hkl => ?hmainl))))))))))))
   case hkl =>
    rintro e' w3 ⟨rfl, rfl, hin⟩
    have hBt3 := hc3.t
    have hCl := hM.kids
    dsimp only at hCl
    refine run_seq (qN rfl (qm rfl (qV (ynk rfl) (qV (yfa fl84_0 rfl) (qV (yld U4 rfl rfl hBn3 rfl) ?_)))))
    rcases nd_cases hokn with ⟨E, rfl⟩ | ⟨c, ps, rfl⟩
    ·have hg3 : Ext w3 w3.drew := Ext.drew0 w3
     obtain ⟨mN3, mC3, mO3, gv3, kn3, kc3, ko3, O3⟩ := (h3.ext hg3).opn
     obtain ⟨mN4, mC4, mO4, gv4, kn4, kc4, ko4, O4⟩ := h3.opn
     have hBO3 := O4.blk
     have hkeys : (leafNd E).keys.length = E.length := by simp [leafNd]
     rw [hkeys] at hkll
     refine rEnd (run_true rfl (run_seq (run_drawL [12] (fun w' => Ext w3 w') (by kernel_rfl) rfl (qL [1, 2, 3, 9, 10, 11, 12] 0 rfl (fun _ hS => (by first | exact yld U24 rfl rfl (hS.blk hBt3) rfl | exact yld U24 rfl rfl (hS.blk hBO3) rfl | exact yld U24 rfl rfl (hS.blk hBn3) rfl)) hg3 ?_))))
     refine qL [2, 3, 9, 10, 11, 12] 1 rfl (fun _ hS => ynk rfl) hg3 (qL [3, 9, 10, 11, 12] 2 rfl (fun _ hS => yfa fl74_4 rfl) hg3 (qL [9, 10, 11, 12] 3 rfl (fun _ hS => (by first | exact yld U3 rfl rfl (hS.blk hBt3) rfl | exact yld U3 rfl rfl (hS.blk hBO3) rfl | exact yld U3 rfl rfl (hS.blk hBn3) rfl)) hg3 ?_))
     refine qL [5, 6, 7, 8, 9, 10, 11, 12] 4 rfl (fun _ hS => ymv rfl) hg3 (qL [6, 7, 8, 9, 10, 11, 12] 5 rfl (fun _ hS => ynk rfl) hg3 (qL [7, 8, 9, 10, 11, 12] 6 rfl (fun _ hS => yfa fl84_1 rfl) hg3 (qL [8, 9, 10, 11, 12] 7 rfl (fun _ hS => (by first | exact yld U23 rfl rfl (hS.blk hBt3) rfl | exact yld U23 rfl rfl (hS.blk hBO3) rfl | exact yld U23 rfl rfl (hS.blk hBn3) rfl)) hg3 ?_)))
     refine qL [9, 10, 11, 12] 8 rfl (fun _ hS => yln U23 rfl) hg3 (qL [10, 11, 12] 9 rfl (fun _ hS => yad rfl rfl (by omega)) hg3 (qL [11, 12] 10 rfl (fun _ hS => ynk rfl) hg3 (qL [12] 11 rfl (fun _ hS => yfa fl74_4 rfl) hg3 (hLate [12] (by kernel_rfl) (by kernel_rfl) (qO 12 (nEffP (i := 12) rfl rfl (zst ti3 rfl rfl rfl (hg3.blk hBO3) (by simp [trCs])) ?_))))))
     rintro w4 ⟨hB4, hk4⟩
     refine ⟨trivial, ?_⟩
     have heq : trCs T mN3 mC3 mO3 gv3 = trCs T mN4 mC4 mO4 gv4 := Blk.inj O3.blk (hg3.blk hBO3)
     have hB4' : Blk w4 p (trCs { T with root := T.root, count := T.count + E.length } mN4 mC4 mO4 gv4) 74 := by
      have e : ((T.count : Int) + ((leafNd E).keys.length : Int)) = ((T.count + E.length : Nat) : Int) := by rw [hkeys]; omega
      rw [e] at hB4
      exact hB4
     have h4 := O3.setB w4 T.root (T.count + E.length) (by
      simp only [trCs, List.cons.injEq, Value.map.injEq, Option.some.injEq] at heq
      obtain ⟨-, -, -, -, -, q1, q2, q3, q4, -⟩ := heq
      rw [q1, q2, q3, q4]; exact hB4') hk4
     refine qE (qN rfl (qa rfl (rEnd (run_ret Tryz.func84 rfl (⟨_, rfl, hk03.trans (hg3.kp.trans (hk4.mono' (fun k e => .inr e))), .inl ⟨1, [no], E, rfl, sub1_leaf hz hn hokn hin hnV hcnd, h4, (hM3V.kp hg3 id).kp hk4 hc.ne.2.2.2.2.2.2, by simp; omega⟩⟩)))))
    ·have kcl : (innNd c ps).kids.length = ps.length + 1 := by simp [innNd]
     have kkl : (innNd c ps).keys.length = ps.length := by simp [innNd]
     rw [kcl] at hCl
     obtain ⟨gc, cc, rfl⟩ := some_of hCl (by omega)
     have hbc := hbd.cl
     rw [kcl] at hbc
     have hFp : ∀ g, Pl.fp ⟨nb no, .slice ka (innNd c ps).keys.length kac, qv, .slice (some ⟨gc, 0, none⟩) (ps.length + 1) cc⟩ g → ¬ (g = mm ∨ g = p) := fun g hg e => e.elim (fun e => hF.2.2.2 (e ▸ (hplF g hg).1)) (hplF g hg).2
     have hb6n : ¬ (b6 = mm ∨ b6 = p) := by
      have := hlt p O.fp.1
      omega
     refine rEnd (run_false rfl (run_skip (qN rfl (qa rfl (rEnd (run_seq (qN rfl (qm rfl (qV (ynk rfl) (qV (yfa fl84_3 rfl) (qV (yld U82 rfl rfl hBn3 rfl) (qV (yln U82 rfl) (qm rfl ?_)))))))))))))
     refine rEnd (run_block ?_)
     have hb00 : T.count + 0 ≤ (no :: V).length * 100000 := Nat.le_trans hcnt (Nat.mul_le_mul_right _ (Nat.le_succ _))
     refine run_loop (α := List (List Int × Es) × Nat) (([], 0)) (fun x => [(2, ptr bt 0), (4, ptr bw 0), (6, ptr b6 0), (8, ptr (nb no) 0), (11, I (x.2 : Int)), (105, .slice (some ⟨gc, 0, none⟩) (ps.length + 1) cc), (106, I ((ps.length + 1 : Nat) : Int)), (107, I (x.1.length : Int))]) (fun x w' => KidsU T.size T.nodes V no lo hi c ps x.2 x.1 ∧ Kp (fun k => k = mm ∨ k = p) w3 w' ∧ TreeA w' p { T with count := T.count + (x.1.flatMap (·.2)).length } nb F ∧ MetM w' mm (x.1.flatMap (·.1) ++ no :: V) ∧ T.count + (x.1.flatMap (·.2)).length ≤ (x.1.flatMap (·.1) ++ no :: V).length * 100000 ∧ x.2 ≤ 1000000) (fun x => ps.length + 1 - x.1.length) (by repeat (first | exact Sub.nil | refine Sub.cons rfl ?_)) ?hI ?hround
     case hI => exact ⟨KidsU.nil 0, Kp.refl _ _, h3, hM3V, hb00, Nat.zero_le _⟩
     case hround =>
      rintro ⟨L, hh⟩ w4 ⟨K, hk4, h4, hm4, hcb4, hhb⟩ ih
      dsimp only at K h4 hm4 hcb4 hhb
      have hBn4 := hk4.blk hBn3 (hFp _ (.inl rfl))
      have hC4 := hCl.kp hk4 (fun g hg => hFp g (.inr (.inr (.inr hg))))
      have hK4 := hK3.kp hk4 (fun g hg => hFp g (.inr (.inl hg)))
      have hB64 := hk4.blk hB63 hb6n
      have hc4 := hc3.kp hk4
      have hBw4 := hc4.f
      have hk04 := hk03.trans hk4
      have hKl := K.len
      have hnVi : (L.flatMap (·.1) ++ no :: V).Nodup := List.nodup_append.2 ⟨K.nd, List.nodup_cons.2 ⟨hnV, hVn⟩, fun x hx y hy e => K.out x hx (e ▸ hy)⟩
      have hLpg : ∀ x ∈ L.flatMap (·.1), x ∈ pg := fun x hx => by
       obtain ⟨l, hl', hxl⟩ := List.mem_flatMap.1 hx
       obtain ⟨i, hi', e⟩ := List.getElem_of_mem hl'
       have hb := K.bn i _ l (List.getElem?_eq_getElem (by rw [bnds_length]; omega)) (by rw [List.getElem?_eq_getElem hi', e])
       exact hpg x (hb.1.some x hxl)
      have hVpi : ∀ x ∈ L.flatMap (·.1) ++ no :: V, x ∈ pg := fun x hx => by
       rcases List.mem_append.1 hx with hx | hx
       ·exact hLpg x hx
       ·rcases List.mem_cons.1 hx with rfl | hx
        ·exact hno
        ·exact hVp x hx
      have hVli := List.Nodup.length_le_of_subset hnVi (fun x hx => hVpi x hx)
      have hVl2 : V.length + 1 ≤ (L.flatMap (·.1) ++ no :: V).length := by rw [List.length_append, List.length_cons]; omega
      try dsimp only
      refine qN rfl (qV (ylt rfl rfl) (rEnd (run_seq (run_if rfl (fun hlt' => ?_) (fun hlt' => ?_)))))
      ·have hil : L.length < ps.length + 1 := by omega
       obtain ⟨a, l, u, hb, ha, hl', hu'⟩ := bnds_get hi ps lo c L.length (by omega)
       have hal := hbd.cs a (List.mem_of_getElem? (show (innNd c ps).kids[_]? = some a from ha))
       refine run_skip (run_seq (run_block (qN rfl (qm rfl (qV (yis U82 ti89 rfl rfl (by omega)) (qV (yldc U89 rfl rfl (rd_u32 hC4.rd hil ha)) (qa rfl (qa rfl (rEnd (run_seq ?_))))))))))
       have hg4 : Ext w4 w4.drew := Ext.drew0 w4
       refine run_drawL [7] (fun w' => Ext w4 w') (by kernel_rfl) rfl (qL [7, 8] 0 rfl (fun _ hS => (by first | exact yld U126 rfl rfl (hS.blk hBw4) rfl | exact yld U126 rfl rfl (hS.blk hB64) rfl)) hg4 ?_)
       refine qL [2, 7, 8] 1 rfl (fun _ hS => ymv rfl) hg4 (qL [7, 8] 2 rfl (fun _ hS => ycvSi64 rfl U89 U3 (by omega)) hg4 (qL [6, 7, 8] 3 rfl (fun _ hS => (by first | exact yldA U128 rfl ti128 rfl (Blk.cells (n := 3) (hS.blk hBw4) (news := [_, _, _]) rfl) rfl | exact yldA U128 rfl ti128 rfl (Blk.cells (n := 3) (hS.blk hB64) (news := [_, _, _]) rfl) rfl)) hg4 ?_))
       refine qL [6, 7, 8] 4 rfl (fun _ hS => ymv rfl) hg4 (qL [6, 7, 8] 5 rfl (fun _ hS => ymv rfl) hg4 (hOneL (i := 6) (by kernel_rfl) (nCallL (i := 6) rfl rfl rfl (yc (args := [.tmp 115, .tmp 116, .tmp 117]) cf85 rfl) (kid_ret (n := innNd c ps) (hg4.blk hBn4) (hK4.ext hg4).rd hkll hto L.length (by rw [kkl]; omega)) ?_)))
       rintro _ w5 ⟨hx5, lo', hi', to', rfl, hso, hlo', hhi'⟩
       refine ⟨hg4.trans hx5, ?_⟩
       refine hLate [7] (by kernel_rfl) (by kernel_rfl) ?_
       have hx45 := hg4.trans hx5
       have elo : lo' = l := by
        rcases hlo' with ⟨h0, e⟩ | ⟨h0, e⟩ <;> rcases hl' with ⟨h1, e1⟩ | ⟨j, h1, e1⟩
        ·rw [e, e1]
        ·omega
        ·omega
        ·have e' : (ps.map (·.1))[L.length - 1]? = some lo' := e
         rw [h1, Nat.add_sub_cancel, e1] at e'
         exact (Option.some.inj e').symm
       have ehi : hi' = u := by
        rcases hhi' with ⟨h0, e⟩ | ⟨k0, h0, e⟩ <;> rcases hu' with ⟨h1, e1⟩ | ⟨k1, h1, e1, e2⟩
        ·rw [e, e1]
        ·rw [kkl] at h0; omega
        ·rw [List.getElem?_eq_none (by rw [kkl]; omega)] at h0; cases h0
        ·have h0' : (ps.map (·.1))[L.length]? = some k0 := h0
         rw [e1] at h0'
         rw [e, e2, Option.some.inj h0']
       subst elo
       subst ehi
       have hrtf : decide (L.flatMap (·.1) ++ no :: V = []) = false := decide_eq_false (by simp)
       refine qO 7 (nCall (i := 7) rfl rfl rfl (ycv' (args := [.tmp 114, .tmp 118]) cf84 rfl rfl) (ihk (k - 1) (by omega) w5 { T with count := T.count + (L.flatMap (·.2)).length } nb F (a : Int) lo' hi' to' (L.flatMap (·.1) ++ no :: V) pg (h4.ext hx45) (hc4.ext hx45) hF hok hpg hpl (hm4.kp hx45 id) hnVi hVpi hcb4 (by omega) hso (.inr (List.mem_append_right _ (hroot.elim (fun e => by rw [← e.2]; exact List.mem_cons_self ..) (fun e => List.mem_cons_of_mem _ e))))) ?_)
       rintro v6 w6 ⟨hk6, hv6⟩
       refine ⟨trivial, ?_⟩
       refine qt 8 rfl (yas rfl) trivial ?_
       rw [hrtf] at hv6
       have hk06 := (hk04.trans hx45.kp).trans hk6
       have hk36 := (hk4.trans hx45.kp).trans hk6
       rcases hv6 with ⟨d, n5, e5, rfl, s5, h6, hm6, hcb6⟩ | ⟨rfl, hno6⟩
       ·have hdl : d ≤ 1000000 := by
         have h1 := bn_height hz s5.bn
         have h2 := List.Nodup.length_le_of_subset s5.nd (fun x hx => hpg x (s5.bn.some x hx))
         omega
        have e1 : (L ++ [(n5, e5)]).flatMap (·.1) = L.flatMap (·.1) ++ n5 := by simp
        have e2 : (L ++ [(n5, e5)]).flatMap (·.2) = L.flatMap (·.2) ++ e5 := by simp
        have hnext : ∀ K' : KidsU T.size T.nodes V no lo hi c ps d (L ++ [(n5, e5)]), KidsU T.size T.nodes V no lo hi c ps d (L ++ [(n5, e5)]) ∧ Kp (fun k => k = mm ∨ k = p) w3 w6 ∧ TreeA w6 p { T with count := T.count + ((L ++ [(n5, e5)]).flatMap (·.2)).length } nb F ∧ MetM w6 mm ((L ++ [(n5, e5)]).flatMap (·.1) ++ no :: V) ∧ T.count + ((L ++ [(n5, e5)]).flatMap (·.2)).length ≤ ((L ++ [(n5, e5)]).flatMap (·.1) ++ no :: V).length * 100000 ∧ d ≤ 1000000 := fun K' => by
         rw [e1, e2]
         refine ⟨K', hk36, ?_, hm6.same (by simp; omega) (fun x => by simp only [List.mem_append]; exact ⟨fun h => by rcases h with h | h | h; exact .inl (.inr h); exact .inl (.inl h); exact .inr h, fun h => by rcases h with (h | h) | h; exact .inr (.inl h); exact .inl h; exact .inr (.inr h)⟩), ?_, hdl⟩
         ·rw [List.length_append, ← Nat.add_assoc]; exact h6
         ·simp only [List.length_append] at hcb6 ⊢; omega
        have e3 : ((L.length : Int) + 1) = (((L ++ [(n5, e5)]).length : Nat) : Int) := by simp
        refine qE (run_seq (qN rfl (qm rfl (qV (ylt rfl rfl) (rVal_if (fun hd0 => ?_) (fun hd0 => ?_))))))
        ·omega
        ·refine qm rfl (qm rfl (qV (ygt rfl rfl) (rVal_if (fun hi0 => ?_) (fun hi0 => ?_))))
         ·refine qm rfl (qm rfl (qm rfl (qV (yne rfl rfl) (rVal_if (fun hne => ?_) (fun hne => ?_)))))
          ·refine qV (ypT rfl rfl) (qV (ypF rfl rfl) (rEnd (run_true rfl (qN rfl (qa rfl (rEnd (run_ret Tryz.func84 rfl ?_)))))))
           exact ⟨_, rfl, hbad hk06 (kidsU_dep hz hn K (by omega) hb s5 (by omega))⟩
          ·refine qV (ypT rfl rfl) (qV (ypF rfl rfl) (rEnd (run_false rfl (run_skip (run_reg rfl (qm rfl (qa rfl (rEnd (run_inBlock (run_reg rfl (qV (yad rfl rfl (by omega)) (qm rfl (rEnd ?_)))))))))))))
           have hdh : d = hh := by omega
           subst hdh
           rw [e3]
           exact (ih (L ++ [(n5, e5)], d) w6 (hnext (K.step hb s5)) (by simp; omega)).qb
         ·refine qm rfl (qS (qS (qS (qV (ypF rfl rfl) (qV (ypF rfl rfl) (rEnd (run_false rfl (run_skip (run_reg rfl (qm rfl (qa rfl (rEnd (run_inBlock ?_)))))))))))))
          refine run_reg rfl (qV (yad rfl rfl (by omega)) (qm rfl (rEnd ?_)))
          have hL0 : L = [] := List.eq_nil_of_length_eq_zero (by omega)
          rw [e3]
          refine (ih (L ++ [(n5, e5)], d) w6 (hnext ?_) (by simp; omega)).qb
          subst hL0
          exact (KidsU.nil d).step hb s5
       ·refine qE (run_seq (qN rfl (qm rfl (qV (ylt rfl rfl) (rVal_if (fun hd0 => ?_) (fun hd0 => ?_))))))
        ·refine qm rfl (qS (qS (qS (qS (qS (qS (qS (qV (ypT rfl rfl) (rEnd (run_true rfl (qN rfl (qa rfl (rEnd ?_)))))))))))))
         refine run_ret Tryz.func84 rfl ?_
         exact ⟨_, rfl, hbad hk06 (kidsU_no hz hn K hb hno6)⟩
        ·omega
      ·have hLl : L.length = ps.length + 1 := by omega
       have hlsw : (no :: L.flatMap (·.1) ++ V).length = (L.flatMap (·.1) ++ no :: V).length := by simp only [List.length_append, List.length_cons]; omega
       refine run_exit rfl (qN rfl (qm rfl (qV (yad rfl rfl (by omega)) (qa rfl (rEnd (run_ret Tryz.func84 rfl (⟨_, rfl, hk04, .inl ⟨hh + 1, no :: L.flatMap (·.1), L.flatMap (·.2), by simp [resVal], kidsU_all hz hn hokn hin K hLl hnV hcnd, h4, hm4.same (by simp; omega) (fun x => by simp only [List.mem_append, List.mem_cons]; exact ⟨fun h => by rcases h with h | h | h; exact .inl (.inr h); exact .inl (.inl h); exact .inr h, fun h => by rcases h with (h | h) | h; exact .inr (.inl h); exact .inl h; exact .inr (.inr h)⟩), by rw [hlsw]; exact hcb4⟩⟩)))))))
   case hmainl =>
    refine run_loop (α := Nat) (0) (fun i => [(2, ptr bt 0), (4, ptr bw 0), (6, ptr b6 0), (8, ptr (nb no) 0), (65, .slice ka n.keys.length kac), (66, I (n.keys.length : Int)), (67, I (i : Int))]) (fun i w' => w' = w3 ∧ i ≤ n.keys.length ∧ ∀ k ∈ n.keys.take i, inB lo hi k) (fun i => n.keys.length - i) (by repeat (first | exact Sub.nil | refine Sub.cons rfl ?_)) ?hI ?hround
    case hI => exact ⟨rfl, Nat.zero_le _, by simp⟩
    case hround =>
     rintro i w4 ⟨rfl, hi0, hall⟩ ih
     try dsimp only
     refine qN rfl (qV (ylt rfl rfl) (rEnd (run_seq (run_if rfl (fun hl => ?_) (fun hl => ?_)))))
     ·have hil : i < n.keys.length := by omega
      obtain ⟨lb, lo2, s, rfl, hs⟩ := rd_gets hK3.rd hil
      have hsm := List.mem_of_getElem? hs
      refine run_skip (run_seq (run_block (qN rfl (qV (yis U23 ti9 rfl rfl (by omega)) (qV (yldc U9 rfl rfl (rd_str hK3.rd hil hs)) (qa rfl (qM rfl (qm rfl (qV (yfa fl128_0 rfl) (qV (yld U9 rfl rfl hB63 rfl) (qV (yltS rfl rfl) (rVal_bool (fun hk1 => ?_) (fun hk1 => ?_)))))))))))))
      ·refine qm rfl (qS (qS (qS (qS (qS (qS (qS (qS (qV (ypT rfl rfl) (rEnd (run_true rfl (qN rfl (qa rfl ?_)))))))))))))
       refine rEnd (run_ret Tryz.func84 rfl ?_)
       exact ⟨_, rfl, hbad hk03 (nosub_key hn hsm (fun hh => by rw [hh.1] at hk1; cases hk1))⟩
      ·refine qm rfl (qV (yfa fl128_2 rfl) (qV (yld U4 rfl rfl hB63 rfl) ?_))
       cases hi with
       | none =>
         refine qm rfl (qS (qS (qS (qS (qV (ypF rfl rfl) (qV (ypF rfl rfl) (rEnd (run_false rfl (run_skip (run_inBlock (run_reg rfl (qV (yad rfl rfl (by omega)) (qm rfl ?_)))))))))))))
         refine rEnd ((ih (i + 1) _ ⟨rfl, by omega, fun k hk => ?_⟩ (by omega)).qb)
         rcases (mem_take_succ hs).1 hk with hk | rfl
         ·exact hall k hk
         ·exact ⟨hk1, fun u hu => by cases hu⟩
       | some u =>
         obtain rfl : tb = u := hto u rfl
         refine qm rfl (qm rfl (qV (yfa fl128_1 rfl) (qV (yld U9 rfl rfl hB63 rfl) (qV (ygeS rfl rfl) (rVal_bool (fun hk2 => ?_) (fun hk2 => ?_))))))
         ·have hk2' : lt s tb = false := by simpa using hk2
          refine qV (ypT rfl rfl) (qV (ypF rfl rfl) (rEnd (run_true rfl (qN rfl (qa rfl (rEnd (run_ret Tryz.func84 rfl ?_)))))))
          exact ⟨_, rfl, hbad hk03 (nosub_key hn hsm (fun hh => by rw [hh.2 _ rfl] at hk2'; cases hk2'))⟩
         ·have hk2' : lt s tb = true := by simpa using hk2
          refine qV (ypT rfl rfl) (qV (ypF rfl rfl) (rEnd (run_false rfl (run_skip (run_inBlock (run_reg rfl (qV (yad rfl rfl (by omega)) (qm rfl (rEnd ((ih (i + 1) _ ⟨rfl, by omega, fun k hk => ?_⟩ (by omega)).qb))))))))))
          rcases (mem_take_succ hs).1 hk with hk | rfl
          ·exact hall k hk
          ·exact ⟨hk1, fun u hu => by cases hu; exact hk2'⟩
     ·have : i = n.keys.length := by omega
      subst this
      rw [List.take_length] at hall
      refine run_exit rfl ?_
      exact (hkl _ _ ⟨rfl, rfl, hall⟩).qb
 case hmain =>
  refine run_reg rfl (qm rfl ?_)
  cases hn : T.nodes no with
  | none =>
    have hv8' : v8 = .pointer none := by rw [← hv8, hn]; rfl
    subst hv8'
    refine qV (yeqpN U81 rfl rfl) (qm rfl (qS (qS (qS (qS (qV (ypT rfl rfl) (qm rfl (qS (qS (qS (qS (qS (qS ?_)))))))))))))
    refine qS (qS (qS (qS (qS (qV (ypT rfl rfl) (qm rfl (qS (qS (qS (qS (qS (qS (qS ?_)))))))))))))
    refine qS (qS (qS (qS (qS (qS (qS (qV (ypT rfl rfl) (rEnd (Run.qb (e := [(2, _), (4, _), (6, _), (7, _), (8, _), (61, _)]) ?_)))))))))
    exact (hk _ _ ⟨true, rfl, Ext.refl _, fun _ => nosub_none hn, fun h => Bool.noConfusion h⟩).qb
  | some n =>
    have hv8' : v8 = ptr (nb no) 0 := by rw [← hv8, hn]; rfl
    subst hv8'
    refine qV (yeqpN U81 rfl rfl) (qm rfl (qV (yld U72 rfl rfl hBm2 rfl) (qm rfl (qV (ylk (k := no) (K := KZ) U72 (ky_int U3) ti3 rfl rfl hM2.l) ?_))))
    rw [hget2]
    refine qV (ygt rfl rfl) (rVal_if (fun hc1 => ?_) (fun hc1 => ?_))
    ·refine qV (ypF rfl rfl) (qm rfl (qS (qS (qS (qS (qS (qS (qS (qS (qS (qS (qS (qV (ypT rfl rfl) ?_)))))))))))))
     refine qm rfl (qS (qS (qS (qS (qS (qS (qS (qS (qS (qS (qS (qS (qS ?_)))))))))))))
     refine qS (qV (ypT rfl rfl) (rEnd (Run.qb (e := [(2, _), (4, _), (6, _), (7, _), (8, _), (61, _)]) ?_)))
     exact (hk _ _ ⟨true, rfl, Ext.refl _, fun _ => nosub_met (hq'.elim (fun e => by have := e.1; omega) (fun e => e.2)), fun h => Bool.noConfusion h⟩).qb
    ·obtain ⟨hnV, rfl⟩ : no ∉ V ∧ q = 0 := hq'.elim (fun e => ⟨e.2, e.1⟩) (fun e => by have := e.1; omega)
     obtain ⟨pl, hpq, hM, hplF, -⟩ := h2.nodeF hn
     obtain ⟨qb, qk, qv, qc⟩ := pl
     dsimp only at hpq
     subst hpq
     have hBn2 := hM.blk
     have hK2 := hM.keys
     dsimp only at hBn2 hK2
     obtain ⟨ka, kac, hkq, -⟩ := hK2.rd.shape
     subst hkq
     have hbd := hM.bd
     refine qV (ypF rfl rfl) (qm rfl (qm rfl (qV ((by first | exact yld U24 rfl rfl hBt2 rfl | exact yld U24 rfl rfl hBO2 rfl)) ?_)))
     refine qV (ynk rfl) (qV (yfa fl74_1 rfl) (qV ((by first | exact yld U3 rfl rfl hBt2 rfl | exact yld U3 rfl rfl hBO2 rfl)) ?_))
     refine qV (yne rfl rfl) (rVal_if (fun hr => ?_) (fun hr => ?_))
     ·have hVne : V ≠ [] := fun e => by
       rcases hroot with ⟨-, e'⟩ | e'
       ·exact hr e'
       ·rw [e] at e'; cases e'
      have hrt : decide (V = []) = false := decide_eq_false hVne
      refine qm rfl (qV ((by first | exact yld U24 rfl rfl hBt2 rfl | exact yld U24 rfl rfl hBO2 rfl)) ?_)
      refine qm rfl (rCall rfl rfl (yc (args := [.tmp 41, .tmp 42]) cf77 rfl) (low_ret hBO2 hz hBn2 hM.r hbd) ?_)
      rintro _ w3 ⟨rfl, hx3⟩
      have hBt3 := hx3.blk hBt2
      have hBO3 := hx3.blk hBO2
      refine qV (ypT rfl rfl) (rVal_if (fun hlow => ?_) (fun hlow => ?_))
      ·refine qV (ypF rfl rfl) (qm rfl (qS (qS (qS (qS (qS (qS (qS (qS (qS (qS (qS (qS ?_)))))))))))))
       refine qS (qS (qV (ypT rfl rfl) (rEnd (Run.qb (e := [(2, _), (4, _), (6, _), (7, _), (8, _), (61, _)]) ?_))))
       exact (hk _ _ ⟨true, rfl, hx3, fun _ => nosub_cnd hn (by rw [hrt]; simpa using hlow), fun h => Bool.noConfusion h⟩).qb
      ·refine qV (ypF rfl rfl) (qm rfl (qm rfl (qV ((by first | exact yld U24 rfl rfl hBt3 rfl | exact yld U24 rfl rfl hBO3 rfl)) ?_)))
       refine qV (ynk rfl) (qV (yfa fl74_1 rfl) (qV ((by first | exact yld U3 rfl rfl hBt3 rfl | exact yld U3 rfl rfl hBO3 rfl)) ?_))
       refine qV (yeq rfl rfl) (rVal_if (fun hr2 => ?_) (fun hr2 => ?_))
       ·exact absurd hr2 hr
       ·refine qm rfl (qS (qS (qS (qS (qS (qS (qV (ypF rfl rfl) (qV (ypF rfl rfl) (rEnd (Run.qb (e := [(2, _), (4, _), (6, _), (7, _), (8, _), (61, _)]) ?_))))))))))
        exact (hk _ _ ⟨false, rfl, hx3, fun h => Bool.noConfusion h, fun _ => ⟨n, hn, hnV, by rw [hrt]; simpa using hlow⟩⟩).qb
     ·have hr' : no = T.root := by omega
      have hVe : V = [] := by
       rcases hroot with ⟨e', -⟩ | e'
       ·exact e'
       ·exact absurd (hr' ▸ e') hnV
      have hrt : decide (V = []) = true := decide_eq_true hVe
      refine qm rfl (qS (qS (qS (qV (ypF rfl rfl) (qV (ypF rfl rfl) (qm rfl (qm rfl (qV ((by first | exact yld U24 rfl rfl hBt2 rfl | exact yld U24 rfl rfl hBO2 rfl | exact yld U24 rfl rfl hBn2 rfl)) ?_))))))))
      refine qV (ynk rfl) (qV (yfa fl74_1 rfl) (qV ((by first | exact yld U3 rfl rfl hBt2 rfl | exact yld U3 rfl rfl hBO2 rfl | exact yld U3 rfl rfl hBn2 rfl)) ?_))
      refine qV (yeq rfl rfl) (rVal_if (fun hr2 => ?_) (fun hr2 => ?_))
      ·refine qm rfl (qm rfl (qV (ynk rfl) (qV (yfa fl84_1 rfl) (qV ((by first | exact yld U23 rfl rfl hBt2 rfl | exact yld U23 rfl rfl hBO2 rfl | exact yld U23 rfl rfl hBn2 rfl)) ?_))))
       refine qV (yln U23 rfl) (qV (yeq rfl rfl) (rVal_if (fun hkz => ?_) (fun hkz => ?_)))
       ·refine qV (ypT rfl rfl) (qV (ypF rfl rfl) (rEnd (Run.qb (e := [(2, _), (4, _), (6, _), (7, _), (8, _), (61, _)]) ?_)))
        refine (hk _ _ ⟨true, rfl, Ext.refl _, fun _ => nosub_cnd hn (by rw [hrt]; simp; exact List.eq_nil_of_length_eq_zero (by omega)), fun h => Bool.noConfusion h⟩).qb
       ·refine qV (ypT rfl rfl) (qV (ypF rfl rfl) (rEnd (Run.qb (e := [(2, _), (4, _), (6, _), (7, _), (8, _), (61, _)]) ?_)))
        exact (hk _ _ ⟨false, rfl, Ext.refl _, fun h => Bool.noConfusion h, fun _ => ⟨n, hn, hnV, by rw [hrt]; simp; intro e; rw [e] at hkz; exact hkz rfl⟩⟩).qb
      ·exact absurd hr' hr2
theorem whAt_all (p bt bm bw mm : Nat) : ∀ k, WhAt p bt bm bw mm k := fun k => Nat.strongRecOn k fun k ih => whAt_step ih
end Go.Proofs.YtocnhaoilnojmaaGreat
