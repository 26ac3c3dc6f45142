/- Texts TrKa, TrKf, TrKg, TrNw, TrOk, TrTo, TrWh, PgC, TrLd, R8A, R8C, one behind the other (what the statement TreeAlike does not use is left out). -/
import Derived.Test.YtocnhaoilnojmaaGreatTAp1
import Derived.Test.YtocnhaoilnojmaaGreatTAp6
import Derived.Test.YtocnhaoilnojmaaGreatTAp5
import Derived.Test.YtocnhaoilnojmaaGreatTAp4
import Derived.Test.YtocnhaoilnojmaaGreatTAp3
namespace Go.Proofs.YtocnhaoilnojmaaGreat
open Go Go.RowKit
set_option linter.all false
set_option maxRecDepth 100000
/-- Put's way down does what it should at a page so high. -/
def PutAt (p : Nat) (k v : Bytes) (bt bk bv bp : Nat) (H : Nat) : Prop := ∀ (w : World) (T : Tr) (nb : Int → Nat) (F : Nat → Prop) (no : Int) (lo : Bytes) (hi : Option Bytes) (ns : List Int) (es : Es),
 TreeA w p T nb F → PutC w F p k v bt bk bv bp → Bn T.size T.nodes H no lo hi ns es → ns.Nodup → inB lo hi k → keyOk k → 3 + k.length + v.length ≤ mostE T.size → GivS T → (∀ x ∈ T.given, 1 ≤ x ∧ x ≤ 2147483647) → (∀ x, T.nodes x ≠ none → 1 ≤ x ∧ x ≤ 2147483647) → H ≤ T.given.length → T.count ≤ 1000000000 → (∀ c ps, T.nodes no = some (innNd c ps) → ps ≠ []) →
 Ret Tryz.prog 68 [I no, ptr bt 0, ptr bk 0, ptr bv 0, ptr bp 0] w fun val w' => ∃ T' nb' F', TreeA w' p T' nb' F' ∧ PutPost T H no lo hi ns es k v val T' ∧ Kp F w w' ∧ (∀ i, F' i → F i ∨ w.heap.size ≤ i) ∧ ∀ x, T.nodes x ≠ none → x ∉ ns → nb' x = nb x
theorem putAt_leaf {p : Nat} {k v : Bytes} {bt bk bv bp : Nat} : PutAt p k v bt bk bv bp 1 := by
 intro w T nb F no lo hi ns es h hc hB hnd hin hk hkv hg hgr hnr hlen hcnt hne
 have hl := rise_len hg.rise hgr
 exact put_leaf_ret h hc hB hin hk hkv hg hgr (by omega) (.inr hlen) hcnt
section
variable {w : World}
set_option maxHeartbeats 4000000 in
theorem putAt_inner {p : Nat} {k v : Bytes} {bt bk bv bp h0 : Nat} (ih : PutAt p k v bt bk bv bp (h0 + 1)) : PutAt p k v bt bk bv bp (h0 + 2) := by
 intro w T nb F no lo hi ns es h hc hB hnd hin hk hkv hg hgr hnr hlen hcnt hne
 have hz : sizeOk (T.size : Int) := size_ok h
 obtain ⟨z1, z2, -⟩ := id hz
 have hor : orderE T.size ≤ 1000 ∧ 8 ≤ orderE T.size := by unfold orderE; omega
 obtain ⟨c, ps, ns', hn, hns, hko, hlo, hnz, hfull, a, lo', hi', nm, em, e1, e2, ha, hBa, hnda, hina, hnonm, hsub, hes, he1, he2, hone, htwo⟩ := inner_step hz hB hnd hin
 obtain ⟨i, hi0⟩ : ∃ i, wayI (ps.map (·.1)) k = i := ⟨_, rfl⟩
 rw [hi0] at ha htwo
 have hile : i ≤ ps.length := by have := wayI_le (ps.map (·.1)) k; rw [hi0, List.length_map] at this; exact this
 have hhas : hasE es k ↔ hasE em k := by rw [hes]; exact hasE_mid he1 he2
 have hins : insE es k v = e1 ++ (insE em k v ++ e2) := by rw [hes]; exact insE_mid he1 he2
 obtain ⟨mN, mC, mO, gv, kn, kc, ko, O⟩ := h.opn
 obtain ⟨q, hq, hM, hqF, -⟩ := h.nodeF hn
 obtain ⟨qb, qk, qv, qc⟩ := q
 dsimp only at hq
 subst hq
 have hBn := hM.blk
 have hC := hM.kids
 dsimp only at hBn hC
 have kcl : (innNd c ps).kids.length = ps.length + 1 := by simp [innNd]
 rw [kcl] at hC
 obtain ⟨gc, cc, rfl⟩ := some_of hC (by omega)
 have hal := hM.bd.cs a (List.mem_of_getElem? (show (innNd c ps).kids[_]? = some a from ha))
 have hamem : a ∈ c :: ps.map (·.2) := List.mem_of_getElem? ha
 have hBt := hc.t
 have hBk := hc.k
 have hBp := hc.f
 have hFl := h.lt
 have hg0 : Ext w w.drew := Ext.drew0 w
 refine ret_of_run (e := [(0, _), (1, _), (2, _), (3, _), (4, _)]) Tryz.func68 rfl Tryz.ntmps68 rfl rfl ?_; refine qN rfl ?_; refine qV (yas rfl) ?_; refine qV (yas rfl) ?_; refine qM rfl ?_; refine qV ((by first | exact yld U24 rfl rfl hBt rfl | exact yld U24 rfl rfl O.blk rfl | exact yld U24 rfl rfl hBn rfl | exact yld U24 rfl rfl hBk rfl)) ?_; refine qV ((by first | exact ync rfl | exact yncf rfl)) ?_; refine qV (yfa fl74_5 rfl) ?_; refine qV ((by first | exact yld U71 rfl rfl hBt rfl | exact yld U71 rfl rfl O.blk rfl | exact yld U71 rfl rfl hBn rfl | exact yld U71 rfl rfl hBk rfl)) ?_
 refine qV (ymv rfl) ?_; refine qV (ylk (k := no) (K := KZ) U71 (ky_int U3) ti81 rfl rfl O.nm.l) ?_
 rw [show (getL kn no).getD (.pointer none) = ptr (nb no) 0 by rw [O.ng no, hn]; rfl]
 refine qV (yas rfl) ?_; refine rEnd ?_; refine run_seq ?_; refine qN rfl ?_; refine qV (ymv rfl) ?_; refine qV ((by first | exact ync rfl | exact yncf rfl)) ?_; refine qV (yfa fl84_0 rfl) ?_; refine qV ((by first | exact yld U4 rfl rfl hBt rfl | exact yld U4 rfl rfl O.blk rfl | exact yld U4 rfl rfl hBn rfl | exact yld U4 rfl rfl hBk rfl)) ?_; refine rEnd ?_; refine run_false rfl ?_; refine run_skip ?_; refine qN rfl ?_; refine qV (ymv rfl) ?_; refine qV ((by first | exact yld U9 rfl rfl hBt rfl | exact yld U9 rfl rfl O.blk rfl | exact yld U9 rfl rfl hBn rfl | exact yld U9 rfl rfl hBk rfl)) ?_
 refine rCall rfl rfl (yc (args := [.tmp 95, .tmp 96]) cf46 rfl) (way_ret k hBn hM.r hM.bd hko.2) ?_
 rintro _ w ⟨rfl, rfl⟩
 rw [show wayI (innNd c ps).keys k = i from hi0]
 refine qV (yas rfl) ?_; refine rEnd ?_; refine run_seq ?_; refine run_drawL [9] (fun w' => Ext w w') (by kernel_rfl) rfl ?_; refine qL [9, 10, 11, 12, 13, 14] 0 rfl (fun _ hS => (by first | exact yld U110 rfl rfl (hS.blk hBn) rfl | exact yld U110 rfl rfl (hS.blk hBp) rfl)) (hg0) ?_; refine qL [2, 3, 4, 6, 7, 8, 9, 10, 11, 12, 13, 14] 1 rfl (fun _ hS => ymv rfl) (hg0) ?_; refine qL [3, 4, 6, 7, 8, 9, 10, 11, 12, 13, 14] 2 rfl (fun _ hS => (by first | exact ync rfl | exact yncf rfl)) (hg0) ?_; refine qL [4, 6, 7, 8, 9, 10, 11, 12, 13, 14] 3 rfl (fun _ hS => yfa fl84_3 rfl) (hg0) ?_
 refine qL [6, 7, 8, 9, 10, 11, 12, 13, 14] 4 rfl (fun _ hS => (by first | exact yld U82 rfl rfl (hS.blk hBn) rfl | exact yld U82 rfl rfl (hS.blk hBp) rfl)) (hg0) ?_; refine qL [6, 7, 8, 9, 10, 11, 12, 13, 14] 5 rfl (fun _ hS => ymv rfl) (hg0) ?_; refine qL [7, 8, 9, 10, 11, 12, 13, 14] 6 rfl (fun _ hS => yis U82 ti89 rfl rfl (by omega)) (hg0) ?_; refine qL [8, 9, 10, 11, 12, 13, 14] 7 rfl (fun _ hS => yldc U89 rfl rfl (rd_u32 ((hC.ext hS).rd) (by omega) ha)) (hg0) ?_; refine qL [9, 10, 11, 12, 13, 14] 8 rfl (fun _ hS => ycvSi64 rfl U89 U3 (by omega)) (hg0) ?_
 refine hLate [9] (by kernel_rfl) (by kernel_rfl) ?_; refine qO 9 ?_; refine nCall (i := 9) rfl rfl rfl (ycv' (args := [.tmp 107]) cf68 rfl rfl) (ih _ T nb F (a : Int) lo' hi' nm em (h.ext hg0) (hc.kp hg0.kp (fun i hi => .inl hi)) hBa hnda hina hk hkv hg hgr hnr (by omega) hcnt (fun c' ps' hn' e => by have := full_inn (hfull a hamem) hz hn'; rw [e] at this; simp at this)) ?_
 rintro v1 w1 ⟨T1, nb1, F1, h1, ⟨hcn1, hE1, hout⟩, hk1, hF1, hnb1⟩
 refine ⟨trivial, ?_⟩
 have hsz : T1.size = T.size := hE1.size
 have hgr1 : ∀ x ∈ T1.given, 1 ≤ x ∧ x ≤ 2147483647 := fun x hx => (hE1.giv x hx).elim (hgr x) (fun e => hnr x e.1)
 have hgl1 : T1.given.length ≤ 2147483647 := by have := rise_len hE1.srt.rise hgr1; omega
 have hk01 : Kp F w w1 := hg0.kp.trans hk1
 have hz0 := hg0.size
 have hF01 : ∀ i, F1 i → F i ∨ w.heap.size ≤ i := fun i hi => (hF1 i hi).imp id (fun e => by omega)
 have hc1 : PutC w1 F1 p k v bt bk bv bp := hc.kp hk01 hF01
 have hBt1 := hc1.t
 have hnbno : nb1 no = nb no := hnb1 no (by rw [hn]; simp) hnonm
 have hnbx : ∀ x, T.nodes x ≠ none → x ∉ ns → nb1 x = nb x := fun x hx hns => hnb1 x hx (fun hm => hns (hsub x hm))
 have hlg := hE1.len
 rcases hout with ⟨rfl, ⟨nm', hBa1, hev1⟩, hkeys⟩ | ⟨up, more, rfl, ⟨n1', n2', f1, f2, hff, hb1, hb2, hev1, hu1, hu2, hu3, hfa, hfm, hm0⟩⟩
 ·skip
  refine qT 10 rfl (fun _ hS => ymv rfl) (trivial) ?_; refine qT 11 rfl (fun _ hS => yex rfl rfl) (trivial) ?_; refine qT 12 rfl (fun _ hS => yex rfl rfl) (trivial) ?_; refine qT 13 rfl (fun _ hS => yas rfl) (trivial) ?_; refine qT 14 rfl (fun _ hS => yas rfl) (trivial) ?_; refine qE ?_; refine Run.qb (e := [(0, _), (1, _), (6, _), (7, _), (8, _), (12, _), (13, _), (14, _)]) ?_; refine run_seq ?_; refine qN rfl ?_; refine qV (ymv rfl) ?_; refine qV (yeq rfl rfl) ?_; refine rEnd ?_; refine run_true rfl ?_; refine qN rfl ?_; refine qV (yld U24 rfl rfl hBt1 rfl) ?_; refine qV (ymv rfl) ?_
  refine qV (ymv rfl) ?_
  obtain ⟨ns1, M, hev2⟩ := hone T1.nodes nm' _ hBa1 hev1
  have M1 : Mid T1.size h0 T1.nodes no lo hi c ps ns1 (e1 ++ (insE em k v ++ e2)) a := by rw [hsz]; exact M
  refine rCall rfl rfl (yc (args := [.tmp 113, .tmp 114, .tmp 115]) cf47 rfl) (even_all h1 M1 (hne c ps hn) hile ha (hkeys (hfull a hamem)) hE1.srt (by omega)) ?_
  rintro _ w2 ⟨rfl, T2, F2, ns2, h2, b1, b2, b3, b4, ⟨ps', hn2, hps'⟩, hk2, hF2⟩
  rw [hsz] at b1
  refine qM rfl ?_; refine qV (yas rfl) ?_; refine qV (yas rfl) ?_; refine rEnd ?_; refine run_ret Tryz.func68 rfl ?_; refine ⟨_, rfl, T2, nb1, F2, h2, ⟨by rw [b4, hcn1]; simp only [hhas], (hE1.trans b3).mono (by omega), .inl ⟨rfl, ⟨ns2, by rw [hins]; exact b1, hev2.trans b2⟩, fun hlow m hm => ?_⟩⟩, hk01.trans_new hk2 (fun i hi => (hF01 i hi).symm), fun i hi => ?_, hnbx⟩
  ·rw [hn2] at hm
   cases hm
   have := hlow _ hn
   rw [innNd_low] at this
   intro e
   have : ps' = [] := by simpa [innNd] using e
   subst this
   simp at hps'
   omega
  ·have := hk01.size
   rcases hF2 i hi with e | e
   ·exact hF01 i e
   ·exact .inr (by omega)
 ·skip
  obtain ⟨hnoe, ns1, hCh, hkoP, hinP, hnzP, hfullP, hevP⟩ := htwo T1.nodes up more n1' n2' f1 f2 hb1 hb2 hev1 hu1 hu2 hu3 hfa hfm hm0
  obtain ⟨P, hP⟩ : ∃ P, P = ps.take i ++ (up, more) :: ps.drop i := ⟨_, rfl⟩
  have hPl : P.length = ps.length + 1 := by rw [hP]; simp; omega
  have hPk : (innNd c P).keys = ((innNd c ps).keys).take i ++ up :: ((innNd c ps).keys).drop i := by rw [hP]; simp [innNd]
  have hPc : (innNd c P).kids = ((innNd c ps).kids).take (i + 1) ++ more :: ((innNd c ps).kids).drop (i + 1) := by rw [hP]; simp [innNd]
  rw [← hP] at hCh hkoP hinP hnzP hfullP
  rw [← hff, ← hins] at hCh
  have hn1 : T1.nodes no = some (innNd c ps) := by rw [hnoe]; exact hn
  have hmore : 1 ≤ (more : Int) ∧ (more : Int) ≤ 2147483647 := by
   rcases hE1.nod (more : Int) (Bn.some hb2 _ hb2.mem) with e | e
   ·exact hnr _ e
   ·exact hgr _ e
  obtain ⟨q1, hq1, hM1, hq1F, hcl1⟩ := h1.nodeF hn1
  obtain ⟨q1b, q1k, q1v, q1c⟩ := q1
  dsimp only at hq1
  subst hq1
  have hBn1 := hM1.blk
  have hK1 := hM1.keys
  have hV1 := hM1.vals
  have hC1 := hM1.kids
  have hd1 := hM1.d1
  have hd2 := hM1.d2
  have hd3 := hM1.d3
  dsimp only at hBn1 hK1 hV1 hC1 hd1 hd2 hd3
  have hkl : (innNd c ps).keys.length = ps.length := by simp [innNd]
  rw [kcl] at hC1
  rw [hkl] at hK1
  have hbdP : (innNd c P).Bd := by
   obtain ⟨d1, d2, d3, d4, d5, d6⟩ := hM1.bd
   refine ⟨by rw [hPk]; simp at d1 ⊢; omega, by simp [innNd], by rw [hPc]; simp; omega, fun x hx => ?_, by simp [innNd], fun x hx => ?_⟩
   ·have := hkoP.1 x hx; omega
   ·rw [hPc] at hx
    rcases List.mem_append.1 hx with e | e
    ·exact d6 x (List.mem_of_mem_take e)
    ·rcases List.mem_cons.1 e with rfl | e
     ·omega
     ·exact d6 x (List.mem_of_mem_drop e)
  rw [← hnbno]
  refine qT 10 rfl (fun _ hS => ymv rfl) (trivial) ?_; refine qT 11 rfl (fun _ hS => yex rfl rfl) (trivial) ?_; refine qT 12 rfl (fun _ hS => yex rfl rfl) (trivial) ?_; refine qT 13 rfl (fun _ hS => yas rfl) (trivial) ?_; refine qT 14 rfl (fun _ hS => yas rfl) (trivial) ?_; refine qE ?_; refine Run.qb (e := [(0, _), (1, _), (6, _), (7, _), (8, _), (12, _), (13, _), (14, _)]) ?_; refine run_seq ?_; refine qN rfl ?_; refine qV (ymv rfl) ?_; refine qV (yeq rfl rfl) ?_; refine rEnd ?_; refine run_if rfl (fun hmz => ?_) (fun hmz => ?_)
  ·skip
   exact absurd hmz (by omega)
  ·skip
   have hFl1 := h1.lt
   obtain ⟨Q, hQ⟩ : ∃ Q : Nat → Prop, Q = fun g => q1k.ownBlock = some g ∨ q1c.ownBlock = some g := ⟨_, rfl⟩
   have hQF : ∀ g, Q g → F1 g := fun g hg => by
    rw [hQ] at hg
    exact (hq1F g (hg.elim (fun e => .inr (.inl e)) (fun e => .inr (.inr (.inr e))))).1
   have hQn : ¬ Q (nb1 no) := fun e => by
    rw [hQ] at e
    exact e.elim hd1.1 hd1.2.2
   have hQk : ∀ g, q1k.ownBlock = some g → Q g := fun g hg => by rw [hQ]; exact .inl hg
   have hQc : ∀ g, q1c.ownBlock = some g → Q g := fun g hg => by rw [hQ]; exact .inr hg
   have hQl : ∀ g, Q g → g < w1.heap.size := fun g hg => hFl1 g (hQF g hg)
   refine run_skip ?_; refine run_seq ?_
   -- AT: Code.region
   have hcn1' : T1.count = T.count + if hasE es k then 0 else 1 := by rw [hcn1]; simp only [hhas]
   refine run_cut (fun e' w2 => ∃ F2 T2, e' = [(0, I no), (1, ptr bt 0), (6, S []), (7, I 0), (8, ptr (nb1 no) 0)] ∧ T2 = T1.setN no (innNd c P) ∧ TreeA w2 p T2 nb1 F2 ∧ Kp F w w2 ∧ ∀ g, F2 g → F g ∨ w.heap.size ≤ g) ?hkn (fun hkn => ?hmainn)
   case hkn =>
    rintro e' w2 ⟨F2, T2, rfl, hT2, h2, hk2, hF2⟩
    have hc2 := hc.kp hk2 hF2
    have hBt2 := hc2.t
    obtain ⟨mN2, mC2, mO2, gv2, kn2, kc2, ko2, O2⟩ := h2.opn
    refine qN rfl ?_; refine qV ((by first | exact yld U24 rfl rfl hBt2 rfl | exact yld U24 rfl rfl O2.blk rfl)) ?_; refine qV ((by first | exact ync rfl | exact yncf rfl)) ?_; refine qV (yfa fl74_7 rfl) ?_; refine qV ((by first | exact yld U72 rfl rfl hBt2 rfl | exact yld U72 rfl rfl O2.blk rfl)) ?_; refine qV (ymv rfl) ?_; refine rEffP rfl (zmuB (k := no) (K := KZ) U72 (ky_int U3) rfl rfl rfl O2.cm) ?_
    rintro w3 ⟨hM3, hk3⟩
    have h3 := O2.setC w3 _ (updI T2.changed no true) hM3 hk3 (fun x => by
     rw [getL_put]
     by_cases e : x = no
     ·subst e; simp [flag, updI]
     ·rw [if_neg e, O2.cg]; simp [updI, e])
    obtain ⟨T3, hT3⟩ : ∃ X, X = ({ T2 with changed := updI T2.changed no true } : Tr) := ⟨_, rfl⟩
    rw [← hT3] at h3
    have hs3 : T3.size = T.size := by rw [hT3, hT2]; exact hsz
    have hk23 : Kp F2 w2 w3 := hk3.mono' (fun k hk => by rw [hk]; exact O2.fp.2.2.1)
    have hk03 : Kp F w w3 := hk2.trans_new hk23 (fun i hi => (hF2 i hi).symm)
    have hn3 : T3.nodes no = some (innNd c P) := by rw [hT3, hT2]; exact updI_same _ _ _
    obtain ⟨mN3, mC3, mO3, gv3, kn3, kc3, ko3, O3⟩ := h3.opn
    obtain ⟨q3, hq3, hM3', hq3F, hcl3⟩ := h3.nodeF hn3
    obtain ⟨q3b, q3k, q3v, q3c⟩ := q3
    dsimp only at hq3
    subst hq3
    have hBn3 := hM3'.blk
    have hC3 := hM3'.kids
    dsimp only at hBn3 hC3
    have hkl3 : (innNd c P).kids.length = P.length + 1 := by simp [innNd]
    rw [hkl3] at hC3
    obtain ⟨gc3, cc3, rfl⟩ := some_of hC3 (by omega)
    have hc3 : PutC w3 F2 p k v bt bk bv bp := hc2.kp hk23 (fun i hi => .inl hi)
    have hBt3 := hc3.t
    refine rEnd ?_; refine run_seq ?_; refine run_seq ?_
    have hg3 : Ext w3 w3.drew := Ext.drew0 w3
    refine run_draw (fun w' => Ext w3 w') (by kernel_rfl) rfl ?_; refine qT 0 rfl (fun _ hS => ymv rfl) (hg3) ?_; refine qT 1 rfl (fun _ hS => (by first | exact ync rfl | exact yncf rfl)) (hg3) ?_; refine qT 2 rfl (fun _ hS => yfa fl84_3 rfl) (hg3) ?_; refine qT 3 rfl (fun _ hS => (by first | exact yld U82 rfl rfl (hS.blk hBn3) rfl | exact yld U82 rfl rfl (hS.blk hBt3) rfl | exact yld U82 rfl rfl (hS.blk O3.blk) rfl)) (hg3) ?_; refine qT 4 rfl (fun _ hS => yln U82 rfl) (hg3) ?_
    refine qT 5 rfl (fun _ hS => (by first | exact yld U24 rfl rfl (hS.blk hBn3) rfl | exact yld U24 rfl rfl (hS.blk hBt3) rfl | exact yld U24 rfl rfl (hS.blk O3.blk) rfl)) (hg3) ?_; refine qT 6 rfl (fun _ hS => (by first | exact ync rfl | exact yncf rfl)) (hg3) ?_; refine qT 7 rfl (fun _ hS => yfa fl74_3 rfl) (hg3) ?_; refine qT 8 rfl (fun _ hS => (by first | exact yld U3 rfl rfl (hS.blk hBn3) rfl | exact yld U3 rfl rfl (hS.blk hBt3) rfl | exact yld U3 rfl rfl (hS.blk O3.blk) rfl)) (hg3) ?_; refine qT 9 rfl (fun _ hS => yle rfl rfl) (hg3) ?_; refine qE ?_
    have hz1 := hk2.size
    have hz3 := hk23.size
    have hz4 := hg3.size
    have hT3' : T3 = (T1.setN no (innNd c P)).mark no := by rw [hT3, hT2]; rfl
    have hcn3 : T3.count = T1.count := by rw [hT3']; rfl
    have hevo : Evo T1 T3 0 := by rw [hT3']; exact Evo.set hE1.srt hn1
    rw [hs3]
    refine run_if rfl (fun hb => ?_) (fun hb => ?_)
    ·skip
     refine qN rfl ?_; refine qV (yas rfl) ?_; refine qV (yas rfl) ?_; refine rEnd ?_; refine run_ret Tryz.func68 rfl ?_
     obtain ⟨b1, b2⟩ := put_inn1 hz hCh hkoP (by omega) ⟨hnz.1, hnzP⟩ hinP hfullP hevP.nd
     refine ⟨_, rfl, T3, nb1, F2, h3.ext hg3, ⟨by rw [hcn3]; exact hcn1', (hE1.trans hevo).mono (by omega), .inl ⟨rfl, ⟨_, by rw [hT3']; exact b1, hevP.trans (by rw [hT3']; exact b2)⟩, fun _ m hm => ?_⟩⟩, hk03.trans hg3.kp, hF2, hnbx⟩
     rw [hn3] at hm
     cases hm
     intro e
     have : P.length = 0 := by have := congrArg List.length e; simpa [innNd] using this
     omega
    ·skip
     obtain ⟨no', gs, hgs⟩ : ∃ a l, T1.given = a :: l := by
      cases e : T1.given with
      | nil => rw [e] at hlg; simp at hlg; omega
      | cons a l => exact ⟨a, l, rfl⟩
     have hno' := hgr1 no' (by rw [hgs]; simp)
     have hfree := hE1.srt.free no' (by rw [hgs]; simp)
     obtain ⟨f, hf⟩ : ∃ f : Nat, no' = (f : Int) := ⟨no'.toNat, by omega⟩
     subst hf
     have hnof : no ≠ (f : Int) := fun e => by rw [← e, hn1] at hfree; cases hfree.1
     obtain ⟨up2, c2, hup2, htwo2⟩ := put_inn2 hz hCh hkoP (by omega) (by omega) ⟨hnz.1, hnzP⟩ hinP hfullP hevP.nd (by rw [hn1]; simp) hfree.1 (by omega)
     have hM4 : NdM w3.drew (innNd c P) ⟨nb1 no, q3k, q3v, .slice (some ⟨gc3, 0, none⟩) (P.length + 1) cc3⟩ := hM3'.kp hg3.kp (fun _ _ => id)
     have hpart := part_ret hM4 (by omega) rfl hup2
     have hm1 : (P.length + 1) / 2 - 1 + 1 = (P.length + 1) / 2 := by omega
     rw [hm1] at hpart
     dsimp only at hpart
     refine run_skip ?_; refine qN rfl ?_; refine qV (ymv rfl) ?_; refine rCall rfl rfl (yc (args := [.tmp 157]) cf73 rfl) (hpart) ?_
     rintro _ w5 ⟨kv2, cv2, q5, rfl, hq5b, hq5v, hM5, hK5, hC5, hk45, ok5, oc5, okk5, occ5⟩
     have hlt4 : ∀ i, F2 i → i < w3.drew.heap.size := (h3.ext hg3).lt
     obtain ⟨F5, h5, hF5⟩ := hcl3 w5 _ q5 hq5b hM5 ((hg3.kp).trans (hk45.mono' (fun i hi => .inl hi))) (fun i hi => by
      rcases hi with e | e | e | e
      ·exact .inl (.inl (by rw [e, hq5b]))
      ·exact .inr (fun hh => by have := ok5 i e; have := hlt4 i hh; omega)
      ·exact .inl (.inr (.inr (.inl (by rw [hq5v] at e; exact e))))
      ·exact .inr (fun hh => by have := oc5 i e; have := hlt4 i hh; omega))
     obtain ⟨T5, hT5⟩ : ∃ X, X = T3.setN no (innNd c (P.take ((P.length + 1) / 2 - 1))) := ⟨_, rfl⟩
     rw [← hT5] at h5
     have hz5 := hk45.size
     have hlt5 := h5.lt
     refine qV (ymv rfl) ?_; refine qV (yex rfl rfl) ?_; refine qV (yex rfl rfl) ?_; refine rValP rfl rfl (pal (cs := [_, _, _, _]) ti84 rfl) ?_
     rintro _ w6 ⟨b6, rfl, hb6, hx6, hB6⟩
     have hz6 := hx6.size
     refine qV (yas rfl) ?_; refine rEffP rfl (zstA (news := [.bool false, kv2, .slice none 0 0, cv2]) ti84 rfl rfl (by simp only [List.all_cons, List.all_nil, oneV_sl hK5, oneV_sl hC5, Bool.and_true]; rfl) rfl hB6 (by simp)) ?_
     rintro w7 ⟨hB7, hk67⟩
     have hz7 := hk67.size
     have hx57 : Ext w5 w7 := hx6.trans_new hk67 (fun i hi => by omega)
     have hBr : Blk w7 b6 [.bool false, kv2, .slice none 0 0, cv2] 84 := hB7
     have h7 := h5.ext hx57
     have hk35 : Kp F2 w3 w5 := (hg3.kp).trans (hk45.mono' (fun i hi => by rw [hi]; exact (hq3F _ (.inl rfl)).1))
     have hk05 : Kp F w w5 := hk03.trans_new hk35 (fun i hi => (hF2 i hi).symm)
     have hk07 : Kp F w w7 := hk05.trans hx57.kp
     have hF5' : ∀ i, F5 i → F i ∨ w.heap.size ≤ i := fun i hi => by
      rcases hF5 i hi with e | e
      ·exact hF2 i e
      ·rcases e with e | e | e | e
       ·exact hF2 i (by rw [e, hq5b]; exact (hq3F _ (.inl rfl)).1)
       ·exact .inr (by have := ok5 i e; omega)
       ·exact hF2 i (hq3F i (.inr (.inr (.inl (by rw [hq5v] at e; exact e))))).1
       ·exact .inr (by have := oc5 i e; omega)
     have hnotK : ∀ i, kv2.ownBlock = some i → ¬ F5 i := fun i hi hh => by
      obtain ⟨a1, a2, -⟩ := okk5 i hi
      rcases hF5 i hh with e | e
      ·have := hlt4 i e; omega
      ·exact a2 e
     have hnotC : ∀ i, cv2.ownBlock = some i → ¬ F5 i := fun i hi hh => by
      obtain ⟨a1, a2⟩ := occ5 i hi
      rcases hF5 i hh with e | e
      ·have := hlt4 i e; omega
      ·exact a2 e
     have hc7 := hc.kp hk07 hF5'
     have hBt7 := hc7.t
     have hP7 : NdP w7 (innNd c2 (P.drop ((P.length + 1) / 2))) kv2 (.slice none 0 0) cv2 := by
      obtain ⟨d1, d2, d3, d4, d5, d6⟩ := hbdP
      have hd : (P.drop ((P.length + 1) / 2)).length ≤ P.length := by rw [List.length_drop]; omega
      refine ⟨?_, Sl.nil _ _ _, ?_, ⟨by simp [innNd] at d1 ⊢; omega, by simp [innNd], by simp [innNd] at d3 ⊢; omega, fun x hx => ?_, by simp [innNd], fun x hx => ?_⟩, fun g hg => ⟨by simp [Value.ownBlock], (okk5 g hg).2.2⟩, fun g hg => by simp [Value.ownBlock] at hg⟩
      ·have e : (innNd c2 (P.drop ((P.length + 1) / 2))).keys.length = (P.drop ((P.length + 1) / 2)).length := by simp [innNd]
       rw [e]; exact hK5.ext hx57
      ·have e : (innNd c2 (P.drop ((P.length + 1) / 2))).kids.length = (P.drop ((P.length + 1) / 2)).length + 1 := by simp [innNd]
       rw [e]; exact hC5.ext hx57
      ·obtain ⟨y, hy, rfl⟩ := List.mem_map.1 (show x ∈ (P.drop ((P.length + 1) / 2)).map (·.1) from hx)
       exact d4 y.1 (List.mem_map.2 ⟨y, List.mem_of_mem_drop hy, rfl⟩)
      ·rcases List.mem_cons.1 (show x ∈ c2 :: (P.drop ((P.length + 1) / 2)).map (·.2) from hx) with rfl | hx
       ·exact d6 _ (List.mem_cons_of_mem _ (List.mem_map.2 ⟨_, List.mem_of_getElem? hup2, rfl⟩))
       ·obtain ⟨y, hy, rfl⟩ := List.mem_map.1 hx
        exact d6 y.2 (List.mem_cons_of_mem _ (List.mem_map.2 ⟨y, List.mem_of_mem_drop hy, rfl⟩))
     have hgv5 : T5.given = (f : Int) :: gs := by rw [hT5, hT3, hT2]; exact hgs
     have hnv5 : T5.nodes (f : Int) = none := by rw [hT5, hT3, hT2]; show updI (updI T1.nodes no _) no _ (f : Int) = none; rw [updI_ne (Ne.symm hnof), updI_ne (Ne.symm hnof)]; exact hfree.1
     have hPF : ∀ i, ownP kv2 (.slice none 0 0) cv2 i → ¬ F5 i := fun i hi => by
      rcases hi with e | e | e
      ·exact hnotK i e
      ·simp [Value.ownBlock] at e
      ·exact hnotC i e
     have hfr := fresh_ret h7 hgv5 (by rw [hgs] at hgl1; simp at hgl1; omega) hP7 hPF hnv5
     rw [show (innNd c2 (P.drop ((P.length + 1) / 2))).leaf = false from rfl] at hfr
     refine rEnd ?_; refine Run.qb (e := [(1, _), (6, _), (7, _), (13, _), (15, _)]) ?_; refine qN rfl ?_; refine qV (ymv rfl) ?_; refine qV ((by first | exact yld U24 rfl rfl hBr rfl | exact yld U24 rfl rfl hBt7 rfl)) ?_; refine qV ((by first | exact yldA U84 rfl ti84 rfl (Blk.cells (n := 4) hBr (news := [_, _, _, _]) rfl) rfl | exact yldA U84 rfl ti84 rfl (Blk.cells (n := 4) hBt7 (news := [_, _, _, _]) rfl) rfl)) ?_; refine rCall rfl rfl (yc (args := [.tmp 162, .tmp 163]) cf67 rfl) (hfr) ?_
     rintro _ w8 ⟨rfl, b8, F8, h8, hk78, hF8⟩
     refine qV (yas rfl) ?_; refine qV (yas rfl) ?_; refine rEnd ?_; refine run_ret Tryz.func68 rfl ?_
     have hT8 : (({ T5 with given := gs } : Tr).setN (f : Int) (innNd c2 (P.drop ((P.length + 1) / 2)))).mark (f : Int) = ((({ (T1.setN no (innNd c (P.take ((P.length + 1) / 2 - 1)))).mark no with given := gs } : Tr).setN (f : Int) (innNd c2 (P.drop ((P.length + 1) / 2))))).mark (f : Int) := by
      rw [hT5, hT3']
      have e5 : ∀ (a b : Nd), updI (updI T1.nodes no (some b)) no (some a) = updI T1.nodes no (some a) := fun a b => by
       funext x; unfold updI; split <;> rfl
      show ({ T1 with nodes := updI (updI (updI T1.nodes no _) no _) _ _, given := gs, changed := _ } : Tr) = { T1 with nodes := updI (updI T1.nodes no _) _ _, given := gs, changed := _ }
      rw [e5]
      rfl
     rw [hT8] at h8
     obtain ⟨m1, m2, g1, g2, q1', q2', q3', q4', q5', q6', q7', q8', q9'⟩ := htwo2
     refine ⟨_, rfl, _, _, F8, h8, ⟨hcn1', ?_, .inr ⟨up2, f, rfl, m1, m2, g1, g2, q1', q2', q3', hevP.trans q4', q5', q6', q7', q8', q9', by omega⟩⟩, hk07.trans_new hk78 (fun i hi => (hF5' i hi).symm), fun i hi => ?_, fun x hx hxn => ?_⟩
     ·have e1 : Evo T1 ((T1.setN no (innNd c (P.take ((P.length + 1) / 2 - 1)))).mark no) 0 := Evo.set hE1.srt hn1
      have e2 := Evo.fresh (n := innNd c2 (P.drop ((P.length + 1) / 2))) e1.srt (show _ = (f : Int) :: gs from hgs)
      exact (hE1.trans (e1.trans e2)).mono (by omega)
     ·rcases hF8 i hi with e | e | e
      ·exact hF5' i e
      ·exact .inr (by omega)
      ·rcases e with e | e | e
       ·exact .inr (by have := (okk5 i e).1; omega)
       ·simp [Value.ownBlock] at e
       ·exact .inr (by have := (occ5 i e).1; omega)
     ·have hxf : x ≠ (f : Int) := fun e => by
       have := hevP.d2 x hx hxn
       rw [e, hfree.1, ← e] at this
       exact hx this.symm
      rw [updI_ne hxf]
      exact hnbx x hx hxn
   case hmainn =>
    have hone : ∀ {l : List Bytes}, ∀ c' ∈ l.map S, c'.oneCell' = true := fun c' hc => by obtain ⟨z, -, rfl⟩ := List.mem_map.1 hc; rfl
    have honeU : ∀ {l : List Nat}, ∀ c' ∈ l.map u32v, c'.oneCell' = true := fun c' hc => by obtain ⟨z, -, rfl⟩ := List.mem_map.1 hc; rfl
    have hgg : Ext w1 w1.drew := Ext.drew0 w1
    have hkc : Kp Q w1 w1.drew := hgg.kp
    have hK0 := hK1.ext hgg
    have hC0 := hC1.ext hgg
    have hzc := hgg.size
    refine run_drawL [22,25] (fun w' => Kp Q w1 w') (by kernel_rfl) rfl ?_; refine qL [20, 21, 22, 23, 24, 25] 0 rfl (fun _ hS => ymv rfl) (hkc) ?_; refine hTakeU (i := 1) rfl (by kernel_rfl) rfl rfl (fun _ => ymv rfl) (hkc) ?_; refine qL [3, 4, 5, 9, 19, 20, 21, 22, 23, 24, 25] 2 rfl (fun _ hS => ymv rfl) (hkc) ?_; refine qL [4, 5, 9, 19, 20, 21, 22, 23, 24, 25] 3 rfl (fun _ hS => (by first | exact ync rfl | exact yncf rfl)) (hkc) ?_; refine qL [5, 9, 19, 20, 21, 22, 23, 24, 25] 4 rfl (fun _ hS => yfa fl84_1 rfl) (hkc) ?_
    refine qL [9, 19, 20, 21, 22, 23, 24, 25] 5 rfl (fun _ hS => yld U23 rfl rfl (hS.blk hBn1 hQn) rfl) (hkc) ?_; refine qL [9, 19, 20, 21, 22, 23, 24, 25] 6 rfl (fun _ hS => ymv rfl) (hkc) ?_; refine qL [8, 9, 19, 20, 21, 22, 23, 24, 25] 7 rfl (fun _ hS => ymv rfl) (hkc) ?_; refine qL [11, 12, 13, 19, 20, 21, 22, 23, 24, 25] 10 rfl (fun _ hS => ymv rfl) (hkc) ?_; refine qL [12, 13, 19, 20, 21, 22, 23, 24, 25] 11 rfl (fun _ hS => (by first | exact ync rfl | exact yncf rfl)) (hkc) ?_; refine qL [13, 19, 20, 21, 22, 23, 24, 25] 12 rfl (fun _ hS => yfa fl84_3 rfl) (hkc) ?_
    refine qL [19, 20, 21, 22, 23, 24, 25] 13 rfl (fun _ hS => yld U82 rfl rfl (hS.blk hBn1 hQn) rfl) (hkc) ?_; refine qL [15, 19, 20, 21, 22, 23, 24, 25] 14 rfl (fun _ hS => ymv rfl) (hkc) ?_; refine qL [19, 20, 21, 22, 23, 24, 25] 15 rfl (fun _ hS => yad rfl rfl (by omega)) (hkc) ?_; refine qL [17, 18, 19, 20, 21, 22, 23, 24, 25] 16 rfl (fun _ hS => ymv rfl) (hkc) ?_; refine qL [18, 19, 20, 21, 22, 23, 24, 25] 17 rfl (fun _ hS => ycv32 rfl U3 U89) (hkc) ?_; refine hTwoL (i := 8) (j := 18) (by kernel_rfl) ?_ ?_
    ·skip
     refine nValPL (i := 8) rfl rfl rfl (pbs (parts := [(0, .tmp 124)]) (cs := [_]) (zs := [Value.string ⟨#[]⟩]) U23 ti9 rfl (by kernel_rfl) rfl rfl rfl (by decide)) ?_
     rintro _ w8 ⟨b8, rfl, ⟨hb8, hx8, hB8⟩, hS8⟩
     refine ⟨hkc.trans hx8.kp, ?_⟩
     have hkc := hkc.trans (hx8.kp (S := Q))
     have hK0 := hK0.ext hx8
     have hC0 := hC0.ext hx8
     try have hS18 := hS18.ext hx8
     have hl8 : w1.heap.size ≤ b8 := by omega
     have hzc := Nat.le_trans hzc hx8.size
     refine hTwoL (i := 9) (j := 18) (by kernel_rfl) ?_ ?_
     ·skip
      refine nCallL (i := 9) rfl rfl rfl (yc (args := [.tmp 122, .tmp 123, .tmp 125]) cf69 rfl) (insS_ret (i := i) hK0 hS8 rfl hone hile (by omega) (fun b hb e => by have e : b8 = b := Option.some.inj e; have := hQl _ (hQk _ hb); omega)) ?_
      rintro kv9 w9 ⟨hS9, hk9, ho9⟩
      refine ⟨hkc.trans (hk9.mono' hQk), ?_⟩
      have hkc := hkc.trans (hk9.mono' hQk)
      have hC0 := hC0.kp hk9 (fun g hg e => (hd2 g e).2 hg)
      try have hS18 := hS18.kp hk9 (fun g hg e => by have e' : b18 = g := Option.some.inj hg; have := hQl _ (hQk _ e); omega)
      have ho9 : ∀ g, kv9.ownBlock = some g → q1k.ownBlock = some g ∨ w1.heap.size ≤ g := fun g hg => (ho9 g hg).imp id (fun e => Nat.le_trans hzc e)
      have hzc := Nat.le_trans hzc hk9.size
      refine hOneL (i := 18) (by kernel_rfl) ?_; refine nValPL (i := 18) rfl rfl rfl (pbs (parts := [(0, .tmp 134)]) (cs := [_]) (zs := [Value.int .u32 0]) U82 ti89 rfl (by kernel_rfl) rfl rfl rfl (by decide)) ?_
      rintro _ w18 ⟨b18, rfl, ⟨hb18, hx18, hB18⟩, hS18⟩
      refine ⟨hkc.trans hx18.kp, ?_⟩
      have hkc := hkc.trans (hx18.kp (S := Q))
      try have hK0 := hK0.ext hx18
      have hC0 := hC0.ext hx18
      try have hS8 := hS8.ext hx18
      try have hS9 := hS9.ext hx18
      have hl18 : w1.heap.size ≤ b18 := by omega
      have hzc := Nat.le_trans hzc hx18.size
      have hz19 := fun (g : Nat) (hg : kv9.ownBlock = some g) => hS9.lt hg
      refine hOneL (i := 19) (by kernel_rfl) ?_; refine nCallL (i := 19) rfl rfl rfl (yc (args := [.tmp 130, .tmp 132, .tmp 135]) cf72 rfl) (insU_ret (i := i + 1) hC0 hS18 rfl honeU (by omega) (by omega) (fun b hb e => by have e : b18 = b := Option.some.inj e; have := hQl _ (hQc _ hb); omega)) ?_
      rintro cv19 w19 ⟨hS19, hk19, ho19⟩
      refine ⟨hkc.trans (hk19.mono' hQc), ?_⟩
      have hkc := hkc.trans (hk19.mono' hQc)
      have hS9 := hS9.kp hk19 (fun g hg e => (ho9 g hg).elim (fun e' => (hd2 g e').2 e) (fun e' => by have := hQl _ (hQc _ e); omega))
      have hdis : ∀ g, w1.heap.size ≤ g → kv9.ownBlock = some g → cv19.ownBlock ≠ some g := fun g hg h1 h2 => by
       rcases ho19 g h2 with e | e
       ·have := hQl _ (hQc _ e); omega
       ·have := hz19 g h1; omega
      have ho19 : ∀ g, cv19.ownBlock = some g → q1c.ownBlock = some g ∨ w1.heap.size ≤ g := fun g hg => (ho19 g hg).imp id (fun e => Nat.le_trans hzc e)
      refine qL [21, 22, 23, 24, 25] 20 rfl (fun _ hS => (by first | exact ync rfl | exact yncf rfl)) hkc ?_; refine qL [22, 23, 24, 25] 21 rfl (fun _ hS => yfa fl84_1 rfl) hkc ?_; refine hLate [22] (by kernel_rfl) (by kernel_rfl) ?_; refine qO 22 ?_; refine nEffP (i := 22) rfl rfl (zst ti23 rfl rfl (oneV_sl hS9) (hkc.blk hBn1 hQn) (by simp)) ?_
      rintro w22 ⟨hB22, hk22⟩
      refine ⟨trivial, ?_⟩
      refine qT 23 rfl (fun _ hS => (by first | exact ync rfl | exact yncf rfl)) (trivial) ?_; refine qT 24 rfl (fun _ hS => yfa fl84_3 rfl) (trivial) ?_; refine qO 25 ?_; refine nEffP (i := 25) rfl rfl (zst ti82 rfl rfl (oneV_sl hS19) hB22 (by simp)) ?_
      rintro w25 ⟨hB25, hk25⟩
      refine ⟨trivial, ?_⟩
      refine qE ?_; refine Run.qb (e := [(0, _), (1, _), (6, _), (7, _), (8, _), (13, _)]) ?_
      have hk2225 := hk22.trans hk25
      have hnk : ∀ g, kv9.ownBlock = some g → g ≠ nb1 no := fun g hg e => by
       rcases ho9 g hg with h | h
       ·rw [e] at h; exact hd1.1 h
       ·have := hBn1.lt; omega
      have hnc : ∀ g, cv19.ownBlock = some g → g ≠ nb1 no := fun g hg e => by
       rcases ho19 g hg with h | h
       ·rw [e] at h; exact hd1.2.2 h
       ·have := hBn1.lt; omega
      obtain ⟨hM', hfp⟩ := hM1.re (w' := w25) (n' := innNd c P) (kv' := kv9) (vv' := q1v) (cv' := cv19) hB25 (by
        rw [hPk]
        have := hS9.kp hk2225 hnk
        simp only [List.map_append, List.map_cons, List.map_take, List.map_drop, List.length_append, List.length_cons, List.length_take, List.length_drop, hkl]
        rw [show min i ps.length + (ps.length - i + 1) = ps.length + 1 by omega]
        exact this) (by
        have e : (innNd c P).vals = (innNd c ps).vals := rfl
        rw [e]
        exact (hV1.kp hkc (fun g hg e => by
         rw [hQ] at e
         rcases e with e | e
         ·exact (hd2 g e).1 hg
         ·exact hd3 g hg e)).kp hk2225 (fun g hg e => hd1.2.1 (by rw [← e]; exact hg))) (by
        rw [hPc]
        have := hS19.kp hk2225 hnc
        rw [Nat.mod_eq_of_lt (show more < 4294967296 by omega)] at this
        simp only [List.map_append, List.map_cons, List.map_take, List.map_drop, List.length_append, List.length_cons, List.length_take, List.length_drop, kcl]
        rw [show min (i + 1) (ps.length + 1) + (ps.length + 1 - (i + 1) + 1) = ps.length + 1 + 1 by omega]
        exact this) hbdP ho9 (fun g hg => .inl hg) ho19 (fun g hg => ⟨fun e => ⟨fun e' => by have := hV1.lt e'; omega, hdis g hg e⟩, fun e => by have := hV1.lt e; omega⟩)
      obtain ⟨F2, h2, hF2⟩ := hcl1 w25 _ ⟨nb1 no, kv9, q1v, cv19⟩ rfl hM' ((hkc.mono' (fun g hg => by
       rw [hQ] at hg
       exact hg.elim (fun e => .inr (.inl e)) (fun e => .inr (.inr (.inr e))))).trans (hk2225.mono' (fun g hg => .inl hg))) (fun g hg => (hfp g hg).imp id (fun e hh => by have := hFl1 g hh; omega))
      have hF12 : ∀ g, F2 g → F1 g ∨ w1.heap.size ≤ g := fun g hg => by
       rcases hF2 g hg with e | e
       ·exact .inl e
       ·exact (hfp g e).imp (fun e => (hq1F g e).1) id
      have hsz01 := hk01.size
      refine (hkn _ _ ⟨F2, _, rfl, rfl, h2, hk01.trans_new (S := F) (S' := F1) ((hkc.mono' hQF).trans (hk2225.mono' (fun g hg => by rw [hg]; exact (hq1F _ (.inl rfl)).1))) (fun i hi => (hF01 i hi).symm), fun g hg => ?_⟩).qb
      rcases hF12 g hg with e | e
      ·exact hF01 g e
      ·exact .inr (by omega)
     ·skip
      refine nValPL (i := 18) rfl rfl rfl (pbs (parts := [(0, .tmp 134)]) (cs := [_]) (zs := [Value.int .u32 0]) U82 ti89 rfl (by kernel_rfl) rfl rfl rfl (by decide)) ?_
      rintro _ w18 ⟨b18, rfl, ⟨hb18, hx18, hB18⟩, hS18⟩
      refine ⟨hkc.trans hx18.kp, ?_⟩
      have hkc := hkc.trans (hx18.kp (S := Q))
      try have hK0 := hK0.ext hx18
      have hC0 := hC0.ext hx18
      try have hS8 := hS8.ext hx18
      try have hS9 := hS9.ext hx18
      have hl18 : w1.heap.size ≤ b18 := by omega
      have hzc := Nat.le_trans hzc hx18.size
      refine hOneL (i := 9) (by kernel_rfl) ?_; refine nCallL (i := 9) rfl rfl rfl (yc (args := [.tmp 122, .tmp 123, .tmp 125]) cf69 rfl) (insS_ret (i := i) hK0 hS8 rfl hone hile (by omega) (fun b hb e => by have e : b8 = b := Option.some.inj e; have := hQl _ (hQk _ hb); omega)) ?_
      rintro kv9 w9 ⟨hS9, hk9, ho9⟩
      refine ⟨hkc.trans (hk9.mono' hQk), ?_⟩
      have hkc := hkc.trans (hk9.mono' hQk)
      have hC0 := hC0.kp hk9 (fun g hg e => (hd2 g e).2 hg)
      try have hS18 := hS18.kp hk9 (fun g hg e => by have e' : b18 = g := Option.some.inj hg; have := hQl _ (hQk _ e); omega)
      have ho9 : ∀ g, kv9.ownBlock = some g → q1k.ownBlock = some g ∨ w1.heap.size ≤ g := fun g hg => (ho9 g hg).imp id (fun e => Nat.le_trans hzc e)
      have hzc := Nat.le_trans hzc hk9.size
      have hz19 := fun (g : Nat) (hg : kv9.ownBlock = some g) => hS9.lt hg
      refine hOneL (i := 19) (by kernel_rfl) ?_; refine nCallL (i := 19) rfl rfl rfl (yc (args := [.tmp 130, .tmp 132, .tmp 135]) cf72 rfl) (insU_ret (i := i + 1) hC0 hS18 rfl honeU (by omega) (by omega) (fun b hb e => by have e : b18 = b := Option.some.inj e; have := hQl _ (hQc _ hb); omega)) ?_
      rintro cv19 w19 ⟨hS19, hk19, ho19⟩
      refine ⟨hkc.trans (hk19.mono' hQc), ?_⟩
      have hkc := hkc.trans (hk19.mono' hQc)
      have hS9 := hS9.kp hk19 (fun g hg e => (ho9 g hg).elim (fun e' => (hd2 g e').2 e) (fun e' => by have := hQl _ (hQc _ e); omega))
      have hdis : ∀ g, w1.heap.size ≤ g → kv9.ownBlock = some g → cv19.ownBlock ≠ some g := fun g hg h1 h2 => by
       rcases ho19 g h2 with e | e
       ·have := hQl _ (hQc _ e); omega
       ·have := hz19 g h1; omega
      have ho19 : ∀ g, cv19.ownBlock = some g → q1c.ownBlock = some g ∨ w1.heap.size ≤ g := fun g hg => (ho19 g hg).imp id (fun e => Nat.le_trans hzc e)
      refine qL [21, 22, 23, 24, 25] 20 rfl (fun _ hS => (by first | exact ync rfl | exact yncf rfl)) hkc ?_; refine qL [22, 23, 24, 25] 21 rfl (fun _ hS => yfa fl84_1 rfl) hkc ?_; refine hLate [22] (by kernel_rfl) (by kernel_rfl) ?_; refine qO 22 ?_; refine nEffP (i := 22) rfl rfl (zst ti23 rfl rfl (oneV_sl hS9) (hkc.blk hBn1 hQn) (by simp)) ?_
      rintro w22 ⟨hB22, hk22⟩
      refine ⟨trivial, ?_⟩
      refine qT 23 rfl (fun _ hS => (by first | exact ync rfl | exact yncf rfl)) (trivial) ?_; refine qT 24 rfl (fun _ hS => yfa fl84_3 rfl) (trivial) ?_; refine qO 25 ?_; refine nEffP (i := 25) rfl rfl (zst ti82 rfl rfl (oneV_sl hS19) hB22 (by simp)) ?_
      rintro w25 ⟨hB25, hk25⟩
      refine ⟨trivial, ?_⟩
      refine qE ?_; refine Run.qb (e := [(0, _), (1, _), (6, _), (7, _), (8, _), (13, _)]) ?_
      have hk2225 := hk22.trans hk25
      have hnk : ∀ g, kv9.ownBlock = some g → g ≠ nb1 no := fun g hg e => by
       rcases ho9 g hg with h | h
       ·rw [e] at h; exact hd1.1 h
       ·have := hBn1.lt; omega
      have hnc : ∀ g, cv19.ownBlock = some g → g ≠ nb1 no := fun g hg e => by
       rcases ho19 g hg with h | h
       ·rw [e] at h; exact hd1.2.2 h
       ·have := hBn1.lt; omega
      obtain ⟨hM', hfp⟩ := hM1.re (w' := w25) (n' := innNd c P) (kv' := kv9) (vv' := q1v) (cv' := cv19) hB25 (by
        rw [hPk]
        have := hS9.kp hk2225 hnk
        simp only [List.map_append, List.map_cons, List.map_take, List.map_drop, List.length_append, List.length_cons, List.length_take, List.length_drop, hkl]
        rw [show min i ps.length + (ps.length - i + 1) = ps.length + 1 by omega]
        exact this) (by
        have e : (innNd c P).vals = (innNd c ps).vals := rfl
        rw [e]
        exact (hV1.kp hkc (fun g hg e => by
         rw [hQ] at e
         rcases e with e | e
         ·exact (hd2 g e).1 hg
         ·exact hd3 g hg e)).kp hk2225 (fun g hg e => hd1.2.1 (by rw [← e]; exact hg))) (by
        rw [hPc]
        have := hS19.kp hk2225 hnc
        rw [Nat.mod_eq_of_lt (show more < 4294967296 by omega)] at this
        simp only [List.map_append, List.map_cons, List.map_take, List.map_drop, List.length_append, List.length_cons, List.length_take, List.length_drop, kcl]
        rw [show min (i + 1) (ps.length + 1) + (ps.length + 1 - (i + 1) + 1) = ps.length + 1 + 1 by omega]
        exact this) hbdP ho9 (fun g hg => .inl hg) ho19 (fun g hg => ⟨fun e => ⟨fun e' => by have := hV1.lt e'; omega, hdis g hg e⟩, fun e => by have := hV1.lt e; omega⟩)
      obtain ⟨F2, h2, hF2⟩ := hcl1 w25 _ ⟨nb1 no, kv9, q1v, cv19⟩ rfl hM' ((hkc.mono' (fun g hg => by
       rw [hQ] at hg
       exact hg.elim (fun e => .inr (.inl e)) (fun e => .inr (.inr (.inr e))))).trans (hk2225.mono' (fun g hg => .inl hg))) (fun g hg => (hfp g hg).imp id (fun e hh => by have := hFl1 g hh; omega))
      have hF12 : ∀ g, F2 g → F1 g ∨ w1.heap.size ≤ g := fun g hg => by
       rcases hF2 g hg with e | e
       ·exact .inl e
       ·exact (hfp g e).imp (fun e => (hq1F g e).1) id
      have hsz01 := hk01.size
      refine (hkn _ _ ⟨F2, _, rfl, rfl, h2, hk01.trans_new (S := F) (S' := F1) ((hkc.mono' hQF).trans (hk2225.mono' (fun g hg => by rw [hg]; exact (hq1F _ (.inl rfl)).1))) (fun i hi => (hF01 i hi).symm), fun g hg => ?_⟩).qb
      rcases hF12 g hg with e | e
      ·exact hF01 g e
      ·exact .inr (by omega)
    ·skip
     refine nValPL (i := 18) rfl rfl rfl (pbs (parts := [(0, .tmp 134)]) (cs := [_]) (zs := [Value.int .u32 0]) U82 ti89 rfl (by kernel_rfl) rfl rfl rfl (by decide)) ?_
     rintro _ w18 ⟨b18, rfl, ⟨hb18, hx18, hB18⟩, hS18⟩
     refine ⟨hkc.trans hx18.kp, ?_⟩
     have hkc := hkc.trans (hx18.kp (S := Q))
     try have hK0 := hK0.ext hx18
     have hC0 := hC0.ext hx18
     try have hS8 := hS8.ext hx18
     try have hS9 := hS9.ext hx18
     have hl18 : w1.heap.size ≤ b18 := by omega
     have hzc := Nat.le_trans hzc hx18.size
     refine hOneL (i := 8) (by kernel_rfl) ?_; refine nValPL (i := 8) rfl rfl rfl (pbs (parts := [(0, .tmp 124)]) (cs := [_]) (zs := [Value.string ⟨#[]⟩]) U23 ti9 rfl (by kernel_rfl) rfl rfl rfl (by decide)) ?_
     rintro _ w8 ⟨b8, rfl, ⟨hb8, hx8, hB8⟩, hS8⟩
     refine ⟨hkc.trans hx8.kp, ?_⟩
     have hkc := hkc.trans (hx8.kp (S := Q))
     have hK0 := hK0.ext hx8
     have hC0 := hC0.ext hx8
     try have hS18 := hS18.ext hx8
     have hl8 : w1.heap.size ≤ b8 := by omega
     have hzc := Nat.le_trans hzc hx8.size
     refine hOneL (i := 9) (by kernel_rfl) ?_; refine nCallL (i := 9) rfl rfl rfl (yc (args := [.tmp 122, .tmp 123, .tmp 125]) cf69 rfl) (insS_ret (i := i) hK0 hS8 rfl hone hile (by omega) (fun b hb e => by have e : b8 = b := Option.some.inj e; have := hQl _ (hQk _ hb); omega)) ?_
     rintro kv9 w9 ⟨hS9, hk9, ho9⟩
     refine ⟨hkc.trans (hk9.mono' hQk), ?_⟩
     have hkc := hkc.trans (hk9.mono' hQk)
     have hC0 := hC0.kp hk9 (fun g hg e => (hd2 g e).2 hg)
     try have hS18 := hS18.kp hk9 (fun g hg e => by have e' : b18 = g := Option.some.inj hg; have := hQl _ (hQk _ e); omega)
     have ho9 : ∀ g, kv9.ownBlock = some g → q1k.ownBlock = some g ∨ w1.heap.size ≤ g := fun g hg => (ho9 g hg).imp id (fun e => Nat.le_trans hzc e)
     have hzc := Nat.le_trans hzc hk9.size
     have hz19 := fun (g : Nat) (hg : kv9.ownBlock = some g) => hS9.lt hg
     refine hOneL (i := 19) (by kernel_rfl) ?_; refine nCallL (i := 19) rfl rfl rfl (yc (args := [.tmp 130, .tmp 132, .tmp 135]) cf72 rfl) (insU_ret (i := i + 1) hC0 hS18 rfl honeU (by omega) (by omega) (fun b hb e => by have e : b18 = b := Option.some.inj e; have := hQl _ (hQc _ hb); omega)) ?_
     rintro cv19 w19 ⟨hS19, hk19, ho19⟩
     refine ⟨hkc.trans (hk19.mono' hQc), ?_⟩
     have hkc := hkc.trans (hk19.mono' hQc)
     have hS9 := hS9.kp hk19 (fun g hg e => (ho9 g hg).elim (fun e' => (hd2 g e').2 e) (fun e' => by have := hQl _ (hQc _ e); omega))
     have hdis : ∀ g, w1.heap.size ≤ g → kv9.ownBlock = some g → cv19.ownBlock ≠ some g := fun g hg h1 h2 => by
      rcases ho19 g h2 with e | e
      ·have := hQl _ (hQc _ e); omega
      ·have := hz19 g h1; omega
     have ho19 : ∀ g, cv19.ownBlock = some g → q1c.ownBlock = some g ∨ w1.heap.size ≤ g := fun g hg => (ho19 g hg).imp id (fun e => Nat.le_trans hzc e)
     refine qL [21, 22, 23, 24, 25] 20 rfl (fun _ hS => (by first | exact ync rfl | exact yncf rfl)) hkc ?_; refine qL [22, 23, 24, 25] 21 rfl (fun _ hS => yfa fl84_1 rfl) hkc ?_; refine hLate [22] (by kernel_rfl) (by kernel_rfl) ?_; refine qO 22 ?_; refine nEffP (i := 22) rfl rfl (zst ti23 rfl rfl (oneV_sl hS9) (hkc.blk hBn1 hQn) (by simp)) ?_
     rintro w22 ⟨hB22, hk22⟩
     refine ⟨trivial, ?_⟩
     refine qT 23 rfl (fun _ hS => (by first | exact ync rfl | exact yncf rfl)) (trivial) ?_; refine qT 24 rfl (fun _ hS => yfa fl84_3 rfl) (trivial) ?_; refine qO 25 ?_; refine nEffP (i := 25) rfl rfl (zst ti82 rfl rfl (oneV_sl hS19) hB22 (by simp)) ?_
     rintro w25 ⟨hB25, hk25⟩
     refine ⟨trivial, ?_⟩
     refine qE ?_; refine Run.qb (e := [(0, _), (1, _), (6, _), (7, _), (8, _), (13, _)]) ?_
     have hk2225 := hk22.trans hk25
     have hnk : ∀ g, kv9.ownBlock = some g → g ≠ nb1 no := fun g hg e => by
      rcases ho9 g hg with h | h
      ·rw [e] at h; exact hd1.1 h
      ·have := hBn1.lt; omega
     have hnc : ∀ g, cv19.ownBlock = some g → g ≠ nb1 no := fun g hg e => by
      rcases ho19 g hg with h | h
      ·rw [e] at h; exact hd1.2.2 h
      ·have := hBn1.lt; omega
     obtain ⟨hM', hfp⟩ := hM1.re (w' := w25) (n' := innNd c P) (kv' := kv9) (vv' := q1v) (cv' := cv19) hB25 (by
       rw [hPk]
       have := hS9.kp hk2225 hnk
       simp only [List.map_append, List.map_cons, List.map_take, List.map_drop, List.length_append, List.length_cons, List.length_take, List.length_drop, hkl]
       rw [show min i ps.length + (ps.length - i + 1) = ps.length + 1 by omega]
       exact this) (by
       have e : (innNd c P).vals = (innNd c ps).vals := rfl
       rw [e]
       exact (hV1.kp hkc (fun g hg e => by
        rw [hQ] at e
        rcases e with e | e
        ·exact (hd2 g e).1 hg
        ·exact hd3 g hg e)).kp hk2225 (fun g hg e => hd1.2.1 (by rw [← e]; exact hg))) (by
       rw [hPc]
       have := hS19.kp hk2225 hnc
       rw [Nat.mod_eq_of_lt (show more < 4294967296 by omega)] at this
       simp only [List.map_append, List.map_cons, List.map_take, List.map_drop, List.length_append, List.length_cons, List.length_take, List.length_drop, kcl]
       rw [show min (i + 1) (ps.length + 1) + (ps.length + 1 - (i + 1) + 1) = ps.length + 1 + 1 by omega]
       exact this) hbdP ho9 (fun g hg => .inl hg) ho19 (fun g hg => ⟨fun e => ⟨fun e' => by have := hV1.lt e'; omega, hdis g hg e⟩, fun e => by have := hV1.lt e; omega⟩)
     obtain ⟨F2, h2, hF2⟩ := hcl1 w25 _ ⟨nb1 no, kv9, q1v, cv19⟩ rfl hM' ((hkc.mono' (fun g hg => by
      rw [hQ] at hg
      exact hg.elim (fun e => .inr (.inl e)) (fun e => .inr (.inr (.inr e))))).trans (hk2225.mono' (fun g hg => .inl hg))) (fun g hg => (hfp g hg).imp id (fun e hh => by have := hFl1 g hh; omega))
     have hF12 : ∀ g, F2 g → F1 g ∨ w1.heap.size ≤ g := fun g hg => by
      rcases hF2 g hg with e | e
      ·exact .inl e
      ·exact (hfp g e).imp (fun e => (hq1F g e).1) id
     have hsz01 := hk01.size
     refine (hkn _ _ ⟨F2, _, rfl, rfl, h2, hk01.trans_new (S := F) (S' := F1) ((hkc.mono' hQF).trans (hk2225.mono' (fun g hg => by rw [hg]; exact (hq1F _ (.inl rfl)).1))) (fun i hi => (hF01 i hi).symm), fun g hg => ?_⟩).qb
     rcases hF12 g hg with e | e
     ·exact hF01 g e
     ·exact .inr (by omega)
theorem putAt_all {p : Nat} {k v : Bytes} {bt bk bv bp : Nat} : ∀ H, PutAt p k v bt bk bv bp (H + 1)
 | 0 => putAt_leaf
 | h + 1 => putAt_inner (putAt_all h)
end
end Go.Proofs.YtocnhaoilnojmaaGreat
namespace Go.Proofs.YtocnhaoilnojmaaGreat
open Go Go.RowKit
set_option linter.all false
theorem insE_len (es : Es) (k v : Bytes) : (insE es k v).length = es.length + if hasE es k then 0 else 1 := by
 by_cases h : hasE es k
 ·rw [insE_set h, if_pos h, List.length_set]; rfl
 ·have := posE_le es k
  rw [insE_new h, if_neg h, List.length_append, List.length_cons, List.length_take, List.length_drop]
  omega
theorem delE_len {es : Es} {k : Bytes} (h : hasE es k) : (delE es k).length + 1 = es.length := by
 have := hasE_lt h
 unfold delE
 rw [if_pos h, List.length_append, List.length_take, List.length_drop]
 omega
theorem InvP.stepR {T T' : Tr} {H H' g : Nat} {ns ns' : List Int} {es es' : Es} (h : InvP T H ns es) (e : EvoR T T' g) (b : Bn T.size T'.nodes H' T'.root [] none ns' es') (v : Ev T.nodes T'.nodes ns ns') (c : T'.count = es'.length) : InvP T' H' ns' es' := by
 have hn := e.num h.num h.gnum
 have hs : T'.size = T.size := (show Evo _ _ _ from e).size
 refine ⟨by rw [hs]; exact b, v.nd, fun x hx => ?_, c, hn.1, hn.2, e.giv, e.chgd h.chg⟩
 rcases v.d3 x hx with e | ⟨e1, e2⟩
 ·exact e
 ·exact absurd (h.all x e1) e2
/-- A first page. -/
theorem Inv.first {T : Tr} {H : Nat} {ns : List Int} {es : Es} (h : Inv T H ns es) (hz : sizeOk (T.size : Int)) (hr : T.root = 0) {f : Int} {gs : List Int} (hg : T.given = f :: gs) :
  es = [] ∧ H = 0 ∧ InvP { ((({ T with given := gs } : Tr).setN f (leafNd [])).mark f) with root := f } 1 [f] [] ∧ EvoR T { ((({ T with given := gs } : Tr).setN f (leafNd [])).mark f) with root := f } 1 := by
 rcases h.std with ⟨-, hH, hns, hes⟩ | ⟨e, -⟩
 ·have hev : EvoR T { ((({ T with given := gs } : Tr).setN f (leafNd [])).mark f) with root := f } 1 := (Evo.fresh h.giv hg).toR'
  have hn := hev.num h.num h.gnum
  have hno : ∀ x, T.nodes x = none := fun x => by
   cases e : T.nodes x with
   | none => rfl
   | some n => have := h.all x (by rw [e]; simp); rw [hns] at this; cases this
  subst hes
  refine ⟨rfl, hH, ⟨?_, by simp, fun x hx => ?_, h.cnt, hn.1, hn.2, hev.giv, hev.chgd h.chg⟩, hev⟩
  ·refine Bn.of_leaf (by have := hz.2.1; show T.size ≤ 4096; omega) (updI_same _ _ _) ⟨by simp, List.Pairwise.nil⟩ ?_ (by simp)
   have := hz.1
   show 3 + entB [] ≤ T.size
   simp [entB]; omega
  ·have hx' : updI T.nodes f (some (leafNd [])) x ≠ none := hx
   by_cases e : x = f
   ·simp [e]
   ·rw [updI_ne e, hno] at hx'; exact absurd rfl hx'
 ·exact absurd hr e
/-- A new root. -/
theorem InvP.two {T T2 : Tr} {H g : Nat} {ns : List Int} {es es' : Es} (h : InvP T H ns es) (hz : sizeOk (T.size : Int)) (e : Evo T T2 g) {up : Bytes} {more : Nat} (t : Two T.size H T.nodes T2.nodes T.root [] none ns es' up more) {f : Int} {gs : List Int} (hgv : T2.given = f :: gs) {r : Nat} (hr : T.root = (r : Int)) (hc : T2.count = es'.length) :
  ∃ ns', InvP { ((({ T2 with given := gs } : Tr).setN f (innNd r [(up, more)])).mark f) with root := f } (H + 1) ns' es' ∧ EvoR T { ((({ T2 with given := gs } : Tr).setN f (innNd r [(up, more)])).mark f) with root := f } (g + 1) := by
 obtain ⟨n1, n2, e1, e2, rfl, b1, b2, hev, hu1, hu2, hu3, hl1, hl2, hm0⟩ := t
 have hfn : T2.nodes f = none := (e.srt.free f (by rw [hgv]; simp)).1
 have hff := hev.nd
 have hs1 : ∀ y ∈ n1, y ≠ f := fun y hy e => b1.some y hy (by rw [e]; exact hfn)
 have hs2 : ∀ y ∈ n2, y ≠ f := fun y hy e => b2.some y hy (by rw [e]; exact hfn)
 have hE : EvoR T { ((({ T2 with given := gs } : Tr).setN f (innNd r [(up, more)])).mark f) with root := f } (g + 1) := (e.trans (Evo.fresh (n := innNd r [(up, more)]) e.srt hgv)).toR'
 have hr0 : r ≠ 0 := by
  have := h.num T.root (h.bn.some _ h.bn.mem)
  omega
 have hrf : (r : Int) ≠ f := fun e' => hs1 _ b1.mem (by rw [hr]; exact e')
 have hmf : (more : Int) ≠ f := hs2 _ b2.mem
 have hor : 8 ≤ orderE T.size := by have := hz.1; unfold orderE; omega
 obtain ⟨h0, rfl⟩ : ∃ h0, H = h0 + 1 := ⟨H - 1, by have := h.bn.pos; omega⟩
 refine ⟨f :: (n1 ++ n2), h.stepR hE ?_ (hev.trans (Ev.new (List.nodup_cons.2 ⟨fun hf => ?_, hff⟩) hfn (fun x hx => (List.mem_cons.1 hx).symm) (fun x hx => List.mem_cons_of_mem _ hx) (List.mem_cons_self ..))) hc, hE⟩
 ·refine Bn.of_inner (c := r) (ps := [(up, more)]) (by have := hz.1; omega) (updI_same _ _ _) ⟨by simpa using hu3, by simp [Rise]⟩ (by simp; omega) ⟨hr0, by simpa using hm0⟩ (by simpa using hu1) (fun d hd m hm => ?_) ⟨n1, n2, e1, e2, rfl, rfl, ?_, ?_⟩
  ·have hd' : d = r ∨ d = more := by simpa using hd
   rcases hd' with rfl | rfl
   ·have hm' : updI T2.nodes f (some (innNd d [(up, more)])) (d : Int) = some m := hm
    rw [updI_ne hrf] at hm'
    exact hl1 m (by rw [hr]; exact hm')
   ·have hm' : updI T2.nodes f (some (innNd r [(up, d)])) (d : Int) = some m := hm
    rw [updI_ne hmf] at hm'
    exact hl2 m hm'
  ·rw [← hr]
   exact b1.away (fun y _ hy => updI_ne (hs1 y hy))
  ·exact b2.away (fun y _ hy => updI_ne (hs2 y hy))
 ·rcases List.mem_append.1 hf with hf | hf
  ·exact hs1 _ hf rfl
  ·exact hs2 _ hf rfl
theorem EvoR.mono {T T' : Tr} {a b : Nat} (h : EvoR T T' a) (hab : a ≤ b) : EvoR T T' b := Evo.mono h hab
/-- Two leaves have two entries. -/
theorem Two.two {z : Nat} {N N' : Nodes} {no : Int} {lo : Bytes} {hi : Option Bytes} {ns : List Int} {es : Es} {up : Bytes} {more : Nat} (hz : sizeOk (z : Int)) (t : Two z 1 N N' no lo hi ns es up more) : 2 ≤ es.length := by
 obtain ⟨n1, n2, e1, e2, rfl, b1, b2, -, -, -, -, hl1, hl2, -⟩ := t
 obtain ⟨z1, z2, -⟩ := id hz
 obtain ⟨h1, -⟩ := b1.leaf (by omega)
 obtain ⟨h2, -⟩ := b2.leaf (by omega)
 have a1 := hl1 _ h1
 have a2 := hl2 _ h2
 rw [leafNd_low] at a1 a2
 have e1n : e1 ≠ [] := fun e => a1 (by rw [e]; simp [entB]; omega)
 have e2n : e2 ≠ [] := fun e => a2 (by rw [e]; simp [entB]; omega)
 have := List.length_pos_iff.2 e1n
 have := List.length_pos_iff.2 e2n
 rw [List.length_append]
 omega
end Go.Proofs.YtocnhaoilnojmaaGreat
namespace Go.Proofs.YtocnhaoilnojmaaGreat
open Go Go.RowKit
set_option linter.all false
set_option maxRecDepth 100000
section
variable {w : World} {p : Nat} {T : Tr} {nb : Int → Nat} {F : Nat → Prop}
/-- What a call leaves of a tree. -/
def TreeS (p : Nat) (F : Nat → Prop) (w w' : World) (T' : Tr) (H' : Nat) (ns' : List Int) (es' : Es) : Prop := ∃ nb' F', TreeA w' p T' nb' F' ∧ Inv T' H' ns' es' ∧ Kp F w w' ∧ ∀ k, F' k → F k ∨ w.heap.size ≤ k
/-- May an entry be? -/
def may (z : Nat) (k v : Bytes) : Prop := keyOk k ∧ 3 + k.length + v.length ≤ mostE z
instance (k : Bytes) : Decidable (keyOk k) := by unfold keyOk; infer_instance
instance (z : Nat) (k v : Bytes) : Decidable (may z k v) := by unfold may; infer_instance
set_option maxHeartbeats 4000000 in
theorem putT_ret (h : TreeA w p T nb F) {H : Nat} {ns : List Int} {es : Es} (hI : Inv T H ns es) (hes : es.length ≤ 900000) (k v : Bytes) (hkl : k.length ≤ 140737488355328) (hvl : v.length ≤ 140737488355328) :
  Ret Tryz.prog 38 [ptr p 0, S k, S v] w fun val w' => (val = I 1 ∧ ¬ may T.size k v ∧ Ext w w') ∨ (val = I 3 ∧ may T.size k v ∧ T.given.length < H + 1 ∧ Ext w w') ∨ (val = I 0 ∧ may T.size k v ∧ H + 1 ≤ T.given.length ∧ ∃ T' H' ns', TreeS p F w w' T' H' ns' (insE es k v) ∧ EvoR T T' (H + 3)) := by
 have hz : sizeOk (T.size : Int) := size_ok h
 obtain ⟨z1, z2, -⟩ := id hz
 have hmz : mostE T.size ≤ 1100 := by unfold mostE; omega
 have hgl := hI.gl
 obtain ⟨mN, mC, mO, gv, kn, kc, ko, O⟩ := h.opn
 obtain ⟨ga, gcp, hgv, -⟩ := O.gs.rd.shape
 subst hgv
 have hHl := (hI.cnts hz).2
 refine ret_of_run (e := [(0, _), (1, _), (2, _)]) Tryz.func38 rfl Tryz.ntmps38 rfl rfl ?_; refine qN rfl ?_; refine rValP rfl rfl (pbx rfl rfl) ?_
 rintro _ w1 ⟨bt, rfl, hbt, hx1, hB1⟩
 refine rValP rfl rfl (pbx rfl rfl) ?_
 rintro _ w2 ⟨bk, rfl, hbk, hx2, hB2⟩
 refine rValP rfl rfl (pbx rfl rfl) ?_
 rintro _ w3 ⟨bv, rfl, hbv, hx3, hB3⟩
 have hz1 := hx1.size
 have hz2 := hx2.size
 have hz3 := hx3.size
 have hBt := (hx2.trans hx3).blk hB1
 have hBk := hx3.blk hB2
 have hBv := hB3
 have hx03 : Ext w w3 := (hx1.trans hx2).trans hx3
 have hBO := hx03.blk O.blk
 have hlt := h.lt
 have hFt : ¬ F bt := fun e => by have := hlt _ e; omega
 have hFk : ¬ F bk := fun e => by have := hlt _ e; omega
 have hFv : ¬ F bv := fun e => by have := hlt _ e; omega
 refine qV (yas rfl) ?_; refine rEnd ?_; refine run_seq ?_; refine run_block ?_; refine qN rfl ?_; refine qV (yld U24 rfl rfl hBt rfl) ?_; refine qV (yeqpN U24 rfl rfl) ?_; refine qV (yas rfl) ?_; refine rEnd ?_; refine run_false rfl ?_; refine run_seq ?_
 have hg3 : Ext w3 w3.drew := Ext.drew0 w3
 have hkey : ∀ (b : Bool) (w0 : World), decide (keyOk k) = b → Ret Tryz.prog 66 [S k] w0 fun v' w' => v' = .bool b ∧ w' = w0 := fun b w0 hb => by
  have := key_ret k w0
  rw [show decide (1 ≤ k.length ∧ k.length ≤ 64) = b from hb] at this
  exact this
 by_cases hk : keyOk k
 ·skip
  refine run_draw (fun w' => Ext w3 w') (by kernel_rfl) rfl ?_; refine qT 0 rfl (fun _ hS => (by first | exact yld U9 rfl rfl (hS.blk hBt) rfl | exact yld U9 rfl rfl (hS.blk hBk) rfl | exact yld U9 rfl rfl (hS.blk hBv) rfl | exact yld U9 rfl rfl (hS.blk hBO) rfl)) (hg3) ?_; refine qO 1 ?_; refine nCall (i := 1) rfl rfl rfl (yc (args := [.tmp 14]) cf66 rfl) (hkey true _ (decide_eq_true hk)) ?_
  rintro _ w4 ⟨rfl, rfl⟩
  refine ⟨hg3, ?_⟩
  refine qT 2 rfl (fun _ hS => (by first | exact yntd rfl | exact ynt rfl)) (hg3) ?_; refine qT 3 rfl (fun _ hS => ymv rfl) (hg3) ?_; refine qT 4 rfl (fun _ hS => (by first | exact yld U9 rfl rfl (hS.blk hBt) rfl | exact yld U9 rfl rfl (hS.blk hBk) rfl | exact yld U9 rfl rfl (hS.blk hBv) rfl | exact yld U9 rfl rfl (hS.blk hBO) rfl)) (hg3) ?_; refine qT 5 rfl (fun _ hS => ylnS U9 rfl) (hg3) ?_; refine qT 6 rfl (fun _ hS => yad rfl rfl (by omega)) (hg3) ?_
  refine qT 7 rfl (fun _ hS => (by first | exact yld U9 rfl rfl (hS.blk hBt) rfl | exact yld U9 rfl rfl (hS.blk hBk) rfl | exact yld U9 rfl rfl (hS.blk hBv) rfl | exact yld U9 rfl rfl (hS.blk hBO) rfl)) (hg3) ?_; refine qT 8 rfl (fun _ hS => ylnS U9 rfl) (hg3) ?_; refine qT 9 rfl (fun _ hS => yad rfl rfl (by omega)) (hg3) ?_; refine qT 10 rfl (fun _ hS => (by first | exact yld U24 rfl rfl (hS.blk hBt) rfl | exact yld U24 rfl rfl (hS.blk hBk) rfl | exact yld U24 rfl rfl (hS.blk hBv) rfl | exact yld U24 rfl rfl (hS.blk hBO) rfl)) (hg3) ?_
  refine qT 11 rfl (fun _ hS => (by first | exact ync rfl | exact yncf rfl)) (hg3) ?_; refine qT 12 rfl (fun _ hS => yfa fl74_2 rfl) (hg3) ?_; refine qT 13 rfl (fun _ hS => (by first | exact yld U3 rfl rfl (hS.blk hBt) rfl | exact yld U3 rfl rfl (hS.blk hBk) rfl | exact yld U3 rfl rfl (hS.blk hBv) rfl | exact yld U3 rfl rfl (hS.blk hBO) rfl)) (hg3) ?_; refine qT 14 rfl (fun _ hS => ygt rfl rfl) (hg3) ?_; refine qT 15 rfl (fun _ hS => ypF rfl rfl) (hg3) ?_; refine qT 16 rfl (fun _ hS => yas rfl) (hg3) ?_; refine qE ?_; refine Run.qb (e := [(3, _), (4, _), (5, _), (6, _), (13, _)]) ?_
  refine run_if rfl (fun hm => ?_) (fun hm => ?_)
  ·skip
   refine qN rfl ?_; refine qV (yas rfl) ?_; refine rEnd ?_; refine run_ret Tryz.func38 rfl ?_
   exact ⟨_, rfl, .inl ⟨rfl, fun hh => by have := hh.2; omega, hx03.trans hg3⟩⟩
  ·skip
   have hmay : may T.size k v := ⟨hk, by omega⟩
   have hg4 : Ext w3 w3.drew.drew := hg3.trans (Ext.drew0 _)
   have hx04 := hx03.trans hg4
   refine run_seq ?_; refine run_draw (fun w' => Ext w3 w') (by kernel_rfl) rfl ?_; refine qT 0 rfl (fun _ hS => (by first | exact yld U24 rfl rfl (hS.blk hBt) rfl | exact yld U24 rfl rfl (hS.blk hBO) rfl)) (hg4) ?_; refine qT 1 rfl (fun _ hS => (by first | exact ync rfl | exact yncf rfl)) (hg4) ?_; refine qT 2 rfl (fun _ hS => yfa fl74_6 rfl) (hg4) ?_; refine qT 3 rfl (fun _ hS => (by first | exact yld U34 rfl rfl (hS.blk hBt) rfl | exact yld U34 rfl rfl (hS.blk hBO) rfl)) (hg4) ?_; refine qT 4 rfl (fun _ hS => yln U34 rfl) (hg4) ?_
   refine qT 5 rfl (fun _ hS => (by first | exact yld U24 rfl rfl (hS.blk hBt) rfl | exact yld U24 rfl rfl (hS.blk hBO) rfl)) (hg4) ?_; refine qO 6 ?_; refine nCall (i := 6) rfl rfl rfl (yc (args := [.tmp 36]) cf25 rfl) (need_ret (h.ext hx04) hI (by omega)) ?_
   rintro _ w4 ⟨rfl, rfl⟩
   refine ⟨hg4, ?_⟩
   refine qT 7 rfl (fun _ hS => ylt rfl rfl) (hg4) ?_; refine qT 8 rfl (fun _ hS => yas rfl) (hg4) ?_; refine qE ?_; refine run_if rfl (fun hf => ?_) (fun hf => ?_)
   ·skip
    refine qN rfl ?_; refine qV (yas rfl) ?_; refine rEnd ?_; refine run_ret Tryz.func38 rfl ?_
    exact ⟨_, rfl, .inr (.inl ⟨rfl, hmay, by omega, hx04⟩)⟩
   ·skip
    have hroom : H + 1 ≤ T.given.length := by omega
    have hBt4 := hg4.blk hBt
    have hBO4 := hg4.blk hBO
    obtain ⟨w4, hw4⟩ : ∃ w4, w3.drew.drew = w4 := ⟨_, rfl⟩
    rw [hw4] at hg4 hx04 hBt4 hBO4 ⊢
    have h4 := h.ext hx04
    have hz4 := hg4.size
    refine run_skip ?_; refine run_inBlock ?_; refine run_seq ?_; refine qN rfl ?_; refine qV ((by first | exact yld U24 rfl rfl hBt4 rfl | exact yld U24 rfl rfl hBO4 rfl)) ?_; refine qV ((by first | exact ync rfl | exact yncf rfl)) ?_; refine qV (yfa fl74_1 rfl) ?_; refine qV ((by first | exact yld U3 rfl rfl hBt4 rfl | exact yld U3 rfl rfl hBO4 rfl)) ?_; refine qV (yeq rfl rfl) ?_; refine rEnd ?_
    refine run_cut (fun e' w5 => ∃ T1 nb1 F1 H1 ns1 g1, e' = [(3, ptr bt 0), (4, ptr bk 0), (5, ptr bv 0), (6, I 0)] ∧ TreeA w5 p T1 nb1 F1 ∧ InvP T1 H1 ns1 es ∧ EvoR T T1 g1 ∧ g1 + H1 ≤ H + 2 ∧ ((H1 = 1 ∧ es = []) ∨ H1 + 1 ≤ T1.given.length) ∧ (∀ c ps, T1.nodes T1.root = some (innNd c ps) → ps ≠ []) ∧ Kp F w4 w5 ∧ ∀ g, F1 g → F g ∨ w4.heap.size ≤ g) ?hk (fun hk => ?hmain)
    case hk =>
     rintro e' w5 ⟨T1, nb1, F1, H1, ns1, g1, rfl, h1, hI1, hE1, hg1, hroom1, hne1, hk45, hF1⟩
     have hw4l : bt < w4.heap.size ∧ bk < w4.heap.size ∧ bv < w4.heap.size := ⟨(hg4.blk hBt).lt, (hg4.blk hBk).lt, (hg4.blk hBv).lt⟩
     have hF1t : ¬ F1 bt ∧ ¬ F1 bk ∧ ¬ F1 bv := ⟨fun e => (hF1 _ e).elim hFt (by omega), fun e => (hF1 _ e).elim hFk (by omega), fun e => (hF1 _ e).elim hFv (by omega)⟩
     have hBt5 := hk45.blk (hg4.blk hBt) hFt
     have hBk5 := hk45.blk (hg4.blk hBk) hFk
     have hBv5 := hk45.blk (hg4.blk hBv) hFv
     have hlt1 := h1.lt
     refine qN rfl ?_; refine rValP rfl rfl (pal (cs := [_]) ti110 rfl) ?_
     rintro _ w6 ⟨bp, rfl, hbp, hx6, hB6⟩
     refine qM rfl ?_; refine qV (ymf (first := []) (caps := [.tmp 3, .tmp 4, .tmp 5, .tmp 7]) rfl rfl) ?_; refine rEffP rfl (zst ti110 rfl rfl rfl hB6 (by simp)) ?_
     rintro w7 ⟨hB7, hk7⟩
     have hx57 : Ext w5 w7 := hx6.trans_new hk7 (fun i hi => by omega)
     have h7 := h1.ext hx57
     have hFp : ¬ F1 bp := fun e => by have := hlt1 _ e; omega
     have hc7 : PutC w7 F1 p k v bt bk bv bp := ⟨hx57.blk hBt5, hx57.blk hBk5, hx57.blk hBv5, hB7, hF1t.1, hF1t.2.1, hF1t.2.2, hFp⟩
     have hz57 := hx57.size
     have hg7 : Ext w7 w7.drew := Ext.drew0 w7
     have hz7 := hg7.size
     have hgl1 := hI1.gl
     have hput : Ret Tryz.prog 68 [I T1.root, ptr bt 0, ptr bk 0, ptr bv 0, ptr bp 0] w7.drew fun val w' => ∃ T' nb' F', TreeA w' p T' nb' F' ∧ PutPost T1 H1 T1.root [] none ns1 es k v val T' ∧ Kp F1 w7.drew w' ∧ (∀ i, F' i → F1 i ∨ w7.drew.heap.size ≤ i) ∧ ∀ x, T1.nodes x ≠ none → x ∉ ns1 → nb' x = nb1 x := by
      have hc8 : PutC w7.drew F1 p k v bt bk bv bp := hc7.kp hg7.kp (fun i hi => .inl hi)
      have hs1 : T1.size = T.size := (show Evo _ _ _ from hE1).size
      have hkv : 3 + k.length + v.length ≤ mostE T1.size := by rw [hs1]; exact hmay.2
      have hcn1 : T1.count ≤ 1000000000 := by have := hI1.cnt; omega
      rcases hroom1 with ⟨e1, e2⟩ | hr1
      ·subst e1
       subst e2
       exact put_leaf_ret (h7.ext hg7) hc8 hI1.bn (inB_top k) hk hkv hI1.giv hI1.gnum (by omega) (.inl rfl) hcn1
      ·obtain ⟨h0, rfl⟩ : ∃ h0, H1 = h0 + 1 := ⟨H1 - 1, by have := hI1.bn.pos; omega⟩
       exact putAt_all h0 _ T1 nb1 F1 T1.root [] none ns1 es (h7.ext hg7) hc8 hI1.bn hI1.nd (inB_top k) hk hkv hI1.giv hI1.gnum hI1.num (by omega) hcn1 hne1
     obtain ⟨mN7, mC7, mO7, gv7, kn7, kc7, ko7, O7⟩ := h7.opn
     have hBO7 := O7.blk
     have hBt7 := hc7.t
     refine rEnd ?_; refine run_seq ?_; refine run_seq ?_; refine run_drawL [5] (fun w' => Ext w7 w') (by kernel_rfl) rfl ?_; refine qL [5, 6, 7, 8, 9, 10] 0 rfl (fun _ hS => (by first | exact yld U110 rfl rfl (hS.blk hB7) rfl | exact yld U110 rfl rfl (hS.blk hBt7) rfl | exact yld U110 rfl rfl (hS.blk hBO7) rfl)) (hg7) ?_; refine qL [2, 3, 4, 5, 6, 7, 8, 9, 10] 1 rfl (fun _ hS => (by first | exact yld U24 rfl rfl (hS.blk hB7) rfl | exact yld U24 rfl rfl (hS.blk hBt7) rfl | exact yld U24 rfl rfl (hS.blk hBO7) rfl)) (hg7) ?_
     refine qL [3, 4, 5, 6, 7, 8, 9, 10] 2 rfl (fun _ hS => (by first | exact ync rfl | exact yncf rfl)) (hg7) ?_; refine qL [4, 5, 6, 7, 8, 9, 10] 3 rfl (fun _ hS => yfa fl74_1 rfl) (hg7) ?_; refine qL [5, 6, 7, 8, 9, 10] 4 rfl (fun _ hS => (by first | exact yld U3 rfl rfl (hS.blk hB7) rfl | exact yld U3 rfl rfl (hS.blk hBt7) rfl | exact yld U3 rfl rfl (hS.blk hBO7) rfl)) (hg7) ?_; refine hLate [5] (by kernel_rfl) (by kernel_rfl) ?_; refine qO 5 ?_; refine nCall (i := 5) rfl rfl rfl (ycv' (args := [.tmp 56]) cf68 rfl rfl) (hput) ?_
     rintro v8 w8 ⟨T2, nb2, F2, h2, ⟨hcn2, hE2, hout⟩, hk2, hF2, -⟩
     refine ⟨trivial, ?_⟩
     have hs1 : T1.size = T.size := (show Evo _ _ _ from hE1).size
     have hz1' : sizeOk (T1.size : Int) := by rw [hs1]; exact hz
     have hk5d : Kp F w4 w7.drew := hk45.trans (hx57.trans hg7).kp
     have hk48 : Kp F w4 w8 := hk5d.trans_new hk2 (fun i hi => (hF1 i hi).symm)
     have hz45 := hk45.size
     have hF2' : ∀ g, F2 g → F g ∨ w4.heap.size ≤ g := fun g hg => by
      rcases hF2 g hg with e | e
      ·exact hF1 g e
      ·exact .inr (by omega)
     have hes2 : T2.count = (insE es k v).length := by rw [insE_len, hcn2, hI1.cnt]
     have hBt8 := hk48.blk (hg4.blk hBt) hFt
     have hF2t : ¬ F2 bt := fun e => (hF2' _ e).elim hFt (by omega)
     have hE12 := hE1.trans hE2.toR
     rcases hout with ⟨rfl, hone, -⟩ | ⟨up, more, rfl, htwo⟩
     ·obtain ⟨nsx, hb2, hev2⟩ := hone
      have hI2 : InvP T2 H1 nsx (insE es k v) := hI1.step hE2 hb2 hev2 hes2
      refine qT 6 rfl (fun _ hS => ymv rfl) (trivial) ?_; refine qT 7 rfl (fun _ hS => yex rfl rfl) (trivial) ?_; refine qT 8 rfl (fun _ hS => yex rfl rfl) (trivial) ?_; refine qT 9 rfl (fun _ hS => yas rfl) (trivial) ?_; refine qT 10 rfl (fun _ hS => yas rfl) (trivial) ?_; refine qE ?_; refine qN rfl ?_; refine qV (ymv rfl) ?_; refine qV (yne rfl rfl) ?_; refine rEnd ?_; refine run_false rfl ?_; refine run_skip ?_; refine qN rfl ?_; refine qV (yld U24 rfl rfl hBt8 rfl) ?_; refine rCall rfl rfl (yc (args := [.tmp 78]) cf48 rfl) (settle_ret h2 hI2) ?_
      rintro _ w9 ⟨rfl, T3, H3, ns3, F3, h3, hI3, hH3, hE3, hk3, hF3⟩
      refine qM rfl ?_; refine qV (yas rfl) ?_; refine rEnd ?_; refine run_ret Tryz.func38 rfl ?_
      have hz8 := hk48.size
      refine ⟨_, rfl, .inr (.inr ⟨rfl, hmay, hroom, T3, H3, ns3, ⟨_, F3, h3, hI3, hx04.kp.trans (hk48.trans_new hk3 (fun i hi => (hF2' i hi).symm)), fun g hg => ?_⟩, (hE12.trans hE3).mono (by omega)⟩)⟩
      have hz04 := hx04.size
      rcases hF3 g hg with e | e
      ·exact (hF2' g e).imp id (fun e => by omega)
      ·exact .inr (by omega)
     ·skip
      refine qT 6 rfl (fun _ hS => ymv rfl) (trivial) ?_; refine qT 7 rfl (fun _ hS => yex rfl rfl) (trivial) ?_; refine qT 8 rfl (fun _ hS => yex rfl rfl) (trivial) ?_; refine qT 9 rfl (fun _ hS => yas rfl) (trivial) ?_; refine qT 10 rfl (fun _ hS => yas rfl) (trivial) ?_; refine qE ?_; refine qN rfl ?_; refine qV (ymv rfl) ?_; refine qV (yne rfl rfl) ?_; refine rEnd ?_
      refine run_cut (fun e' w10 => ∃ T3 H3 ns3 nb3 F3, e' = [(3, ptr bt 0), (6, I 0)] ∧ TreeA w10 p T3 nb3 F3 ∧ InvP T3 H3 ns3 (insE es k v) ∧ EvoR T T3 (H + 3) ∧ Kp F w4 w10 ∧ ∀ g, F3 g → F g ∨ w4.heap.size ≤ g) ?hkb (fun hkb => ?hmainb)
      case hkb =>
       rintro e' w10 ⟨T3, H3, ns3, nb3, F3, rfl, h3, hI3, hE3, hk410, hF3⟩
       have hBt10 := hk410.blk (hg4.blk hBt) hFt
       refine qN rfl ?_; refine qV (yld U24 rfl rfl hBt10 rfl) ?_; refine rCall rfl rfl (yc (args := [.tmp 78]) cf48 rfl) (settle_ret h3 hI3) ?_
       rintro _ w11 ⟨rfl, T4, H4, ns4, F4, h4', hI4, hH4, hE4, hk4', hF4⟩
       refine qM rfl ?_; refine qV (yas rfl) ?_; refine rEnd ?_; refine run_ret Tryz.func38 rfl ?_
       have hz10 := hk410.size
       have hz04 := hx04.size
       refine ⟨_, rfl, .inr (.inr ⟨rfl, hmay, hroom, T4, H4, ns4, ⟨_, F4, h4', hI4, hx04.kp.trans (hk410.trans_new hk4' (fun i hi => (hF3 i hi).symm)), fun g hg => ?_⟩, (hE3.trans hE4).mono (by omega)⟩)⟩
       rcases hF4 g hg with e | e
       ·exact (hF3 g e).imp id (fun e => by omega)
       ·exact .inr (by omega)
      case hmainb =>
       refine run_if rfl (fun hm => ?_) (fun hm => ?_)
       ·skip
        have hgl2 : T2.given.length ≤ 2147483647 := by
         have := rise_len hE2.srt.rise (fun x hx => (hE2.toR.num hI1.num hI1.gnum).2 x hx)
         omega
        obtain ⟨f, gs, hgs⟩ : ∃ f gs, T2.given = f :: gs := by
         cases e : T2.given with
         | nil =>
           have hle := hE2.len
           rw [e] at hle
           simp at hle
           rcases hroom1 with ⟨e1, e2⟩ | hr1
           ·subst e1
            subst e2
            have := htwo.two hz1'
            rw [insE_len] at this
            simp at this
            split at this <;> omega
           ·omega
         | cons a l => exact ⟨a, l, rfl⟩
        have hr1 := hI1.num T1.root (hI1.bn.some _ hI1.bn.mem)
        obtain ⟨r, hr⟩ : ∃ r : Nat, T1.root = (r : Int) := ⟨T1.root.toNat, by omega⟩
        have hr2 : T2.root = (r : Int) := by rw [hE2.root]; exact hr
        obtain ⟨ns3, hI3, hE3⟩ := hI1.two hz1' hE2 htwo hgs hr hes2
        have hmn : 1 ≤ (more : Int) ∧ (more : Int) ≤ 2147483647 := by
         obtain ⟨n1, n2, e1, e2, -, -, hb2, -⟩ := htwo
         exact (hE2.toR.num hI1.num hI1.gnum).1 _ (hb2.some _ hb2.mem)
        have hup : 1 ≤ up.length ∧ up.length ≤ 64 := by
         obtain ⟨n1, n2, e1, e2, -, -, -, -, -, -, hu, -⟩ := htwo
         exact hu
        obtain ⟨mN8, mC8, mO8, gv8, kn8, kc8, ko8, O8⟩ := h2.opn
        have hBO8 : Blk w8 p [I (T2.size : Int), I ((r : Nat) : Int), I (mostE T2.size : Int), I (orderE T2.size : Int), I (T2.count : Int), .map (some mN8), gv8, .map (some mC8), .map (some mO8)] 74 := by rw [← hr2]; exact O8.blk
        have hg8 : Ext w8 w8.drew := Ext.drew0 w8
        have hkc : Kp F2 w8 w8.drew := hg8.kp
        have hxc : Ext w8 w8.drew := hg8
        have hlt2 := h2.lt
        have hzc := hg8.size
        have hz8 := hk48.size
        have hz04 := hx04.size
        refine run_drawL [16] (fun w' => Kp F2 w8 w') (by kernel_rfl) rfl ?_; refine qL [14, 15, 16] 0 rfl (fun _ hS => yld U24 rfl rfl (hS.blk hBt8 hF2t) rfl) (hkc) ?_; refine qL [13, 14, 15, 16] 1 rfl (fun _ hS => yld U24 rfl rfl (hS.blk hBt8 hF2t) rfl) (hkc) ?_; refine qL [3, 12, 13, 14, 15, 16] 2 rfl (fun _ hS => ymv rfl) (hkc) ?_; refine qL [5, 6, 7, 8, 11, 12, 13, 14, 15, 16] 4 rfl (fun _ hS => yld U24 rfl rfl (hS.blk hBt8 hF2t) rfl) (hkc) ?_; refine qL [6, 7, 8, 11, 12, 13, 14, 15, 16] 5 rfl (fun _ hS => (by first | exact ync rfl | exact yncf rfl)) (hkc) ?_
        refine qL [7, 8, 11, 12, 13, 14, 15, 16] 6 rfl (fun _ hS => yfa fl74_1 rfl) (hkc) ?_; refine qL [10, 11, 12, 13, 14, 15, 16] 9 rfl (fun _ hS => ymv rfl) (hkc) ?_; refine qL [11, 12, 13, 14, 15, 16] 10 rfl (fun _ hS => ycv32 rfl U3 U89) (hkc) ?_; refine hTwoL (i := 3) (j := 7) (by kernel_rfl) ?_ ?_
        ·skip
         refine nValPL (i := 3) rfl rfl rfl (pbs (parts := [(0, .tmp 64)]) (cs := [_]) (zs := [Value.string ⟨#[]⟩]) U23 ti9 rfl (by kernel_rfl) rfl rfl rfl (by decide)) ?_
         rintro _ wa ⟨ba, rfl, ⟨hba, hxa, hBa⟩, hSa⟩
         refine ⟨hkc.trans hxa.kp, ?_⟩
         have hkc := hkc.trans (hxa.kp (S := F2))
         have hxc := hxc.trans hxa
         try have hSb := hSb.ext hxa
         have hla : w8.heap.size ≤ ba := by omega
         have hzc := Nat.le_trans hzc hxa.size
         refine hOneL (i := 7) (by kernel_rfl) ?_; refine nValL (i := 7) rfl rfl rfl (yld U3 rfl rfl (hxc.blk hBO8) rfl) (hkc) ?_; refine qL [11, 12, 13, 14, 15, 16] 8 rfl (fun _ hS => ycv32 rfl U3 U89) hkc ?_; refine hOneL (i := 11) (by kernel_rfl) ?_; refine nValPL (i := 11) rfl rfl rfl (pbs (parts := [(0, .tmp 70), (1, .tmp 72)]) (cs := [_, _]) (zs := [Value.int .u32 0, Value.int .u32 0]) U82 ti89 rfl (by kernel_rfl) rfl rfl rfl (by decide)) ?_
         rintro _ wb ⟨bb, rfl, ⟨hbb, hxb, hBb⟩, hSb⟩
         refine ⟨hkc.trans hxb.kp, ?_⟩
         have hkc := hkc.trans (hxb.kp (S := F2))
         have hxc := hxc.trans hxb
         try have hSa := hSa.ext hxb
         have hlb : w8.heap.size ≤ bb := by omega
         have hzc := Nat.le_trans hzc hxb.size
         refine qL [13, 14, 15, 16] 12 rfl (fun _ hS => ybd (parts := [(1, .tmp 65), (3, .tmp 73)]) (cs := [_, _, _, _]) ti84 rfl sp84 rfl rfl) hkc ?_
         have hne : ba ≠ bb := by have := hBa.lt; have := hBb.lt; omega
         rw [Nat.mod_eq_of_lt (show more < 4294967296 by omega), Nat.mod_eq_of_lt (show r < 4294967296 by omega)] at hSb
         have hNd : NdP _ (innNd r [(up, more)]) _ (.slice none 0 0) _ := ⟨hSa, Sl.nil _ _ _, hSb, ⟨by simp [innNd], by simp [innNd], by simp [innNd], by simp [innNd]; omega, by simp [innNd], by simp [innNd]; omega⟩, fun k hk => ⟨by simp [Value.ownBlock], fun e => hne ((Option.some.inj hk).trans (Option.some.inj e).symm)⟩, fun k hk => by simp [Value.ownBlock] at hk⟩
         have hfr := fresh_ret (h2.ext hxc) hgs (by rw [hgs] at hgl2; simp at hgl2; omega) hNd (fun g hg hh => by
          have := hlt2 g hh
          rcases hg with e | e | e
          ·have e' : ba = g := Option.some.inj e; omega
          ·simp [Value.ownBlock] at e
          ·have e' : bb = g := Option.some.inj e; omega) (hE2.srt.free f (by rw [hgs]; simp)).1
         rw [show (innNd r [(up, more)]).leaf = false from rfl] at hfr
         refine hOneL (i := 13) (by kernel_rfl) ?_; refine nCallL (i := 13) rfl rfl rfl (yc (args := [.tmp 63, .tmp 74]) cf67 rfl) (hfr) ?_
         rintro _ w9 ⟨rfl, b9, F9, h9, hk9, hF9⟩
         refine ⟨hkc.trans hk9, ?_⟩
         have hkc := hkc.trans hk9
         obtain ⟨mN9, mC9, mO9, gv9, kn9, kc9, ko9, O9⟩ := h9.opn
         have hB9 := O9.blk
         refine qL [15, 16] 14 rfl (fun _ hS => (by first | exact ync rfl | exact yncf rfl)) hkc ?_; refine qL [16] 15 rfl (fun _ hS => yfa fl74_1 rfl) hkc ?_; refine hLate [16] (by kernel_rfl) (by kernel_rfl) ?_; refine qO 16 ?_; refine nEffP (i := 16) rfl rfl (zst ti3 rfl rfl rfl hB9 (by simp [trCs])) ?_
         rintro w10 ⟨hB10, hk10⟩
         refine ⟨trivial, ?_⟩
         refine qE ?_; refine Run.qb (e := [(3, _), (6, _)]) ?_
         have h10 := O9.setB w10 f T2.count (by simpa [trCs, Tr.setN, Tr.mark] using hB10) hk10
         have hF9' : ∀ g, F9 g → F g ∨ w4.heap.size ≤ g := fun g hg => by
          rcases hF9 g hg with e | e | e
          ·exact hF2' g e
          ·exact .inr (by omega)
          ·rcases e with e | e | e
           ·have e' : ba = g := Option.some.inj e; exact .inr (by omega)
           ·simp [Value.ownBlock] at e
           ·have e' : bb = g := Option.some.inj e; exact .inr (by omega)
         have hk410 : Kp F w4 w10 := (hk48.trans_new hkc (fun i hi => (hF2' i hi).symm)).trans_new hk10 (fun i hi => by rw [hi]; exact (hF9' _ O9.fp.1).symm)
         exact (hkb _ _ ⟨_, _, ns3, _, F9, rfl, h10, hI3, (hE1.trans hE3).mono (by omega), hk410, hF9'⟩).qb
        ·skip
         refine nValL (i := 7) rfl rfl rfl (yld U3 rfl rfl (hxc.blk hBO8) rfl) (hkc) ?_; refine qL [11, 12, 13, 14, 15, 16] 8 rfl (fun _ hS => ycv32 rfl U3 U89) hkc ?_; refine hTwoL (i := 3) (j := 11) (by kernel_rfl) ?_ ?_
         ·skip
          refine nValPL (i := 3) rfl rfl rfl (pbs (parts := [(0, .tmp 64)]) (cs := [_]) (zs := [Value.string ⟨#[]⟩]) U23 ti9 rfl (by kernel_rfl) rfl rfl rfl (by decide)) ?_
          rintro _ wa ⟨ba, rfl, ⟨hba, hxa, hBa⟩, hSa⟩
          refine ⟨hkc.trans hxa.kp, ?_⟩
          have hkc := hkc.trans (hxa.kp (S := F2))
          have hxc := hxc.trans hxa
          try have hSb := hSb.ext hxa
          have hla : w8.heap.size ≤ ba := by omega
          have hzc := Nat.le_trans hzc hxa.size
          refine hOneL (i := 11) (by kernel_rfl) ?_; refine nValPL (i := 11) rfl rfl rfl (pbs (parts := [(0, .tmp 70), (1, .tmp 72)]) (cs := [_, _]) (zs := [Value.int .u32 0, Value.int .u32 0]) U82 ti89 rfl (by kernel_rfl) rfl rfl rfl (by decide)) ?_
          rintro _ wb ⟨bb, rfl, ⟨hbb, hxb, hBb⟩, hSb⟩
          refine ⟨hkc.trans hxb.kp, ?_⟩
          have hkc := hkc.trans (hxb.kp (S := F2))
          have hxc := hxc.trans hxb
          try have hSa := hSa.ext hxb
          have hlb : w8.heap.size ≤ bb := by omega
          have hzc := Nat.le_trans hzc hxb.size
          refine qL [13, 14, 15, 16] 12 rfl (fun _ hS => ybd (parts := [(1, .tmp 65), (3, .tmp 73)]) (cs := [_, _, _, _]) ti84 rfl sp84 rfl rfl) hkc ?_
          have hne : ba ≠ bb := by have := hBa.lt; have := hBb.lt; omega
          rw [Nat.mod_eq_of_lt (show more < 4294967296 by omega), Nat.mod_eq_of_lt (show r < 4294967296 by omega)] at hSb
          have hNd : NdP _ (innNd r [(up, more)]) _ (.slice none 0 0) _ := ⟨hSa, Sl.nil _ _ _, hSb, ⟨by simp [innNd], by simp [innNd], by simp [innNd], by simp [innNd]; omega, by simp [innNd], by simp [innNd]; omega⟩, fun k hk => ⟨by simp [Value.ownBlock], fun e => hne ((Option.some.inj hk).trans (Option.some.inj e).symm)⟩, fun k hk => by simp [Value.ownBlock] at hk⟩
          have hfr := fresh_ret (h2.ext hxc) hgs (by rw [hgs] at hgl2; simp at hgl2; omega) hNd (fun g hg hh => by
           have := hlt2 g hh
           rcases hg with e | e | e
           ·have e' : ba = g := Option.some.inj e; omega
           ·simp [Value.ownBlock] at e
           ·have e' : bb = g := Option.some.inj e; omega) (hE2.srt.free f (by rw [hgs]; simp)).1
          rw [show (innNd r [(up, more)]).leaf = false from rfl] at hfr
          refine hOneL (i := 13) (by kernel_rfl) ?_; refine nCallL (i := 13) rfl rfl rfl (yc (args := [.tmp 63, .tmp 74]) cf67 rfl) (hfr) ?_
          rintro _ w9 ⟨rfl, b9, F9, h9, hk9, hF9⟩
          refine ⟨hkc.trans hk9, ?_⟩
          have hkc := hkc.trans hk9
          obtain ⟨mN9, mC9, mO9, gv9, kn9, kc9, ko9, O9⟩ := h9.opn
          have hB9 := O9.blk
          refine qL [15, 16] 14 rfl (fun _ hS => (by first | exact ync rfl | exact yncf rfl)) hkc ?_; refine qL [16] 15 rfl (fun _ hS => yfa fl74_1 rfl) hkc ?_; refine hLate [16] (by kernel_rfl) (by kernel_rfl) ?_; refine qO 16 ?_; refine nEffP (i := 16) rfl rfl (zst ti3 rfl rfl rfl hB9 (by simp [trCs])) ?_
          rintro w10 ⟨hB10, hk10⟩
          refine ⟨trivial, ?_⟩
          refine qE ?_; refine Run.qb (e := [(3, _), (6, _)]) ?_
          have h10 := O9.setB w10 f T2.count (by simpa [trCs, Tr.setN, Tr.mark] using hB10) hk10
          have hF9' : ∀ g, F9 g → F g ∨ w4.heap.size ≤ g := fun g hg => by
           rcases hF9 g hg with e | e | e
           ·exact hF2' g e
           ·exact .inr (by omega)
           ·rcases e with e | e | e
            ·have e' : ba = g := Option.some.inj e; exact .inr (by omega)
            ·simp [Value.ownBlock] at e
            ·have e' : bb = g := Option.some.inj e; exact .inr (by omega)
          have hk410 : Kp F w4 w10 := (hk48.trans_new hkc (fun i hi => (hF2' i hi).symm)).trans_new hk10 (fun i hi => by rw [hi]; exact (hF9' _ O9.fp.1).symm)
          exact (hkb _ _ ⟨_, _, ns3, _, F9, rfl, h10, hI3, (hE1.trans hE3).mono (by omega), hk410, hF9'⟩).qb
         ·skip
          refine nValPL (i := 11) rfl rfl rfl (pbs (parts := [(0, .tmp 70), (1, .tmp 72)]) (cs := [_, _]) (zs := [Value.int .u32 0, Value.int .u32 0]) U82 ti89 rfl (by kernel_rfl) rfl rfl rfl (by decide)) ?_
          rintro _ wb ⟨bb, rfl, ⟨hbb, hxb, hBb⟩, hSb⟩
          refine ⟨hkc.trans hxb.kp, ?_⟩
          have hkc := hkc.trans (hxb.kp (S := F2))
          have hxc := hxc.trans hxb
          try have hSa := hSa.ext hxb
          have hlb : w8.heap.size ≤ bb := by omega
          have hzc := Nat.le_trans hzc hxb.size
          refine hOneL (i := 3) (by kernel_rfl) ?_; refine nValPL (i := 3) rfl rfl rfl (pbs (parts := [(0, .tmp 64)]) (cs := [_]) (zs := [Value.string ⟨#[]⟩]) U23 ti9 rfl (by kernel_rfl) rfl rfl rfl (by decide)) ?_
          rintro _ wa ⟨ba, rfl, ⟨hba, hxa, hBa⟩, hSa⟩
          refine ⟨hkc.trans hxa.kp, ?_⟩
          have hkc := hkc.trans (hxa.kp (S := F2))
          have hxc := hxc.trans hxa
          try have hSb := hSb.ext hxa
          have hla : w8.heap.size ≤ ba := by omega
          have hzc := Nat.le_trans hzc hxa.size
          refine qL [13, 14, 15, 16] 12 rfl (fun _ hS => ybd (parts := [(1, .tmp 65), (3, .tmp 73)]) (cs := [_, _, _, _]) ti84 rfl sp84 rfl rfl) hkc ?_
          have hne : ba ≠ bb := by have := hBa.lt; have := hBb.lt; omega
          rw [Nat.mod_eq_of_lt (show more < 4294967296 by omega), Nat.mod_eq_of_lt (show r < 4294967296 by omega)] at hSb
          have hNd : NdP _ (innNd r [(up, more)]) _ (.slice none 0 0) _ := ⟨hSa, Sl.nil _ _ _, hSb, ⟨by simp [innNd], by simp [innNd], by simp [innNd], by simp [innNd]; omega, by simp [innNd], by simp [innNd]; omega⟩, fun k hk => ⟨by simp [Value.ownBlock], fun e => hne ((Option.some.inj hk).trans (Option.some.inj e).symm)⟩, fun k hk => by simp [Value.ownBlock] at hk⟩
          have hfr := fresh_ret (h2.ext hxc) hgs (by rw [hgs] at hgl2; simp at hgl2; omega) hNd (fun g hg hh => by
           have := hlt2 g hh
           rcases hg with e | e | e
           ·have e' : ba = g := Option.some.inj e; omega
           ·simp [Value.ownBlock] at e
           ·have e' : bb = g := Option.some.inj e; omega) (hE2.srt.free f (by rw [hgs]; simp)).1
          rw [show (innNd r [(up, more)]).leaf = false from rfl] at hfr
          refine hOneL (i := 13) (by kernel_rfl) ?_; refine nCallL (i := 13) rfl rfl rfl (yc (args := [.tmp 63, .tmp 74]) cf67 rfl) (hfr) ?_
          rintro _ w9 ⟨rfl, b9, F9, h9, hk9, hF9⟩
          refine ⟨hkc.trans hk9, ?_⟩
          have hkc := hkc.trans hk9
          obtain ⟨mN9, mC9, mO9, gv9, kn9, kc9, ko9, O9⟩ := h9.opn
          have hB9 := O9.blk
          refine qL [15, 16] 14 rfl (fun _ hS => (by first | exact ync rfl | exact yncf rfl)) hkc ?_; refine qL [16] 15 rfl (fun _ hS => yfa fl74_1 rfl) hkc ?_; refine hLate [16] (by kernel_rfl) (by kernel_rfl) ?_; refine qO 16 ?_; refine nEffP (i := 16) rfl rfl (zst ti3 rfl rfl rfl hB9 (by simp [trCs])) ?_
          rintro w10 ⟨hB10, hk10⟩
          refine ⟨trivial, ?_⟩
          refine qE ?_; refine Run.qb (e := [(3, _), (6, _)]) ?_
          have h10 := O9.setB w10 f T2.count (by simpa [trCs, Tr.setN, Tr.mark] using hB10) hk10
          have hF9' : ∀ g, F9 g → F g ∨ w4.heap.size ≤ g := fun g hg => by
           rcases hF9 g hg with e | e | e
           ·exact hF2' g e
           ·exact .inr (by omega)
           ·rcases e with e | e | e
            ·have e' : ba = g := Option.some.inj e; exact .inr (by omega)
            ·simp [Value.ownBlock] at e
            ·have e' : bb = g := Option.some.inj e; exact .inr (by omega)
          have hk410 : Kp F w4 w10 := (hk48.trans_new hkc (fun i hi => (hF2' i hi).symm)).trans_new hk10 (fun i hi => by rw [hi]; exact (hF9' _ O9.fp.1).symm)
          exact (hkb _ _ ⟨_, _, ns3, _, F9, rfl, h10, hI3, (hE1.trans hE3).mono (by omega), hk410, hF9'⟩).qb
       ·skip
        exfalso
        apply hm
        intro e
        obtain ⟨n1, n2, e1, e2, -, -, -, -, -, -, -, -, -, hm0⟩ := htwo
        omega
    case hmain =>
     refine run_if rfl (fun hr => ?_) (fun hr => ?_)
     ·skip
      obtain ⟨f, gs, hgs⟩ : ∃ f gs, T.given = f :: gs := by
       cases e : T.given with
       | nil => rw [e] at hroom; simp at hroom
       | cons a l => exact ⟨a, l, rfl⟩
      have hg5 : Ext w4 w4.drew := Ext.drew0 w4
      obtain ⟨he0, hH0, hP1, hE1⟩ := hI.first hz hr hgs
      subst he0
      have hNd : NdP w4.drew (leafNd []) (.slice none 0 0) (.slice none 0 0) (.slice none 0 0) := ⟨Sl.nil _ _ _, Sl.nil _ _ _, Sl.nil _ _ _, leaf_bd hz ⟨by simp, List.Pairwise.nil⟩ (by simp [entB]), fun k hk => by simp [Value.ownBlock] at hk, fun k hk => by simp [Value.ownBlock] at hk⟩
      have hown : ∀ k, ¬ ownP (.slice none 0 0) (.slice none 0 0) (.slice none 0 0) k := fun k hk => by simp [ownP, Value.ownBlock] at hk
      have hfr := fresh_ret (h4.ext hg5) hgs (by rw [hgs] at hgl; simp at hgl; omega) hNd (fun k hk => absurd hk (hown k)) (hI.giv.free f (by rw [hgs]; simp)).1
      rw [show (leafNd []).leaf = true from rfl] at hfr
      refine run_drawL [6] (fun w' => Kp F w4 w') (by kernel_rfl) rfl ?_; refine qL [4, 5, 6] 0 rfl (fun _ hS => yld U24 rfl rfl (hS.blk hBt4 hFt) rfl) (hg5.kp) ?_; refine qL [3, 4, 5, 6] 1 rfl (fun _ hS => yld U24 rfl rfl (hS.blk hBt4 hFt) rfl) (hg5.kp) ?_; refine qL [3, 4, 5, 6] 2 rfl (fun _ hS => ybd (parts := [(0, .const (Value.bool true))]) (cs := [_, _, _, _]) ti84 rfl sp84 rfl rfl) (hg5.kp) ?_; refine hOneL (i := 3) (by kernel_rfl) ?_; refine nCallL (i := 3) rfl rfl rfl (yc (args := [.tmp 45, .tmp 46]) cf67 rfl) (hfr) ?_
      rintro _ w5 ⟨rfl, b5, F5, h5, hk5, hF5⟩
      refine ⟨hg5.kp.trans hk5, ?_⟩
      obtain ⟨mN5, mC5, mO5, gv5, kn5, kc5, ko5, O5⟩ := h5.opn
      have hB5 := O5.blk
      refine qL [5, 6] 4 rfl (fun _ hS => (by first | exact ync rfl | exact yncf rfl)) (hg5.kp.trans hk5) ?_; refine qL [6] 5 rfl (fun _ hS => yfa fl74_1 rfl) (hg5.kp.trans hk5) ?_; refine hLate [6] (by kernel_rfl) (by kernel_rfl) ?_; refine qO 6 ?_; refine nEffP (i := 6) rfl rfl (zst ti3 rfl rfl rfl hB5 (by simp [trCs])) ?_
      rintro w6 ⟨hB6, hk6⟩
      refine ⟨trivial, ?_⟩
      refine qE ?_; refine Run.qb (e := [(3, _), (4, _), (5, _), (6, _)]) ?_
      have h6 := O5.setB w6 f T.count (by simpa [trCs, Tr.setN, Tr.mark] using hB6) hk6
      have hz5 := hg5.size
      have hF5' : ∀ g, F5 g → F g ∨ w4.heap.size ≤ g := fun g hg => by
       rcases hF5 g hg with e | e | e
       ·exact .inl e
       ·exact .inr (by omega)
       ·exact absurd e (hown g)
      refine (hk _ _ ⟨_, _, F5, 1, [f], 1, rfl, h6, hP1, hE1, by omega, .inl ⟨rfl, rfl⟩, fun c ps hn => ?_, (hg5.kp.trans hk5).trans_new hk6 (fun i hi => by rw [hi]; exact (hF5' _ O5.fp.1).symm), hF5'⟩).qb
      have hn' : updI T.nodes f (some (leafNd [])) f = some (innNd c ps) := hn
      rw [updI_same] at hn'
      have := congrArg (fun n => n.map Nd.leaf) hn'
      simp [leafNd, innNd] at this
     ·skip
      refine run_skip ?_
      have hP := hI.toP hr
      refine (hk _ _ ⟨T, nb, F, H, ns, 0, rfl, h4, hP, (Evo.refl hI.giv).toR, by omega, .inr hroom, fun c ps hn => ?_, Kp.refl _ _, fun g hg => .inl hg⟩).qb
      rcases hI.std with ⟨e, -⟩ | ⟨-, -, -, -, hk'⟩
      ·exact absurd e hr
      ·have := hk' _ hn
       intro e
       rw [e] at this
       exact this rfl
 ·skip
  refine run_draw (fun w' => Ext w3 w') (by kernel_rfl) rfl ?_; refine qT 0 rfl (fun _ hS => (by first | exact yld U9 rfl rfl (hS.blk hBt) rfl | exact yld U9 rfl rfl (hS.blk hBk) rfl | exact yld U9 rfl rfl (hS.blk hBv) rfl | exact yld U9 rfl rfl (hS.blk hBO) rfl)) (hg3) ?_; refine qO 1 ?_; refine nCall (i := 1) rfl rfl rfl (yc (args := [.tmp 14]) cf66 rfl) (hkey false _ (decide_eq_false hk)) ?_
  rintro _ w4 ⟨rfl, rfl⟩
  refine ⟨hg3, ?_⟩
  refine qT 2 rfl (fun _ hS => (by first | exact yntd rfl | exact ynt rfl)) (hg3) ?_; refine qT 3 rfl (fun _ hS => ymv rfl) (hg3) ?_; refine qJ 4 rfl (hg3) ?_; refine qJ 5 rfl (hg3) ?_; refine qJ 6 rfl (hg3) ?_; refine qJ 7 rfl (hg3) ?_; refine qJ 8 rfl (hg3) ?_; refine qJ 9 rfl (hg3) ?_; refine qJ 10 rfl (hg3) ?_; refine qJ 11 rfl (hg3) ?_; refine qJ 12 rfl (hg3) ?_; refine qJ 13 rfl (hg3) ?_; refine qJ 14 rfl (hg3) ?_; refine qT 15 rfl (fun _ hS => ypT rfl rfl) (hg3) ?_; refine qT 16 rfl (fun _ hS => yas rfl) (hg3) ?_; refine qE ?_
  refine Run.qb (e := [(3, _), (4, _), (5, _), (6, _), (13, _)]) ?_; refine run_true rfl ?_; refine qN rfl ?_; refine qV (yas rfl) ?_; refine rEnd ?_; refine run_ret Tryz.func38 rfl ?_
  exact ⟨_, rfl, .inl ⟨rfl, fun hh => hk hh.1, hx03.trans hg3⟩⟩
end
end Go.Proofs.YtocnhaoilnojmaaGreat
namespace Go.Proofs.YtocnhaoilnojmaaGreat
open Go Go.RowKit
set_option linter.all false
set_option maxRecDepth 100000
/-- A tree without pages. -/
def Tr0 (z : Nat) : Tr := ⟨z, 0, 0, fun _ => none, [], fun _ => false, fun _ => false⟩
theorem inv0 (z : Nat) : Inv (Tr0 z) 0 [] [] := ⟨.inl ⟨rfl, rfl, rfl, rfl⟩, fun x h => absurd rfl h, rfl, fun x h => absurd rfl h, fun x h => absurd h List.not_mem_nil, ⟨List.Pairwise.nil, fun x h => absurd h List.not_mem_nil⟩, fun x h => absurd rfl h⟩
section
variable {w : World}
theorem newT_ret (z : Int) : Ret Tryz.prog 8 [I z] w fun v w' => Ext w w' ∧ ((sizeOk z ∧ ∃ p F, v = .tuple #[ptr p 0, I 0] ∧ TreeA w' p (Tr0 z.toNat) (fun _ => 0) F ∧ ∀ k, F k → w.heap.size ≤ k) ∨ (¬ sizeOk z ∧ v = .tuple #[.pointer none, I 1])) := by
 refine ret_of_run (e := [(0, _)]) Tryz.func8 rfl Tryz.ntmps8 rfl rfl ?_; refine qN rfl ?_; refine qV (yas rfl) ?_; refine qV (yas rfl) ?_; refine qM rfl ?_; refine qV (ymv rfl) ?_
 by_cases hz : sizeOk z
 ·obtain ⟨k, rfl⟩ : ∃ k : Nat, z = (k : Int) := ⟨z.toNat, by have := hz.1; omega⟩
  refine rCall rfl rfl (yc (args := [.tmp 9]) cf34 rfl) (most_ok hz w) ?_
  rintro _ w ⟨rfl, rfl⟩
  refine qV (ymv rfl) ?_; refine qV (yex rfl rfl) ?_; refine qV (yex rfl rfl) ?_; refine qV (yas rfl) ?_; refine qV (yas rfl) ?_; refine rEnd ?_; refine run_seq ?_; refine qN rfl ?_; refine qV (ymv rfl) ?_; refine qV (yne rfl rfl) ?_; refine rEnd ?_; refine run_if rfl (fun h0 => ?_) (fun h0 => ?_)
  ·exact absurd rfl h0
  ·skip
   refine run_skip ?_; refine qN rfl ?_; refine qV (ymv rfl) ?_; refine rCall rfl rfl (yc (args := [.tmp 17]) cf35 rfl) (order_ok hz w) ?_
   rintro _ w ⟨rfl, rfl⟩
   refine qV (ymv rfl) ?_; refine qV (yex rfl rfl) ?_; refine qV (yex rfl rfl) ?_; refine qV (yas rfl) ?_; refine qV (yas rfl) ?_; refine qM rfl ?_; refine qV (ymv rfl) ?_; refine qV (ymv rfl) ?_; refine qV (ymv rfl) ?_; refine rValP rfl rfl (pmm) ?_
   rintro _ w1 ⟨m1, rfl, hm1, hx1, hh1⟩
   refine rValP rfl rfl (pmm) ?_
   rintro _ w2 ⟨m2, rfl, hm2, hx2, hh2⟩
   refine rValP rfl rfl (pmm) ?_
   rintro _ w3 ⟨m3, rfl, hm3, hx3, hh3⟩
   refine qV (ybd (parts := [(0, .tmp 21), (2, .tmp 22), (3, .tmp 23), (5, .tmp 24), (7, .tmp 25), (8, .tmp 26)]) (cs := [_, _, _, _, _, _, _, _, _]) ti74 rfl sp74 rfl rfl) ?_; refine rValP rfl rfl (pbx rfl rfl) ?_
   rintro _ w4 ⟨b, rfl, hb, hx4, hB4⟩
   refine qV (yas rfl) ?_; refine qV (yas rfl) ?_; refine rEnd ?_; refine Run.qb (e := [(2, _), (3, _)]) ?_; refine run_ret Tryz.func8 rfl ?_
   have hz1 := hx1.size
   have hz2 := hx2.size
   have hz3 := hx3.size
   have l1 : m1 < w1.heap.size := (MapB.new (K := KZ) hh1).lt
   have l2 : m2 < w2.heap.size := (MapB.new (K := KZ) hh2).lt
   have l3 : m3 < w3.heap.size := (MapB.new (K := KZ) hh3).lt
   have hM1 := (MapB.new (K := KZ) hh1).ext ((hx2.trans hx3).trans hx4)
   have hM2 := (MapB.new (K := KZ) hh2).ext (hx3.trans hx4)
   have hM3 := (MapB.new (K := KZ) hh3).ext hx4
   refine ⟨_, rfl, ((hx1.trans hx2).trans hx3).trans hx4, .inl ⟨hz, b, fpT b (Tr0 k) m1 m2 m3 (.slice none 0 0) (fun _ => ⟨0, .slice none 0 0, .slice none 0 0, .slice none 0 0⟩), rfl, ⟨m1, m2, m3, .slice none 0 0, fun _ => ⟨0, .slice none 0 0, .slice none 0 0, .slice none 0 0⟩, ⟨?_, ⟨[], hM1, fun _ => rfl⟩, ⟨[], hM2, fun _ => rfl⟩, ⟨[], hM3, fun _ => rfl⟩, Sl.nil _ _ _, fun no n h => by simp [Tr0] at h, fun no n no' n' h => by simp [Tr0] at h, fun no n h => by simp [Tr0] at h, ⟨by omega, by omega, by omega, by omega, by omega, by omega⟩, fun k hk => by simp [Value.ownBlock] at hk, hz⟩, fun _ => rfl, fun _ => Iff.rfl⟩, fun i hi => ?_⟩⟩
   ·exact hB4
   ·rcases hi with h | h | h | h | h | ⟨no, n, h, -⟩
    ·omega
    ·omega
    ·omega
    ·omega
    ·simp [Value.ownBlock] at h
    ·simp [Tr0] at h
 ·skip
  have hm := most_ret z w
  rw [if_neg hz, if_neg hz] at hm
  refine rCall rfl rfl (yc (args := [.tmp 9]) cf34 rfl) (hm) ?_
  rintro _ w ⟨rfl, rfl⟩
  refine qV (ymv rfl) ?_; refine qV (yex rfl rfl) ?_; refine qV (yex rfl rfl) ?_; refine qV (yas rfl) ?_; refine qV (yas rfl) ?_; refine rEnd ?_; refine run_seq ?_; refine qN rfl ?_; refine qV (ymv rfl) ?_; refine qV (yne rfl rfl) ?_; refine rEnd ?_; refine run_if rfl (fun h0 => ?_) (fun h0 => ?_)
  ·skip
   refine qN rfl ?_; refine qV (ymv rfl) ?_; refine qV (yas rfl) ?_; refine qV (yas rfl) ?_; refine rEnd ?_; refine run_ret Tryz.func8 rfl ?_
   exact ⟨_, rfl, Ext.refl _, .inr ⟨hz, rfl⟩⟩
  ·exact absurd (by decide) h0
end
/-- What may be given. -/
def giveOk (T : Tr) (l : List Int) : Prop := l.Nodup ∧ ∀ x ∈ l, (1 ≤ x ∧ x ≤ 2147483647) ∧ T.nodes x = none ∧ T.old x = false ∧ x ∉ T.given
theorem nodup_le {l : List Int} (h : l.Nodup) (hb : ∀ x ∈ l, 1 ≤ x ∧ x ≤ 2147483647) : l.length ≤ 2147483647 := by
 have h1 := rise_len (sortZ_lt h) (a := 1) (b := 2147483647) (fun x hx => hb x (sortZ_mem.1 hx))
 rw [sortZ_len] at h1
 omega
theorem Inv.give {T : Tr} {H : Nat} {ns : List Int} {es : Es} (h : Inv T H ns es) {l : List Int} (hl : giveOk T l) : Inv { T with given := sortZ (T.given ++ l) } H ns es := by
 obtain ⟨h1, h2⟩ := hl
 refine ⟨h.std, h.all, h.cnt, h.num, fun x hx => ?_, ⟨sortZ_lt ?_, fun x hx => ?_⟩, h.chg⟩
 ·rcases List.mem_append.1 (sortZ_mem.1 hx) with hx | hx
  ·exact h.gnum x hx
  ·exact (h2 x hx).1
 ·exact List.nodup_append.2 ⟨nodup_of_lt h.giv.rise, h1, fun a ha b hb e => (h2 b hb).2.2.2 (e ▸ ha)⟩
 ·rcases List.mem_append.1 (sortZ_mem.1 hx) with hx | hx
  ·exact h.giv.free x hx
  ·exact ⟨(h2 x hx).2.1, (h2 x hx).2.2.1⟩
section
variable {w : World} {p : Nat} {T : Tr} {nb : Int → Nat} {F : Nat → Prop}
set_option maxHeartbeats 4000000 in
theorem give_ret (h : TreeA w p T nb F) {H : Nat} {ns : List Int} {es : Es} (hI : Inv T H ns es) {lv : Value} {l : List Int} (hR : Rd w lv 1 l.length (l.map I)) (hl : l.length ≤ 17592186044415) :
  Ret Tryz.prog 50 [ptr p 0, lv] w fun v w' => (v = I 0 ∧ giveOk T l ∧ Kp F w w' ∧ ∃ F', TreeA w' p { T with given := sortZ (T.given ++ l) } nb F' ∧ ∀ k, F' k → F k ∨ w.heap.size ≤ k) ∨ (v = I 1 ∧ ¬ giveOk T l ∧ Ext w w') := by
 obtain ⟨la, lc, rfl, -⟩ := hR.shape
 have hgl := hI.gl
 have hlt := h.lt
 refine ret_of_run (e := [(0, _), (1, _)]) Tryz.func50 rfl Tryz.ntmps50 rfl rfl ?_; refine qN rfl ?_; refine qV (yas rfl) ?_; refine rEnd ?_; refine run_seq ?_; refine qN rfl ?_; refine qV (ymv rfl) ?_; refine qV (yeqpN U24 rfl rfl) ?_; refine rEnd ?_; refine run_false rfl ?_; refine run_skip ?_; refine qN rfl ?_; refine rValP rfl rfl (pmm) ?_
 rintro _ w1 ⟨ms, rfl, hms, hx1, hh1⟩
 have hl1 : ms < w1.heap.size := (MapB.new (K := KZ) hh1).lt
 refine qV (yas rfl) ?_; refine rEnd ?_; refine run_seq ?_; refine qN rfl ?_; refine qV (ymv rfl) ?_; refine qV (yln U34 rfl) ?_; refine qV (ymv rfl) ?_; refine rEnd ?_; refine run_block ?_
 refine run_loop (α := Nat) (0) (fun i => [(0, ptr p 0), (1, .slice la l.length lc), (5, .map (some ms)), (11, .slice la l.length lc), (12, I (l.length : Int)), (13, I (i : Int))]) (fun i w' => i ≤ l.length ∧ Ext w w' ∧ (l.take i).Nodup ∧ (∀ x ∈ l.take i, (1 ≤ x ∧ x ≤ 2147483647) ∧ T.nodes x = none ∧ T.old x = false ∧ x ∉ T.given) ∧ ∃ kv, MapB KZ w' ms kv ∧ ∀ x, getL kv x = if x ∈ l.take i then some (I 1) else none) (fun i => l.length - i) (by repeat (first | exact Sub.nil | refine Sub.cons rfl ?_)) ?hI ?hround
 case hI => exact ⟨Nat.zero_le _, hx1, by simp, by simp, [], MapB.new hh1, fun x => by simp [getL]⟩
 case hround =>
  rintro i wi ⟨hi, hxi, hnd, hall, kv, hMs, hkv⟩ ih
  have hi' := h.ext hxi
  obtain ⟨mN, mC, mO, gv, kn, kc, ko, O⟩ := hi'.opn
  obtain ⟨ga, gcp, hgv, -⟩ := O.gs.rd.shape
  subst hgv
  have hzi := hxi.size
  try dsimp only
  refine qN rfl ?_; refine qV (ylt rfl rfl) ?_; refine rEnd ?_; refine run_seq ?_; refine run_if rfl (fun hlt' => ?_) (fun hlt' => ?_)
  ·skip
   have hil : i < l.length := by omega
   obtain ⟨lb, lo, s, rfl, hs'⟩ := rd_getI hR hil
   have hmem : s ∈ l := List.mem_of_getElem? hs'
   refine run_skip ?_; refine run_seq ?_; refine run_block ?_; refine qN rfl ?_; refine qV (yis U34 ti3 rfl rfl (by omega)) ?_; refine qV (yldc U3 rfl rfl (rd_intT (hR.ext hxi) hil hs')) ?_; refine qV (yas rfl) ?_; refine qM rfl ?_; refine qV (ymv rfl) ?_; refine qV (ymv rfl) ?_; refine qV (ylk (k := s) (K := KZ) U72 (ky_int U3) ti3 rfl rfl hMs.l) ?_
   have hbad : (¬ (1 ≤ s ∧ s ≤ 2147483647) ∨ s ∈ l.take i ∨ T.nodes s ≠ none ∨ T.old s = true ∨ s ∈ T.given) → ¬ giveOk T l := fun hb hok => by
    obtain ⟨g1, g2⟩ := hok
    obtain ⟨g3, g4, g5, g6⟩ := g2 s hmem
    rcases hb with hb | hb | hb | hb | hb
    ·exact hb g3
    ·obtain ⟨j, hj, e⟩ := List.mem_take_iff_getElem.1 hb
     obtain ⟨hi2, e2⟩ := List.getElem?_eq_some_iff.1 hs'
     have := (List.getElem_inj g1).1 (e.trans e2.symm)
     omega
    ·exact hb g4
    ·rw [g5] at hb; cases hb
    ·exact g6 hb
   obtain ⟨q, hq, hq'⟩ : ∃ q : Nat, (getL kv s).getD (I 0) = I (q : Int) ∧ ((q = 0 ∧ s ∉ l.take i) ∨ (q = 1 ∧ s ∈ l.take i)) := by
    rw [hkv s]
    by_cases hm : s ∈ l.take i
    ·exact ⟨1, by rw [if_pos hm]; rfl, .inr ⟨rfl, hm⟩⟩
    ·exact ⟨0, by rw [if_neg hm]; rfl, .inl ⟨rfl, hm⟩⟩
   rw [hq]
   refine qV (yad rfl rfl (by omega)) ?_; refine rEffP rfl (zmuB U72 (ky_int U3) rfl rfl rfl hMs (k := s)) ?_
   rintro w2 ⟨hM2, hk2⟩
   have hx2 : Ext w w2 := hxi.trans_new hk2 (fun j hj => by omega)
   have hO2 : ∀ g, F g → ¬ g = ms := fun g hg e => by have := hlt g hg; omega
   have hBO := hk2.blk O.blk (hO2 _ O.fp.1)
   have hMN := O.nm.kp hk2 (hO2 _ O.fp.2.1)
   have hMO := O.om.kp hk2 (hO2 _ O.fp.2.2.2.1)
   have hGS := O.gs.kp hk2 (fun g hg => hO2 g (O.fp.2.2.2.2 g hg))
   have hget2 : (getL (putL kv s (I ((q : Int) + 1))) s).getD (I 0) = I ((q : Int) + 1) := by rw [getL_put, if_pos rfl]; rfl
   refine qM rfl ?_; refine qV (ymv rfl) ?_; refine qV (ylt rfl rfl) ?_; refine rVal_if (fun hc1 => ?_) (fun hc1 => ?_)
   ·skip
    refine qV (ymv rfl) ?_; refine qS ?_; refine qS ?_; refine qV (ypT rfl rfl) ?_; refine qV (ymv rfl) ?_; refine qS ?_; refine qS ?_; refine qS ?_; refine qS ?_; refine qV (ypT rfl rfl) ?_; refine qV (ymv rfl) ?_; refine qS ?_; refine qS ?_; refine qS ?_; refine qS ?_; refine qS ?_; refine qS ?_; refine qS ?_; refine qV (ypT rfl rfl) ?_; refine qV (ymv rfl) ?_; refine qS ?_; refine qS ?_; refine qS ?_; refine qS ?_; refine qS ?_; refine qS ?_; refine qS ?_; refine qV (ypT rfl rfl) ?_; refine qV (ymv rfl) ?_; refine qS ?_; refine qS ?_; refine qS ?_; refine qS ?_; refine qS ?_
    refine qS ?_; refine qV (ypT rfl rfl) ?_; refine rEnd ?_; refine run_true rfl ?_; refine qN rfl ?_; refine qV (yas rfl) ?_; refine rEnd ?_; refine run_ret Tryz.func50 rfl ?_
    exact ⟨_, rfl, .inr ⟨rfl, hbad (.inl (by omega)), hx2⟩⟩
   ·skip
    refine qV (ymv rfl) ?_; refine qV (ymv rfl) ?_; refine qV (ygt rfl rfl) ?_; refine rVal_if (fun hc2 => ?_) (fun hc2 => ?_)
    ·skip
     refine qV (ypF rfl rfl) ?_; refine qV (ymv rfl) ?_; refine qS ?_; refine qS ?_; refine qS ?_; refine qS ?_; refine qV (ypT rfl rfl) ?_; refine qV (ymv rfl) ?_; refine qS ?_; refine qS ?_; refine qS ?_; refine qS ?_; refine qS ?_; refine qS ?_; refine qS ?_; refine qV (ypT rfl rfl) ?_; refine qV (ymv rfl) ?_; refine qS ?_; refine qS ?_; refine qS ?_; refine qS ?_; refine qS ?_; refine qS ?_; refine qS ?_; refine qV (ypT rfl rfl) ?_; refine qV (ymv rfl) ?_; refine qS ?_; refine qS ?_; refine qS ?_; refine qS ?_; refine qS ?_; refine qS ?_; refine qV (ypT rfl rfl) ?_; refine rEnd ?_
     refine run_true rfl ?_; refine qN rfl ?_; refine qV (yas rfl) ?_; refine rEnd ?_; refine run_ret Tryz.func50 rfl ?_
     exact ⟨_, rfl, .inr ⟨rfl, hbad (.inl (by omega)), hx2⟩⟩
    ·skip
     refine qV (ypF rfl rfl) ?_; refine qV (ymv rfl) ?_; refine qV (ymv rfl) ?_; refine qV (ymv rfl) ?_; refine qV (ylk (k := s) (K := KZ) U72 (ky_int U3) ti3 rfl rfl hM2.l) ?_
     rw [hget2]
     refine qV (ygt rfl rfl) ?_; refine rVal_if (fun hc3 => ?_) (fun hc3 => ?_)
     ·skip
      refine qV (ypF rfl rfl) ?_; refine qV (ymv rfl) ?_; refine qS ?_; refine qS ?_; refine qS ?_; refine qS ?_; refine qS ?_; refine qS ?_; refine qS ?_; refine qV (ypT rfl rfl) ?_; refine qV (ymv rfl) ?_; refine qS ?_; refine qS ?_; refine qS ?_; refine qS ?_; refine qS ?_; refine qS ?_; refine qS ?_; refine qV (ypT rfl rfl) ?_; refine qV (ymv rfl) ?_; refine qS ?_; refine qS ?_; refine qS ?_; refine qS ?_; refine qS ?_; refine qS ?_; refine qV (ypT rfl rfl) ?_; refine rEnd ?_; refine run_true rfl ?_; refine qN rfl ?_; refine qV (yas rfl) ?_; refine rEnd ?_
      refine run_ret Tryz.func50 rfl ?_
      exact ⟨_, rfl, .inr ⟨rfl, hbad (.inr (.inl (hq'.elim (fun e => by have := e.1; omega) (fun e => e.2)))), hx2⟩⟩
     ·skip
      have hnm : s ∉ l.take i ∧ q = 0 := hq'.elim (fun e => ⟨e.2, e.1⟩) (fun e => by have := e.1; omega)
      obtain ⟨hnm, rfl⟩ := hnm
      refine qV (ypF rfl rfl) ?_; refine qV (ymv rfl) ?_; refine qV (ymv rfl) ?_; refine qV ((by first | exact ync rfl | exact yncf rfl)) ?_; refine qV (yfa fl74_5 rfl) ?_; refine qV (yld U71 rfl rfl hBO rfl) ?_; refine qV (ymv rfl) ?_; refine qV (ylk (k := s) (K := KZ) U71 (ky_int U3) ti81 rfl rfl hMN.l) ?_
      rw [show (getL kn s).getD (.pointer none) = (match T.nodes s with | none => .pointer none | some _ => ptr (nb s) 0) by rw [O.ng s]; cases T.nodes s <;> rfl]
      cases hns : T.nodes s with
      | some n0 =>
        refine qV (ynepN U81 rfl rfl) ?_; refine qV (ypF rfl rfl) ?_; refine qV (ymv rfl) ?_; refine qS ?_; refine qS ?_; refine qS ?_; refine qS ?_; refine qS ?_; refine qS ?_; refine qS ?_; refine qV (ypT rfl rfl) ?_; refine qV (ymv rfl) ?_; refine qS ?_; refine qS ?_; refine qS ?_; refine qS ?_; refine qS ?_; refine qS ?_; refine qV (ypT rfl rfl) ?_; refine rEnd ?_; refine run_true rfl ?_; refine qN rfl ?_; refine qV (yas rfl) ?_; refine rEnd ?_; refine run_ret Tryz.func50 rfl ?_
        exact ⟨_, rfl, .inr ⟨rfl, hbad (.inr (.inr (.inl (by rw [hns]; simp)))), hx2⟩⟩
      | none =>
        refine qV (ynepN U81 rfl rfl) ?_; refine qV (ypF rfl rfl) ?_; refine qV (ymv rfl) ?_; refine qV (ymv rfl) ?_; refine qV ((by first | exact ync rfl | exact yncf rfl)) ?_; refine qV (yfa fl74_8 rfl) ?_; refine qV (yld U72 rfl rfl hBO rfl) ?_; refine qV (ymv rfl) ?_; refine qV (ylk (k := s) (K := KZ) U72 (ky_int U3) ti3 rfl rfl hMO.l) ?_
        rw [show (getL ko s).getD (I 0) = I (if T.old s then 1 else 0) by rw [O.og s]; cases T.old s <;> rfl]
        refine qV (ygt rfl rfl) ?_; refine rVal_if (fun hc4 => ?_) (fun hc4 => ?_)
        ·skip
         refine qV (ypF rfl rfl) ?_; refine qV (ymv rfl) ?_; refine qS ?_; refine qS ?_; refine qS ?_; refine qS ?_; refine qS ?_; refine qS ?_; refine qV (ypT rfl rfl) ?_; refine rEnd ?_; refine run_true rfl ?_; refine qN rfl ?_; refine qV (yas rfl) ?_; refine rEnd ?_; refine run_ret Tryz.func50 rfl ?_
         exact ⟨_, rfl, .inr ⟨rfl, hbad (.inr (.inr (.inr (.inl (by cases ho : T.old s <;> simp_all))))), hx2⟩⟩
        ·skip
         have hold : T.old s = false := by cases ho : T.old s <;> simp_all
         refine qV (ypF rfl rfl) ?_; refine qV (ymv rfl) ?_; refine qV (ymv rfl) ?_; refine qV ((by first | exact ync rfl | exact yncf rfl)) ?_; refine qV (yfa fl74_6 rfl) ?_; refine qV (yld U34 rfl rfl hBO rfl) ?_; refine qV (ymv rfl) ?_; refine rCall rfl rfl (yc (args := [.tmp 55, .tmp 56]) cf80 rfl) (containsI_ret s hGS.rd (by omega)) ?_
         rintro _ w2 ⟨rfl, rfl⟩
         refine qV (ypF rfl rfl) ?_; refine rEnd ?_; refine run_if rfl (fun hc5 => ?_) (fun hc5 => ?_)
         ·skip
          refine qN rfl ?_; refine qV (yas rfl) ?_; refine rEnd ?_; refine run_ret Tryz.func50 rfl ?_
          exact ⟨_, rfl, .inr ⟨rfl, hbad (.inr (.inr (.inr (.inr hc5)))), hx2⟩⟩
         ·skip
          refine run_skip ?_; refine run_inBlock ?_; refine run_reg rfl ?_; refine qV (yad rfl rfl (by omega)) ?_; refine qV (ymv rfl) ?_; refine rEnd ?_
          obtain ⟨hi2, e2⟩ := List.getElem?_eq_some_iff.1 hs'
          refine (ih (i + 1) w2 ⟨by omega, hx2, ?_, fun x hx => ?_, _, hM2, fun x => ?_⟩ (by omega)).qb
          ·rw [List.take_succ_eq_append_getElem hi2, e2]
           exact List.nodup_append.2 ⟨hnd, by simp, fun a ha b hb e => by simp at hb; subst hb; subst e; exact hnm ha⟩
          ·rcases (mem_take_succ hs').1 hx with hx | rfl
           ·exact hall x hx
           ·exact ⟨by omega, hns, hold, hc5⟩
          ·rw [getL_put, hkv x]
           by_cases hxs : x = s
           ·rw [if_pos hxs, if_pos ((mem_take_succ hs').2 (.inr hxs))]; rfl
           ·rw [if_neg hxs]
            by_cases hxm : x ∈ l.take i
            ·rw [if_pos hxm, if_pos ((mem_take_succ hs').2 (.inl hxm))]
            ·rw [if_neg hxm, if_neg (fun hh => by rcases (mem_take_succ hs').1 hh with e | e; exact hxm e; exact hxs e)]
  ·skip
   have : i = l.length := by omega
   subst this
   rw [List.take_length] at hnd hall
   have hok : giveOk T l := ⟨hnd, hall⟩
   have hll := nodup_le hnd (fun x hx => (hall x hx).1)
   have hBO := O.blk
   have hml : maxLen = 9223372036854775807 := rfl
   refine run_exit rfl ?_; refine qN rfl ?_; refine qV (ymv rfl) ?_; refine qV (ymv rfl) ?_; refine qV ((by first | exact ync rfl | exact yncf rfl)) ?_; refine qV (yfa fl74_6 rfl) ?_; refine qV (yld U34 rfl rfl hBO rfl) ?_; refine qV (ymv rfl) ?_; refine rValP rfl rfl (pap U34 ti3 rfl (by decide) rfl rfl O.gs (hR.ext hxi) (by intro c hc; obtain ⟨z, -, rfl⟩ := List.mem_map.1 hc; rfl) (by omega) (by omega)) ?_
   rintro gv2 w2 ⟨hS2, hk2, ho2, -⟩
   have hz2 := hk2.size
   have hBO2 := hk2.blk hBO (fun e => O.ne.2.2.2 e)
   refine qV ((by first | exact ync rfl | exact yncf rfl)) ?_; refine qV (yfa fl74_6 rfl) ?_; refine rEffP rfl (zst ti34 rfl rfl (oneV_sl hS2) hBO2 (by simp [trCs])) ?_
   rintro w3 ⟨hB3, hk3⟩
   have hB3' : Blk w3 p (trCs T mN mC mO gv2) 74 := hB3
   have hpo : ∀ g, gv2.ownBlock = some g → g ≠ p := fun g hg e => by
    subst e
    rcases ho2 g hg with e | e
    ·exact O.ne.2.2.2 e
    ·have := hlt g O.fp.1; omega
   have hS3 := hS2.kp hk3 (fun g hg e => hpo g hg e)
   have hS3' : Sl w3 gv2 3 1 (T.given ++ l).length ((T.given ++ l).map I) := by
    rw [List.length_append, List.map_append]; exact hS3
   refine qM rfl ?_; refine qV (ymv rfl) ?_; refine qV ((by first | exact ync rfl | exact yncf rfl)) ?_; refine qV (yfa fl74_6 rfl) ?_; refine qV (yld U34 rfl rfl hB3' rfl) ?_; refine rCall rfl rfl (yc (args := [.tmp 72]) cf62 rfl) (sortZ_ret hS3' (by rw [List.length_append]; omega)) ?_
   rintro _ w4 ⟨rfl, hS4, hk4⟩
   have hB4 := hk4.blk hB3' (fun e => hpo p e rfl)
   refine qM rfl ?_; refine qV (yas rfl) ?_; refine rEnd ?_; refine run_ret Tryz.func50 rfl ?_
   have hkk : Kp (fun k => k = p ∨ (Value.slice ga T.given.length gcp).ownBlock = some k) wi w4 := (((hk2.mono' (fun k e => .inr e)).trans (hk3.mono' (fun k e => .inl e)))).trans_new hk4 (fun k e => (ho2 k e).elim (fun e => .inr (.inr e)) .inl)
   obtain ⟨F', h', hF'⟩ := O.setG w4 gv2 (sortZ (T.given ++ l)) hB4 hS4 hkk ho2
   exact ⟨_, rfl, .inl ⟨rfl, hok, hxi.kp.trans (hkk.mono' (fun k e => e.elim (fun e => e ▸ O.fp.1) (fun e => O.fp.2.2.2.2 k e))), F', h', fun k hk => (hF' k hk).imp id (fun e => by omega)⟩⟩
end
end Go.Proofs.YtocnhaoilnojmaaGreat
namespace Go.Proofs.YtocnhaoilnojmaaGreat
open Go Go.RowKit
set_option linter.all false
/-- All that stands beneath a page, none of it met before. -/
structure Sub1 (z : Nat) (N : Nodes) (V : List Int) (rt : Bool) (no : Int) (lo : Bytes) (hi : Option Bytes) (h : Nat) (ns : List Int) (es : Es) : Prop where
 bn : Bn z N h no lo hi ns es
 nd : ns.Nodup
 out : ∀ x ∈ ns, x ∉ V
 cnd : ∀ n, N no = some n → if rt then n.keys ≠ [] else ¬ n.low z
def NoSub (z : Nat) (N : Nodes) (V : List Int) (rt : Bool) (no : Int) (lo : Bytes) (hi : Option Bytes) : Prop := ∀ h ns es, ¬ Sub1 z N V rt no lo hi h ns es
section
variable {z : Nat} {N : Nodes} {V : List Int} {rt : Bool} {no : Int} {lo : Bytes} {hi : Option Bytes} {n : Nd}
theorem bn_at {h : Nat} {ns : List Int} {es : Es} (s : Bn z N h no lo hi ns es) : ∃ n, N no = some n ∧ NdOk z n ∧ ∀ k ∈ n.keys, inB lo hi k := by
 cases h with
 | zero => exact s.elim
 | succ h => obtain ⟨n, h1, h2, h3, -⟩ := s; exact ⟨n, h1, h2, h3⟩
theorem nosub_none (h : N no = none) : NoSub z N V rt no lo hi := fun _ _ _ s => by
 obtain ⟨n, h1, -⟩ := bn_at s.bn; rw [h] at h1; cases h1
theorem nosub_met (h : no ∈ V) : NoSub z N V rt no lo hi := fun _ _ _ s => s.out no s.bn.mem h
theorem nosub_cnd (hn : N no = some n) (h : ¬ if rt then n.keys ≠ [] else ¬ n.low z) : NoSub z N V rt no lo hi := fun _ _ _ s => h (s.cnd n hn)
theorem nosub_key (hn : N no = some n) {k : Bytes} (hk : k ∈ n.keys) (h : ¬ inB lo hi k) : NoSub z N V rt no lo hi := fun _ _ _ s => by
 obtain ⟨m, h1, -, h3⟩ := bn_at s.bn
 rw [hn] at h1; cases h1
 exact h (h3 k hk)
theorem sub1_leaf (hz : sizeOk (z : Int)) {E : Es} (hn : N no = some (leafNd E)) (hok : NdOk z (leafNd E)) (hin : ∀ k ∈ (leafNd E).keys, inB lo hi k) (hv : no ∉ V) (hc : if rt then (leafNd E).keys ≠ [] else ¬ (leafNd E).low z) : Sub1 z N V rt no lo hi 1 [no] E := by
 obtain ⟨h1, h2⟩ := (leafNd_ok (by have := hz.2.1; omega)).1 hok
 refine ⟨Bn.of_leaf (by have := hz.2.1; omega) hn h1 h2 (fun x hx => hin x.1 (List.mem_map.2 ⟨x, hx, rfl⟩)), by simp, by simpa using hv, fun m hm => ?_⟩
 rw [hn] at hm; cases hm; exact hc
/-- The first kids have been walked through. -/
structure KidsU (z : Nat) (N : Nodes) (V : List Int) (no : Int) (lo : Bytes) (hi : Option Bytes) (c : Nat) (ps : List (Bytes × Nat)) (h : Nat) (L : List (List Int × Es)) : Prop where
 len : L.length ≤ ps.length + 1
 bn : ∀ (i : Nat) b l, (bnds lo hi c ps)[i]? = some b → L[i]? = some l → Bn z N h (b.1 : Int) b.2.1 b.2.2 l.1 l.2 ∧ Full z N b.1
 nd : (L.flatMap (·.1)).Nodup
 out : ∀ x ∈ L.flatMap (·.1), x ∉ no :: V
variable {c : Nat} {ps : List (Bytes × Nat)} {L : List (List Int × Es)} {h h' a : Nat} {l : Bytes} {u : Option Bytes} {ns : List Int} {es : Es}
theorem KidsU.nil (h : Nat) : KidsU z N V no lo hi c ps h [] := ⟨by simp, fun i b l _ hl => by simp at hl, by simp, by simp⟩
theorem KidsU.change (K : KidsU z N V no lo hi c ps h []) (h' : Nat) : KidsU z N V no lo hi c ps h' [] := KidsU.nil h'
theorem KidsU.step (K : KidsU z N V no lo hi c ps h L) (hb : (bnds lo hi c ps)[L.length]? = some (a, l, u)) (s : Sub1 z N (L.flatMap (·.1) ++ no :: V) false (a : Int) l u h ns es) : KidsU z N V no lo hi c ps h (L ++ [(ns, es)]) := by
 have hlt : L.length < ps.length + 1 := by
  have := (List.getElem?_eq_some_iff.1 hb).1
  rwa [bnds_length] at this
 refine ⟨by simp; omega, fun i b q hq1 hq2 => ?_, ?_, ?_⟩
 ·rcases Nat.lt_or_ge i L.length with hi' | hi'
  ·rw [List.getElem?_append_left hi'] at hq2
   exact K.bn i b q hq1 hq2
  ·have e : i = L.length := by
    have := (List.getElem?_eq_some_iff.1 hq2).1
    simp at this; omega
   subst e
   rw [hb] at hq1; cases hq1
   rw [List.getElem?_append_right (Nat.le_refl _)] at hq2
   simp at hq2; subst hq2
   exact ⟨s.bn, fun m hm => by have := s.cnd m hm; simpa using this⟩
 ·rw [List.flatMap_append, List.nodup_append]
  refine ⟨K.nd, by simpa using s.nd, fun x hx y hy e => ?_⟩
  subst e
  exact s.out x (by simpa using hy) (List.mem_append_left _ hx)
 ·intro x hx
  rw [List.flatMap_append] at hx
  rcases List.mem_append.1 hx with hx | hx
  ·exact K.out x hx
  ·exact fun hv => s.out x (by simpa using hx) (List.mem_append_right _ hv)
/-- If all stands beneath the page, it begins with these. -/
theorem KidsU.pre (hz : sizeOk (z : Int)) (hn : N no = some (innNd c ps)) (K : KidsU z N V no lo hi c ps h L) {h0 : Nat} {ns0 : List Int} {es0 : Es} (s : Sub1 z N V rt no lo hi h0 ns0 es0) :
  ∃ (h2 : Nat) (L' : List (List Int × Es)), L'.length = ps.length + 1 ∧ L'.take L.length = L ∧ (∀ (i : Nat) b l, (bnds lo hi c ps)[i]? = some b → L'[i]? = some l → Bn z N (h2 + 1) (b.1 : Int) b.2.1 b.2.2 l.1 l.2 ∧ Full z N b.1) ∧ (no :: L'.flatMap (·.1)).Nodup ∧ (∀ x ∈ L'.flatMap (·.1), x ∉ V) ∧ (0 < L.length → h = h2 + 1) := by
 have hpos := s.bn.pos
 rcases Nat.eq_or_lt_of_le hpos with e | e
 ·have hb := s.bn
  rw [← e] at hb
  obtain ⟨h1, -⟩ := hb.leaf (by have := hz.2.1; omega)
  rw [hn] at h1
  have := congrArg Nd.leaf (Option.some.inj h1)
  simp [leafNd, innNd] at this
 ·obtain ⟨h2, rfl⟩ : ∃ h2, h0 = h2 + 2 := ⟨h0 - 2, by omega⟩
  obtain ⟨c', ps', ns', hn', rfl, -, -, -, -, hfull, hC⟩ := s.bn.inner (by have := hz.1; omega)
  rw [hn] at hn'
  obtain ⟨rfl, rfl⟩ := innNd_inj (Option.some.inj hn')
  obtain ⟨L', hl', hS, rfl, rfl⟩ := (ch_iff hi).1 hC
  have hget : ∀ (j : Nat) q, L[j]? = some q → L'[j]? = some q ∧ h = h2 + 1 := fun j q hq => by
   have hj : j < L.length := (List.getElem?_eq_some_iff.1 hq).1
   have hlen := K.len
   obtain ⟨b, hb⟩ : ∃ b, (bnds lo hi c ps)[j]? = some b := ⟨_, List.getElem?_eq_getElem (by rw [bnds_length]; omega)⟩
   obtain ⟨q', hq'⟩ : ∃ q, L'[j]? = some q := ⟨_, List.getElem?_eq_getElem (by omega)⟩
   obtain ⟨e1, e2, e3⟩ := bn_det hz (K.bn j b q hb hq).1 (hS j b q' hb hq')
   rw [hq']
   exact ⟨by rw [Prod.ext e2.symm e3.symm], e1⟩
  refine ⟨h2, L', hl', ?_, fun i b l hb hl => ⟨hS i b l hb hl, ?_⟩, s.nd, fun x hx => s.out x (List.mem_cons_of_mem _ hx), fun h0 => ?_⟩
  ·apply List.ext_getElem?
   intro j
   rw [List.getElem?_take]
   split
   ·rename_i hj
    rw [List.getElem?_eq_getElem hj]
    exact (hget j _ (List.getElem?_eq_getElem hj)).1
   ·rw [List.getElem?_eq_none (by omega)]
  ·obtain ⟨a, l', u', h1, h2', -, -⟩ := bnds_get hi ps lo c i (by
    have := (List.getElem?_eq_some_iff.1 hb).1
    rw [bnds_length] at this; omega)
   rw [hb] at h1; cases h1
   exact hfull _ (List.mem_of_getElem? h2')
  ·exact (hget 0 _ (List.getElem?_eq_getElem h0)).2
theorem kidsU_no (hz : sizeOk (z : Int)) (hn : N no = some (innNd c ps)) (K : KidsU z N V no lo hi c ps h L) (hb : (bnds lo hi c ps)[L.length]? = some (a, l, u)) (hno : NoSub z N (L.flatMap (·.1) ++ no :: V) false (a : Int) l u) : NoSub z N V rt no lo hi := fun h0 ns0 es0 s => by
 obtain ⟨h2, L', hl', ht, hS, hnd, hv, -⟩ := K.pre hz hn s
 have hlt : L.length < L'.length := by
  have := (List.getElem?_eq_some_iff.1 hb).1
  rw [bnds_length] at this; omega
 have hq := List.getElem?_eq_getElem hlt
 obtain ⟨b1, b2⟩ := hS _ _ _ hb hq
 have hsp : L' = L ++ L'[L.length] :: L'.drop (L.length + 1) := by
  conv => lhs; rw [← List.take_append_drop L.length L', ht, List.drop_eq_getElem_cons hlt]
 rw [hsp, List.flatMap_append, List.flatMap_cons] at hnd
 obtain ⟨n1, n2⟩ := List.nodup_cons.1 hnd
 obtain ⟨n3, n4, n5⟩ := List.nodup_append.1 n2
 refine hno _ _ _ ⟨b1, (List.nodup_append.1 n4).1, fun x hx hx' => ?_, fun m hm => by simpa using b2 m hm⟩
 rcases List.mem_append.1 hx' with hx' | hx'
 ·exact n5 x hx' x (List.mem_append_left _ hx) rfl
 ·rcases List.mem_cons.1 hx' with rfl | hx'
  ·exact n1 (List.mem_append_right _ (List.mem_append_left _ hx))
  ·exact hv x (List.mem_flatMap.2 ⟨_, List.getElem_mem hlt, hx⟩) hx'
theorem kidsU_dep (hz : sizeOk (z : Int)) (hn : N no = some (innNd c ps)) (K : KidsU z N V no lo hi c ps h L) (h0 : 0 < L.length) (hb : (bnds lo hi c ps)[L.length]? = some (a, l, u)) {W : List Int} (s : Sub1 z N W false (a : Int) l u h' ns es) (hne : h' ≠ h) : NoSub z N V rt no lo hi := fun _ ns0 es0 s0 => by
 obtain ⟨h2, L', hl', ht, hS, -, -, hh⟩ := K.pre hz hn s0
 have hlt : L.length < L'.length := by
  have := (List.getElem?_eq_some_iff.1 hb).1
  rw [bnds_length] at this; omega
 obtain ⟨b1, b2⟩ := hS _ _ _ hb (List.getElem?_eq_getElem hlt)
 have := (bn_det hz s.bn b1).1
 have := hh h0
 omega
theorem kidsU_all (hz : sizeOk (z : Int)) (hn : N no = some (innNd c ps)) (hok : NdOk z (innNd c ps)) (hin : ∀ k ∈ (innNd c ps).keys, inB lo hi k) (K : KidsU z N V no lo hi c ps h L) (hl : L.length = ps.length + 1) (hv : no ∉ V) (hc : if rt then (innNd c ps).keys ≠ [] else ¬ (innNd c ps).low z) :
  Sub1 z N V rt no lo hi (h + 1) (no :: L.flatMap (·.1)) (L.flatMap (·.2)) := by
 obtain ⟨a1, a2, a3, a4⟩ := (innNd_ok (by have := hz.1; omega)).1 hok
 obtain ⟨b0, hb0⟩ : ∃ b, (bnds lo hi c ps)[0]? = some b := ⟨_, List.getElem?_eq_getElem (by rw [bnds_length]; omega)⟩
 have hp := (K.bn 0 b0 _ hb0 (List.getElem?_eq_getElem (by omega))).1.pos
 obtain ⟨h2, rfl⟩ : ∃ h2, h = h2 + 1 := ⟨h - 1, by omega⟩
 have hfull : ∀ d ∈ c :: ps.map (·.2), Full z N d := fun d hd => by
  obtain ⟨i, hi', e⟩ := List.getElem_of_mem hd
  have hil : i ≤ ps.length := by simp at hi'; omega
  obtain ⟨a, l', u', h1, h2', -, -⟩ := bnds_get hi ps lo c i hil
  have := (K.bn i _ _ h1 (List.getElem?_eq_getElem (by omega))).2
  rw [List.getElem?_eq_getElem hi', e] at h2'
  cases h2'
  exact this
 refine ⟨Bn.of_inner (by have := hz.1; omega) hn a1 a2 ⟨a3, a4⟩ hin hfull ((ch_iff hi).2 ⟨L, hl, fun i b l hb hl => (K.bn i b l hb hl).1, rfl, rfl⟩), ?_, fun x hx => ?_, fun m hm => ?_⟩
 ·exact List.nodup_cons.2 ⟨fun hx => K.out no hx (List.mem_cons_self ..), K.nd⟩
 ·rcases List.mem_cons.1 hx with rfl | hx
  ·exact hv
  ·exact fun h => K.out x hx (List.mem_cons_of_mem _ h)
 ·rw [hn] at hm; cases hm; exact hc
end
theorem bn_height {z : Nat} {N : Nodes} (hz : sizeOk (z : Int)) : ∀ {h : Nat} {no : Int} {lo : Bytes} {hi : Option Bytes} {ns : List Int} {es : Es}, Bn z N h no lo hi ns es → h ≤ ns.length
 | 0, _, _, _, _, _, s => s.elim
 | 1, _, _, _, _, _, s => by
   obtain ⟨-, rfl, -⟩ := s.leaf (by have := hz.2.1; omega)
   simp
 | h + 2, _, _, hi, _, _, s => by
   obtain ⟨c, ps, n1, -, rfl, -, -, -, -, -, hC⟩ := s.inner (by have := hz.1; omega)
   obtain ⟨L, hl, hS, rfl, rfl⟩ := (ch_iff hi).1 hC
   have hq : 0 < L.length := by omega
   have := bn_height hz (hS 0 _ _ (List.getElem?_eq_getElem (by rw [bnds_length]; omega)) (List.getElem?_eq_getElem hq))
   obtain ⟨x, L', rfl⟩ : ∃ x L', L = x :: L' := by cases L with
    | nil => simp at hq
    | cons x L' => exact ⟨x, L', rfl⟩
   simp at this ⊢
   omega
end Go.Proofs.YtocnhaoilnojmaaGreat
namespace Go.Proofs.YtocnhaoilnojmaaGreat
open Go Go.RowKit
set_option linter.all false
set_option maxRecDepth 100000
theorem bn_okAll {z : Nat} {N : Nodes} (hz : sizeOk (z : Int)) : ∀ {h : Nat} {no : Int} {lo : Bytes} {hi : Option Bytes} {ns : List Int} {es : Es}, Bn z N h no lo hi ns es → ∀ x ∈ ns, ∃ n, N x = some n ∧ NdOk z n
 | 0, _, _, _, _, _, s, _, _ => s.elim
 | 1, _, _, _, _, _, s, x, hx => by
   obtain ⟨h1, rfl, -⟩ := s.leaf (by have := hz.2.1; omega)
   obtain ⟨n, h2, h3, -⟩ := bn_at s
   simp at hx; subst hx
   exact ⟨n, h2, h3⟩
 | h + 2, _, _, hi, _, _, s, x, hx => by
   obtain ⟨n, h2, h3, -⟩ := bn_at s
   obtain ⟨c, ps, n1, -, rfl, -, -, -, -, -, hC⟩ := s.inner (by have := hz.1; omega)
   obtain ⟨L, hl, hS, rfl, rfl⟩ := (ch_iff hi).1 hC
   rcases List.mem_cons.1 hx with rfl | hx
   ·exact ⟨n, h2, h3⟩
   ·obtain ⟨l, hl', hxl⟩ := List.mem_flatMap.1 hx
    obtain ⟨i, hi', e⟩ := List.getElem_of_mem hl'
    exact bn_okAll hz (hS i _ l (List.getElem?_eq_getElem (by rw [bnds_length]; omega)) (by rw [List.getElem?_eq_getElem hi', e])) x hxl
theorem Inv.nodup {T : Tr} {H : Nat} {ns : List Int} {es : Es} (h : Inv T H ns es) : ns.Nodup := by
 rcases h.std with ⟨-, -, rfl, -⟩ | ⟨-, -, -, h, -⟩
 ·simp
 ·exact h
theorem Inv.mem {T : Tr} {H : Nat} {ns : List Int} {es : Es} (h : Inv T H ns es) (x : Int) : T.nodes x ≠ none ↔ x ∈ ns := by
 refine ⟨h.all x, fun hx => ?_⟩
 rcases h.std with ⟨-, -, rfl, -⟩ | ⟨-, -, hB, -, -⟩
 ·cases hx
 ·exact Bn.some hB x hx
theorem Inv.ok {T : Tr} {H : Nat} {ns : List Int} {es : Es} (h : Inv T H ns es) (hz : sizeOk (T.size : Int)) {x : Int} {n : Nd} (hn : T.nodes x = some n) : NdOk T.size n := by
 have hx := (h.mem x).1 (by rw [hn]; simp)
 rcases h.std with ⟨-, -, rfl, -⟩ | ⟨-, -, hB, -, -⟩
 ·cases hx
 ·obtain ⟨m, h1, h2⟩ := bn_okAll hz hB x hx
  rw [hn] at h1; cases h1; exact h2
section
variable {P : Program} {e : Env} {d : Option Nat} {ty : TypeId} {pos : String} {aft : Array Edge} {g : Option (Nat × Bool)} {x : Operand} {w : World} {κ : Type} [DecidableEq κ] {K : κ → Value} {r m : Nat} {left : List (κ × Value)}
theorem pnx (hx : look e x = some (ptr r 0)) (hi : RgI K w r m left) : Yp P e ⟨d, .next x false, ty, pos, aft, g⟩ w fun v w' => (left = [] ∧ v = .tuple #[.bool false] ∧ w' = w) ∨ ∃ k u l1 l2, left = l1 ++ (k, u) :: l2 ∧ v = .tuple #[.bool true, K k, u] ∧ RgE K w' r m (k, u) (l1 ++ l2) ∧ Kp (fun i => i = r) w w' := by
 rcases ynx hx hi with ⟨h, hy⟩ | ⟨⟨k, u⟩, l1, l2, w', h, hy, h1, h2⟩
 ·exact ⟨_, _, hy, .inl ⟨h, rfl, rfl⟩⟩
 ·exact ⟨_, _, hy, .inr ⟨k, u, l1, l2, h, rfl, h1, h2⟩⟩
end
theorem RgE.i {κ : Type} [DecidableEq κ] {K : κ → Value} {w : World} {r m : Nat} {p : κ × Value} {left : List (κ × Value)} (h : RgE K w r m p left) : RgI K w r m left := h.1
/-- Pages in a slice of their own. -/
def PgSl (w : World) (v : Value) (l : Pgs) : Prop := Sl w v 55 2 l.length (pgC l)
section
variable {w : World} {p : Nat} {T : Tr} {nb : Int → Nat} {F : Nat → Prop}
theorem keys_iff {T : Tr} {nb : Int → Nat} {kn : List (Int × Value)} (hg : ∀ no, getL kn no = (T.nodes no).map fun _ => ptr (nb no) 0) (x : Int) : x ∈ kn.map (·.1) ↔ T.nodes x ≠ none := by
 constructor
 ·intro hx e
  have := hg x
  rw [e] at this
  exact getL_notin this hx
 ·intro hx
  cases e : T.nodes x with
  | none => exact absurd e hx
  | some n =>
    have := hg x
    rw [e] at this
    exact List.mem_map.2 ⟨_, getL_mem this, rfl⟩
set_option maxHeartbeats 4000000 in
theorem told_ret (h : TreeA w p T nb F) {H : Nat} {ns : List Int} {es : Es} (hI : Inv T H ns es) (hns : ns.length ≤ 1000000) {g : Nat} {caps : List Value} {q : Int → Bool} (hcf : CF Tryz.prog g) (hw : ∀ w' x, Ext w w' → Ret Tryz.prog g (I x :: caps) w' fun v w'' => v = .bool (q x) ∧ w'' = w') :
  Ret Tryz.prog 55 [ptr p 0, .func (.func g) #[] caps.toArray] w fun v w' => Ext w w' ∧ PgSl w' v (pgs T.size T.nodes ns q) ∧ ∀ g, v.ownBlock = some g → w.heap.size ≤ g := by
 have hz : sizeOk (T.size : Int) := size_ok h
 obtain ⟨mN, mC, mO, gv, kn, kc, ko, O⟩ := h.opn
 have hlt := h.lt
 have hki := keys_iff O.ng
 refine ret_of_run (e := [(0, _), (1, _)]) Tryz.func55 rfl Tryz.ntmps55 rfl rfl ?_; refine qN rfl ?_; refine qV (yas rfl) ?_; refine qM rfl ?_; refine qV (yas rfl) ?_; refine rEnd ?_; refine run_seq ?_; refine qN rfl ?_; refine qV (ymv rfl) ?_; refine qV ((by first | exact ync rfl | exact yncf rfl)) ?_; refine qV (yfa fl74_5 rfl) ?_; refine qV (yld U71 rfl rfl O.blk rfl) ?_; refine rValP rfl rfl (prg U71 rfl O.nm) ?_
 rintro _ w1 ⟨r, rfl, hr, hx1, hg1⟩
 refine rEnd ?_; refine run_block ?_
 refine run_loop (α := List (Int × Value) × Value) ((kn, .slice none 0 0)) (fun x => [(0, ptr p 0), (1, .func (.func g) #[] caps.toArray), (14, ptr r 0), (5, x.2)]) (fun x w' => Ext w w' ∧ RgI KZ w' r mN x.1 ∧ (∀ y ∈ x.1, y ∈ kn) ∧ (x.1.map (·.1)).Nodup ∧ ∃ l : Pgs, Sl w' x.2 55 2 l.length (pgC l) ∧ (∀ g, x.2.ownBlock = some g → w.heap.size ≤ g ∧ g ≠ r) ∧ (l.map (·.1)).Nodup ∧ (∀ y ∈ l, y.2 = encAt T.size T.nodes y.1) ∧ ∀ z, z ∈ l.map (·.1) ↔ (z ∈ ns ∧ q z = true ∧ z ∉ x.1.map (·.1))) (fun x => x.1.length) (by repeat (first | exact Sub.nil | refine Sub.cons rfl ?_)) ?hI ?hround
 case hI =>
  refine ⟨hx1, hg1, fun y hy => hy, O.nm.nd, [], Sl.nil _ _ _, fun g hg => by simp [Value.ownBlock] at hg, by simp, by simp, fun z => ?_⟩
  simp only [List.map_nil, List.not_mem_nil, false_iff]
  rintro ⟨h1, -, h3⟩
  exact h3 ((hki z).2 ((hI.mem z).2 h1))
 case hround =>
  rintro ⟨left, lv⟩ wi ⟨hxi, hRg, hsub, hnd, l, hSl, hown, hln, hlt2, hmem⟩ ih
  dsimp only at hRg hsub hnd hSl hown hmem
  have hll : l.length ≤ ns.length := by
   have := List.Nodup.length_le_of_subset hln (l₂ := ns) (fun z hz => ((hmem z).1 hz).1)
   simpa using this
  have hzi := hxi.size
  try dsimp only
  refine qN rfl ?_; refine rValP rfl rfl (pnx rfl hRg) ?_
  rintro v2 w2 hv
  rcases hv with ⟨rfl, rfl, rfl⟩ | ⟨x, u, l1, l2, rfl, rfl, hRe, hk2⟩
  ·skip
   refine qV (yex rfl rfl) ?_; refine rEnd ?_; refine run_seq ?_; refine run_false rfl ?_; refine run_exit rfl ?_; refine qN rfl ?_; refine qV (ymv rfl) ?_; refine rCall rfl rfl (yc (args := [.tmp 40, .func 91]) cf90 rfl) (sortP_ret hSl (by omega) (fun y hy => by have := hI.num y.1 ((hI.mem _).2 ((hmem y.1).1 (List.mem_map.2 ⟨y, hy, rfl⟩)).1); omega)) ?_
   rintro _ w3 ⟨rfl, hk3, l', hp, hso, hS3⟩
   refine qM rfl ?_; refine qV (ymv rfl) ?_; refine qV (yas rfl) ?_; refine rEnd ?_; refine run_ret Tryz.func55 rfl ?_
   have hmem' : ∀ z, z ∈ l'.map (·.1) ↔ z ∈ l.map (·.1) := fun z => (hp.map _).mem_iff
   have e : l' = pgs T.size T.nodes ns q := pgs_of hI.nodup hso ((hp.map _).nodup_iff.2 hln) (fun z => by rw [hmem' z, hmem z]; simp) (fun y hy => hlt2 y (hp.mem_iff.1 hy))
   rw [e] at hS3
   exact ⟨_, rfl, hxi.trans_new hk3 (fun i hi => (hown i hi).1), hS3, fun g hg => (hown g hg).1⟩
  ·skip
   have hxin : (x, u) ∈ kn := hsub _ (by simp)
   have hgx := getL_of_mem O.nm.nd hxin
   rw [O.ng x] at hgx
   obtain ⟨n, hn⟩ : ∃ n, T.nodes x = some n := by
    cases e : T.nodes x with
    | none => rw [e] at hgx; cases hgx
    | some n => exact ⟨n, rfl⟩
   rw [hn] at hgx
   have hu : u = ptr (nb x) 0 := (Option.some.inj hgx).symm
   subst hu
   have hx2 : Ext w w2 := hxi.trans_new hk2 (fun i hi => by omega)
   have h2 := h.ext hx2
   obtain ⟨pl, hpq, hM, -, -⟩ := h2.nodeF hn
   obtain ⟨qb, qk, qv, qc⟩ := pl
   dsimp only at hpq
   subst hpq
   have hBn := hM.blk
   dsimp only at hBn
   have hBO := hx2.blk O.blk
   have hS2 := hSl.kp hk2 (fun g hg e => (hown g hg).2 e)
   have hnx : x ∉ (l1 ++ l2).map (·.1) := fun hx => by
    rw [List.map_append, List.map_cons] at hnd
    have h3 := List.nodup_append.1 hnd
    rw [List.map_append] at hx
    rcases List.mem_append.1 hx with hx | hx
    ·exact h3.2.2 x hx x (List.mem_cons_self ..) rfl
    ·exact (List.nodup_cons.1 h3.2.1).1 hx
   have hnd2 : ((l1 ++ l2).map (·.1)).Nodup := by
    rw [List.map_append, List.map_cons] at hnd
    rw [List.map_append]
    have h3 := List.nodup_append.1 hnd
    exact List.nodup_append.2 ⟨h3.1, (List.nodup_cons.1 h3.2.1).2, fun a ha b hb => h3.2.2 a ha b (List.mem_cons_of_mem _ hb)⟩
   have hmm : ∀ z, z ∈ (l1 ++ (x, ptr (nb x) 0) :: l2).map (·.1) ↔ z = x ∨ z ∈ (l1 ++ l2).map (·.1) := fun z => by
    simp only [List.map_append, List.map_cons, List.mem_append, List.mem_cons]
    constructor
    ·rintro (h | h | h)
     ·exact .inr (.inl h)
     ·exact .inl h
     ·exact .inr (.inr h)
    ·rintro (h | h | h)
     ·exact .inr (.inl h)
     ·exact .inl h
     ·exact .inr (.inr h)
   have hxns : x ∈ ns := (hI.mem x).1 (by rw [hn]; simp)
   have hsub2 : ∀ y ∈ l1 ++ l2, y ∈ kn := fun y hy => hsub y (by
    rcases List.mem_append.1 hy with hy | hy
    ·exact List.mem_append_left _ hy
    ·exact List.mem_append_right _ (List.mem_cons_of_mem _ hy))
   have hlen2 : (l1 ++ l2).length < (l1 ++ (x, ptr (nb x) 0) :: l2).length := by simp
   have hz2 := hx2.size
   refine qV (yex rfl rfl) ?_; refine rEnd ?_; refine run_seq ?_; refine run_true rfl ?_; refine run_skip ?_; refine run_block ?_; refine qN rfl ?_; refine qV (yen rfl hRe) ?_
   dsimp only
   refine qV (yex rfl rfl) ?_; refine qV (yex rfl rfl) ?_; refine qV (yas rfl) ?_; refine qV (yas rfl) ?_; refine qM rfl ?_; refine qV (ymv rfl) ?_; refine qV (ymv rfl) ?_; refine rCall rfl rfl (ycv' (args := [.tmp 21]) hcf rfl rfl) (hw w2 x hx2) ?_
   rintro _ w2 ⟨rfl, rfl⟩
   refine rEnd ?_; refine run_cond rfl (fun hq => ?_) (fun hq => ?_)
   ·skip
    have hg2 : Ext w2 w2.drew := Ext.drew0 w2
    refine run_seq ?_; refine run_draw (fun w' => Ext w2 w') (by kernel_rfl) rfl ?_; refine qT 0 rfl (fun _ hS => ymv rfl) (hg2) ?_; refine qT 1 rfl (fun _ hS => (by first | exact ync rfl | exact yncf rfl)) (hg2) ?_; refine qT 2 rfl (fun _ hS => (by first | exact yldA U84 rfl ti84 rfl (Blk.cells (n := 4) (hS.blk hBn) (news := [_, _, _, _]) rfl) rfl | exact yldA U84 rfl ti84 rfl (Blk.cells (n := 4) (hS.blk hBO) (news := [_, _, _, _]) rfl) rfl)) (hg2) ?_; refine qT 3 rfl (fun _ hS => ymv rfl) (hg2) ?_; refine qT 4 rfl (fun _ hS => (by first | exact ync rfl | exact yncf rfl)) (hg2) ?_
    refine qT 5 rfl (fun _ hS => yfa fl74_0 rfl) (hg2) ?_; refine qT 6 rfl (fun _ hS => (by first | exact yld U3 rfl rfl (hS.blk hBn) rfl | exact yld U3 rfl rfl (hS.blk hBO) rfl)) (hg2) ?_; refine qO 7 ?_; refine nCall (i := 7) rfl rfl rfl (yc (args := [.tmp 26, .tmp 30]) cf83 rfl) (encode_ret (n := n) (hM.r.ext hg2) hM.bd hz) ?_
    rintro v3 w3 ⟨hx3, hv3⟩
    refine ⟨hg2.trans hx3, ?_⟩
    obtain rfl : v3 = .tuple #[S (enc T.size n), I 0] := by
     rcases hv3 with ⟨-, e⟩ | ⟨e, -⟩
     ·exact e
     ·exact absurd (hI.ok hz hn) e
    have hx23 := hg2.trans hx3
    refine qT 8 rfl (fun _ hS => ymv rfl) (hg2.trans hx3) ?_; refine qT 9 rfl (fun _ hS => yex rfl rfl) (hg2.trans hx3) ?_; refine qT 10 rfl (fun _ hS => yex rfl rfl) (hg2.trans hx3) ?_; refine qT 11 rfl (fun _ hS => yas rfl) (hg2.trans hx3) ?_; refine qT 12 rfl (fun _ hS => yas rfl) (hg2.trans hx3) ?_; refine qE ?_; refine run_reg rfl ?_; refine qV (ymv rfl) ?_; refine qV (ymv rfl) ?_; refine qV (ymv rfl) ?_; refine qV (ybd (parts := [(0, .tmp 35), (1, .tmp 36)]) (cs := [_, _]) ti55 rfl sp55 rfl rfl) ?_
    refine rValP rfl rfl (pbs (parts := [(0, .tmp 37)]) (cs := [_, _]) (zs := [Value.int .i64 0, Value.string ⟨#[]⟩]) U52 ti55 rfl (by kernel_rfl) rfl rfl rfl (by decide)) ?_
    rintro _ w4 ⟨b4, rfl, ⟨hb4, hx4, hB4⟩, hS4⟩
    have hml : maxLen = 9223372036854775807 := rfl
    refine rValP rfl rfl (pap U52 ti55 rfl (by decide) rfl rfl ((hS2.ext hx23).ext hx4) hS4.rd (by intro c hc; simp at hc; rcases hc with rfl | rfl <;> rfl) (by omega) (by omega)) ?_
    rintro lv5 w5 ⟨hS5, hk5, ho5, -⟩
    refine qV (yas rfl) ?_; refine rEnd ?_; refine run_inBlock ?_
    have hz4 := (hx23.trans hx4).size
    have hrl : r < w2.heap.size := by
     obtain ⟨es0, c0, s0, c1, si0, -, hr0, -⟩ := hRe.i
     exact lt_of_heap hr0
    have hx25 : Ext w w4 := (hx2.trans hx23).trans hx4
    refine (ih (l1 ++ l2, lv5) w5 ⟨hx25.trans_new hk5 (fun i hi => (hown i hi).1), ?_, hsub2, hnd2, l ++ [(x, enc T.size n)], ?_, fun g hg => ?_, ?_, fun y hy => ?_, fun z => ?_⟩ hlen2).qb
    ·refine ((hRe.i.kp (hx23.trans hx4) id id)).kp hk5 (fun e => (hown r e).2 rfl) (fun e => ?_)
     have := (hown mN e).1
     have := hlt mN O.fp.2.1
     omega
    ·rw [pgC_app, List.length_append]; exact hS5
    ·rcases ho5 g hg with e | e
     ·exact hown g e
     ·omega
    ·rw [List.map_append]
     exact List.nodup_append.2 ⟨hln, by simp, fun a ha b hb e => by
      simp at hb; subst hb; subst e
      exact ((hmem a).1 ha).2.2 ((hmm a).2 (.inl rfl))⟩
    ·rcases List.mem_append.1 hy with hy | hy
     ·exact hlt2 y hy
     ·simp at hy; subst hy
      simp only [encAt, hn]
    ·rw [List.map_append, List.mem_append, hmem z, hmm z]
     simp only [List.map_cons, List.map_nil, List.mem_singleton]
     constructor
     ·rintro (⟨a, b, c⟩ | rfl)
      ·exact ⟨a, b, fun e => c (.inr e)⟩
      ·exact ⟨hxns, hq, hnx⟩
     ·rintro ⟨a, b, c⟩
      by_cases e : z = x
      ·exact .inr e
      ·exact .inl ⟨a, b, fun hh => hh.elim e c⟩
   ·skip
    refine run_skip ?_; refine run_inBlock ?_; refine (ih (l1 ++ l2, lv) w2 ⟨hx2, hRe.i, hsub2, hnd2, l, hS2, hown, hln, hlt2, fun z => ?_⟩ hlen2).qb
    rw [hmem z, hmm z]
    constructor
    ·rintro ⟨a, b, c⟩
     exact ⟨a, b, fun e => c (.inr e)⟩
    ·rintro ⟨a, b, c⟩
     exact ⟨a, b, fun hh => hh.elim (fun e => by rw [e, hq] at b; cases b) c⟩
theorem pages1 (w : World) (x : Int) : Ret Tryz.prog 56 [I x] w fun v w' => v = .bool true ∧ w' = w := by
 refine ret_of_run (e := [(0, _)]) Tryz.func56 rfl Tryz.ntmps56 rfl rfl ?_; refine qN rfl ?_; refine qV (yas rfl) ?_; refine qM rfl ?_; refine qV (yas rfl) ?_; refine rEnd ?_; refine run_ret Tryz.func56 rfl ?_
 exact ⟨_, rfl, rfl, rfl⟩
theorem pages_ret (h : TreeA w p T nb F) {H : Nat} {ns : List Int} {es : Es} (hI : Inv T H ns es) (hns : ns.length ≤ 1000000) :
  Ret Tryz.prog 22 [ptr p 0] w fun v w' => Ext w w' ∧ PgSl w' v (pgs T.size T.nodes ns fun _ => true) ∧ ∀ g, v.ownBlock = some g → w.heap.size ≤ g := by
 refine ret_of_run (e := [(0, _)]) Tryz.func22 rfl Tryz.ntmps22 rfl rfl ?_; refine qN rfl ?_; refine qV (yas rfl) ?_; refine rEnd ?_; refine run_seq ?_; refine qN rfl ?_; refine qV (ymv rfl) ?_; refine qV (yeqpN U24 rfl rfl) ?_; refine rEnd ?_; refine run_false rfl ?_; refine run_skip ?_; refine qN rfl ?_; refine qV (ymv rfl) ?_; refine rCall rfl rfl (yc (args := [.tmp 5, .func 56]) cf55 rfl) (told_ret (caps := []) (q := fun _ => true) h hI hns cf56 (fun w' x _ => pages1 w' x)) ?_
 rintro v w1 ⟨hx1, hS1, ho1⟩
 refine qV (yas rfl) ?_; refine rEnd ?_; refine run_ret Tryz.func22 rfl ?_
 exact ⟨_, rfl, hx1, hS1, ho1⟩
end
end Go.Proofs.YtocnhaoilnojmaaGreat
namespace Go.Proofs.YtocnhaoilnojmaaGreat
open Go Go.RowKit
set_option linter.all false
set_option maxRecDepth 100000
/-- Where keys may lie, in memory. -/
def spanC (lo : Bytes) (hi : Option Bytes) (tb : Bytes) : List Value := [S lo, S tb, .bool hi.isSome]
def spanOk (hi : Option Bytes) (tb : Bytes) : Prop := ∀ u, hi = some u → tb = u
section
variable {w : World}
theorem rd_getsK {w : World} {a : Option Addr} {cap n : Nat} {l : List Bytes} {i : Nat} (h : Rd w (.slice a n cap) 1 n (l.map S)) (hn : n = l.length) (hi : i < n) : ∃ b off s, a = some ⟨b, off, none⟩ ∧ l[i]? = some s := by
 subst hn; exact rd_gets h hi
end
/-- The variables that whole's way sees. -/
structure WhC (w : World) (p bt bm bw mm : Nat) : Prop where
 t : Blk w bt [ptr p 0] 24
 m : Blk w bm [.map (some mm)] 72
 f : Blk w bw [.func (.func 84) #[] #[ptr bt 0, ptr bm 0, ptr bw 0]] 126
 ne : bt ≠ mm ∧ bm ≠ mm ∧ bw ≠ mm ∧ bt ≠ p ∧ bm ≠ p ∧ bw ≠ p ∧ mm ≠ p
theorem WhC.kp {w w' : World} {p bt bm bw mm : Nat} (h : WhC w p bt bm bw mm) (k : Kp (fun k => k = mm ∨ k = p) w w') : WhC w' p bt bm bw mm :=
 ⟨k.blk h.t (fun e => e.elim h.ne.1 h.ne.2.2.2.1), k.blk h.m (fun e => e.elim h.ne.2.1 h.ne.2.2.2.2.1), k.blk h.f (fun e => e.elim h.ne.2.2.1 h.ne.2.2.2.2.2.1), h.ne⟩
theorem WhC.ext {w w' : World} {p bt bm bw mm : Nat} (h : WhC w p bt bm bw mm) (k : Ext w w') : WhC w' p bt bm bw mm := h.kp k.kp
/-- How often each page was come to. -/
def MetM (w : World) (mm : Nat) (V : List Int) : Prop := ∃ kv, MapB KZ w mm kv ∧ kv.length = V.length ∧ ∀ x, getL kv x = if x ∈ V then some (I 1) else none
theorem MetM.kp {S : Nat → Prop} {w w' : World} {mm : Nat} {V : List Int} (h : MetM w mm V) (k : Kp S w w') (hn : ¬ S mm) : MetM w' mm V := by
 obtain ⟨kv, h1, h2, h3⟩ := h
 exact ⟨kv, h1.kp k hn, h2, h3⟩
theorem MetM.same {w : World} {mm : Nat} {V V' : List Int} (h : MetM w mm V) (hl : V.length = V'.length) (hm : ∀ x, x ∈ V ↔ x ∈ V') : MetM w mm V' := by
 obtain ⟨kv, h1, h2, h3⟩ := h
 refine ⟨kv, h1, by rw [h2, hl], fun x => ?_⟩
 rw [h3 x]
 by_cases e : x ∈ V
 ·rw [if_pos e, if_pos ((hm x).1 e)]
 ·rw [if_neg e, if_neg (fun h => e ((hm x).2 h))]
def WhAt (p bt bm bw mm k : Nat) : Prop := ∀ (w : World) (T : Tr) (nb : Int → Nat) (F : Nat → Prop) (no : Int) (lo : Bytes) (hi : Option Bytes) (tb : Bytes) (V pg : List Int),
 TreeA w p T nb F → WhC w p bt bm bw mm → (¬ F bt ∧ ¬ F bm ∧ ¬ F bw ∧ ¬ F mm) → (∀ x n, T.nodes x = some n → NdOk T.size n) → (∀ x, T.nodes x ≠ none → x ∈ pg) → pg.length ≤ 1000000 → MetM w mm V → V.Nodup → (∀ x ∈ V, x ∈ pg) → T.count ≤ V.length * 100000 → pg.length ≤ V.length + k → spanOk hi tb → ((V = [] ∧ no = T.root) ∨ T.root ∈ V) →
 Ret Tryz.prog 84 [I no, .agg (spanC lo hi tb).toArray, ptr bt 0, ptr bm 0, ptr bw 0] w fun val w' => Kp (fun k => k = mm ∨ k = p) w w' ∧
  ((∃ (h : Nat) (ns : List Int) (es : Es), val = I (h : Int) ∧ Sub1 T.size T.nodes V (decide (V = [])) no lo hi h ns es ∧ TreeA w' p { T with count := T.count + es.length } nb F ∧ MetM w' mm (ns ++ V) ∧ T.count + es.length ≤ (ns ++ V).length * 100000) ∨ (val = I (-1) ∧ NoSub T.size T.nodes V (decide (V = [])) no lo hi))
end Go.Proofs.YtocnhaoilnojmaaGreat
namespace Go.Proofs.YtocnhaoilnojmaaGreat
open Go Go.RowKit
set_option linter.all false
set_option maxRecDepth 100000
/-- The variables of Decode: what is left, whether it is bad, the function that takes from it. -/
structure DcS (w : World) (b4 b5 b6 : Nat) (r : Bytes) (bad : Bool) : Prop where
 r : Blk w b4 [S r] 9
 b : Blk w b5 [.bool bad] 4
 f : Blk w b6 [.func (.func 81) #[] #[ptr b5 0, ptr b4 0]] 122
 n1 : b4 ≠ b5
 n2 : b6 ≠ b4 ∧ b6 ≠ b5
theorem DcS.kp {S : Nat → Prop} {w w' : World} {b4 b5 b6 : Nat} {r : Bytes} {bad : Bool} (h : DcS w b4 b5 b6 r bad) (k : Kp S w w') (h1 : ¬ S b4) (h2 : ¬ S b5) (h3 : ¬ S b6) : DcS w' b4 b5 b6 r bad := ⟨k.blk h.r h1, k.blk h.b h2, k.blk h.f h3, h.n1, h.n2⟩
theorem DcS.ext {w w' : World} {b4 b5 b6 : Nat} {r : Bytes} {bad : Bool} (h : DcS w b4 b5 b6 r bad) (k : Ext w w') : DcS w' b4 b5 b6 r bad := h.kp k id id id
/-- The node that Decode builds. -/
structure DcN (w0 w : World) (b4 b5 b6 b9 : Nat) (lf : Bool) (ks vs : List Bytes) (cs : List Nat) (kv vv cv : Value) : Prop where
 blk : Blk w b9 [.bool lf, kv, vv, cv] 84
 k : Sl w kv 9 1 ks.length (ks.map S)
 v : Sl w vv 9 1 vs.length (vs.map S)
 c : Sl w cv 89 1 cs.length (cs.map u32v)
 low : ∀ g, kv.ownBlock = some g ∨ vv.ownBlock = some g ∨ cv.ownBlock = some g → w0.heap.size ≤ g ∧ g ≠ b4 ∧ g ≠ b5 ∧ g ≠ b6 ∧ g ≠ b9
 d2 : ∀ g, kv.ownBlock = some g → vv.ownBlock ≠ some g ∧ cv.ownBlock ≠ some g
 d3 : ∀ g, vv.ownBlock = some g → cv.ownBlock ≠ some g
 n9 : w0.heap.size ≤ b9 ∧ b9 ≠ b4 ∧ b9 ≠ b5 ∧ b9 ≠ b6
 n4 : b4 < w.heap.size ∧ b5 < w.heap.size ∧ b6 < w.heap.size
section
variable {w0 w w' w1 w2 w3 w4 : World} {b4 b5 b6 b9 : Nat} {lf : Bool} {ks vs : List Bytes} {cs : List Nat} {kv vv cv kv2 : Value}
theorem DcN.kp {S : Nat → Prop} (h : DcN w0 w b4 b5 b6 b9 lf ks vs cs kv vv cv) (k : Kp S w w') (hs : ∀ g, S g → g = b4 ∨ g = b5) : DcN w0 w' b4 b5 b6 b9 lf ks vs cs kv vv cv := by
 have hz := k.size
 refine ⟨k.blk h.blk (fun e => (hs _ e).elim h.n9.2.1 h.n9.2.2.1), h.k.kp k (fun g hg e => ?_), h.v.kp k (fun g hg e => ?_), h.c.kp k (fun g hg e => ?_), h.low, h.d2, h.d3, h.n9, by have := h.n4; omega⟩
 ·have := h.low g (.inl hg); exact (hs g e).elim this.2.1 this.2.2.1
 ·have := h.low g (.inr (.inl hg)); exact (hs g e).elim this.2.1 this.2.2.1
 ·have := h.low g (.inr (.inr hg)); exact (hs g e).elim this.2.1 this.2.2.1
theorem DcN.ext (h : DcN w0 w b4 b5 b6 b9 lf ks vs cs kv vv cv) (k : Ext w w') : DcN w0 w' b4 b5 b6 b9 lf ks vs cs kv vv cv := h.kp k (fun _ e => e.elim)
theorem DcN.pushK (h0 : w0.heap.size ≤ w1.heap.size) (h : DcN w0 w1 b4 b5 b6 b9 lf ks vs cs kv vv cv) {x : Bytes} {u : Value} (hx : Ext w1 w2) (hs : Sl w3 u 9 1 (ks ++ [x]).length ((ks ++ [x]).map S)) (hk : Kp (fun g => kv.ownBlock = some g) w2 w3) (ho : ∀ g, u.ownBlock = some g → kv.ownBlock = some g ∨ w2.heap.size ≤ g) (hl : Blk w4 b9 [.bool lf, u, vv, cv] 84) (hk4 : Kp (fun g => g = b9) w3 w4) :
  DcN w0 w4 b4 b5 b6 b9 lf (ks ++ [x]) vs cs u vv cv ∧ Kp (fun g => g = b9 ∨ kv.ownBlock = some g) w1 w4 := by
 have hk14 : Kp (fun g => g = b9 ∨ kv.ownBlock = some g) w1 w4 := (hx.kp.trans (hk.mono' (fun g e => .inr e))).trans (hk4.mono' (fun g e => .inl e))
 have hz := hx.size
 have hz2 := hk14.size
 have hb9 := h.blk.lt
 have hn4 := h.n4
 have hn9 := h.n9
 have hu : ∀ g, u.ownBlock = some g → w0.heap.size ≤ g ∧ g ≠ b4 ∧ g ≠ b5 ∧ g ≠ b6 ∧ g ≠ b9 := fun g hg => by
  rcases ho g hg with e | e
  ·exact h.low g (.inl e)
  ·exact ⟨by omega, by omega, by omega, by omega, by omega⟩
 refine ⟨⟨hl, hs.kp hk4 (fun g hg e => (hu g hg).2.2.2.2 e), h.v.kp hk14 (fun g hg e => e.elim (h.low g (.inr (.inl hg))).2.2.2.2 (fun e => (h.d2 g e).1 hg)), h.c.kp hk14 (fun g hg e => e.elim (h.low g (.inr (.inr hg))).2.2.2.2 (fun e => (h.d2 g e).2 hg)), ?_, ?_, ?_, h.n9, by omega⟩, hk14⟩
 ·exact fun g hg => by
   rcases hg with hg | hg | hg
   ·exact hu g hg
   ·exact h.low g (.inr (.inl hg))
   ·exact h.low g (.inr (.inr hg))
 ·exact fun g hg => by
   rcases ho g hg with e | e
   ·exact h.d2 g e
   ·exact ⟨fun hg => by have := h.v.lt hg; omega, fun hg => by have := h.c.lt hg; omega⟩
 ·exact h.d3
theorem DcN.pushV (h0 : w0.heap.size ≤ w1.heap.size) (h : DcN w0 w1 b4 b5 b6 b9 lf ks vs cs kv vv cv) {x : Bytes} {u : Value} (hx : Ext w1 w2) (hs : Sl w3 u 9 1 (vs ++ [x]).length ((vs ++ [x]).map S)) (hk : Kp (fun g => vv.ownBlock = some g) w2 w3) (ho : ∀ g, u.ownBlock = some g → vv.ownBlock = some g ∨ w2.heap.size ≤ g) (hl : Blk w4 b9 [.bool lf, kv, u, cv] 84) (hk4 : Kp (fun g => g = b9) w3 w4) :
  DcN w0 w4 b4 b5 b6 b9 lf ks (vs ++ [x]) cs kv u cv ∧ Kp (fun g => g = b9 ∨ vv.ownBlock = some g) w1 w4 := by
 have hk14 : Kp (fun g => g = b9 ∨ vv.ownBlock = some g) w1 w4 := (hx.kp.trans (hk.mono' (fun g e => .inr e))).trans (hk4.mono' (fun g e => .inl e))
 have hz := hx.size
 have hz2 := hk14.size
 have hb9 := h.blk.lt
 have hn4 := h.n4
 have hn9 := h.n9
 have hu : ∀ g, u.ownBlock = some g → w0.heap.size ≤ g ∧ g ≠ b4 ∧ g ≠ b5 ∧ g ≠ b6 ∧ g ≠ b9 := fun g hg => by
  rcases ho g hg with e | e
  ·exact h.low g (.inr (.inl e))
  ·exact ⟨by omega, by omega, by omega, by omega, by omega⟩
 refine ⟨⟨hl, h.k.kp hk14 (fun g hg e => e.elim (h.low g (.inl hg)).2.2.2.2 (fun e => (h.d2 g hg).1 e)), hs.kp hk4 (fun g hg e => (hu g hg).2.2.2.2 e), h.c.kp hk14 (fun g hg e => e.elim (h.low g (.inr (.inr hg))).2.2.2.2 (fun e => h.d3 g e hg)), ?_, ?_, ?_, h.n9, by omega⟩, hk14⟩
 ·exact fun g hg => by
   rcases hg with hg | hg | hg
   ·exact h.low g (.inl hg)
   ·exact hu g hg
   ·exact h.low g (.inr (.inr hg))
 ·exact fun g hg => ⟨fun hg2 => by
   rcases ho g hg2 with e | e
   ·exact (h.d2 g hg).1 e
   ·have := h.k.lt hg; omega, (h.d2 g hg).2⟩
 ·exact fun g hg => by
   rcases ho g hg with e | e
   ·exact h.d3 g e
   ·exact fun hg => by have := h.c.lt hg; omega
theorem DcN.pushC (h0 : w0.heap.size ≤ w1.heap.size) (h : DcN w0 w1 b4 b5 b6 b9 lf ks vs cs kv vv cv) {x : Nat} {u : Value} (hx : Ext w1 w2) (hs : Sl w3 u 89 1 (cs ++ [x]).length ((cs ++ [x]).map u32v)) (hk : Kp (fun g => cv.ownBlock = some g) w2 w3) (ho : ∀ g, u.ownBlock = some g → cv.ownBlock = some g ∨ w2.heap.size ≤ g) (hl : Blk w4 b9 [.bool lf, kv, vv, u] 84) (hk4 : Kp (fun g => g = b9) w3 w4) :
  DcN w0 w4 b4 b5 b6 b9 lf ks vs (cs ++ [x]) kv vv u ∧ Kp (fun g => g = b9 ∨ cv.ownBlock = some g) w1 w4 := by
 have hk14 : Kp (fun g => g = b9 ∨ cv.ownBlock = some g) w1 w4 := (hx.kp.trans (hk.mono' (fun g e => .inr e))).trans (hk4.mono' (fun g e => .inl e))
 have hz := hx.size
 have hz2 := hk14.size
 have hb9 := h.blk.lt
 have hn4 := h.n4
 have hn9 := h.n9
 have hu : ∀ g, u.ownBlock = some g → w0.heap.size ≤ g ∧ g ≠ b4 ∧ g ≠ b5 ∧ g ≠ b6 ∧ g ≠ b9 := fun g hg => by
  rcases ho g hg with e | e
  ·exact h.low g (.inr (.inr e))
  ·exact ⟨by omega, by omega, by omega, by omega, by omega⟩
 refine ⟨⟨hl, h.k.kp hk14 (fun g hg e => e.elim (h.low g (.inl hg)).2.2.2.2 (fun e => (h.d2 g hg).2 e)), h.v.kp hk14 (fun g hg e => e.elim (h.low g (.inr (.inl hg))).2.2.2.2 (fun e => h.d3 g hg e)), hs.kp hk4 (fun g hg e => (hu g hg).2.2.2.2 e), ?_, ?_, ?_, h.n9, by omega⟩, hk14⟩
 ·exact fun g hg => by
   rcases hg with hg | hg | hg
   ·exact h.low g (.inl hg)
   ·exact h.low g (.inr (.inl hg))
   ·exact hu g hg
 ·exact fun g hg => ⟨(h.d2 g hg).1, fun hg2 => by
   rcases ho g hg2 with e | e
   ·exact (h.d2 g hg).2 e
   ·have := h.k.lt hg; omega⟩
 ·exact fun g hg hg2 => by
   rcases ho g hg2 with e | e
   ·exact h.d3 g hg e
   ·have := h.v.lt hg; omega
end
end Go.Proofs.YtocnhaoilnojmaaGreat
namespace Go.Proofs.YtocnhaoilnojmaaGreat
open Go Go.RowKit
set_option linter.all false
set_option maxRecDepth 100000
theorem sub_of_len {a b : List Int} (ha : a.Nodup) (hab : ∀ x ∈ a, x ∈ b) (hl : b.length ≤ a.length) : ∀ x ∈ b, x ∈ a := fun x hx => by
 by_cases h : x ∈ a
 ·exact h
 ·have := List.Nodup.length_le_of_subset (List.nodup_cons.2 ⟨h, ha⟩) (l₂ := b) (fun y hy => by
   rcases List.mem_cons.1 hy with rfl | hy
   ·exact hx
   ·exact hab y hy)
  rw [List.length_cons] at this
  omega
section
variable {w : World} {p : Nat} {T : Tr} {nb : Int → Nat} {F : Nat → Prop}
end
/-! ### Pages that are handed in -/
noncomputable def ndOf (z : Nat) (t : Bytes) : Option Nd := if t.length = z then dec t else none
noncomputable def nodesOf (z : Nat) (l : Pgs) : Nodes := fun x => match l.find? (fun y => decide (y.1 = x)) with
 | some y => ndOf z y.2
 | none => none
theorem ndOf_ok {z : Nat} {t : Bytes} {n : Nd} (h : ndOf z t = some n) : NdZ z n ∧ enc z n = t ∧ t.length = z := by
 unfold ndOf at h
 split at h
 ·rename_i e
  obtain ⟨-, h2, h3⟩ := dec_some.1 h
  rw [e] at h2 h3
  exact ⟨h2, h3, e⟩
 ·cases h
theorem nodesOf_none {z : Nat} {l : Pgs} {x : Int} (h : x ∉ l.map (·.1)) : nodesOf z l x = none := by
 unfold nodesOf
 rw [List.find?_eq_none.2 (fun y hy => by
  simp only [decide_eq_true_eq]
  intro e
  exact h (List.mem_map.2 ⟨y, hy, e⟩))]
theorem nodesOf_mem {z : Nat} : ∀ {l : Pgs} {y : Int × Bytes}, (l.map (·.1)).Nodup → y ∈ l → nodesOf z l y.1 = ndOf z y.2
 | a :: r, y, hn, hy => by
   rw [List.map_cons] at hn
   obtain ⟨h1, h2⟩ := List.nodup_cons.1 hn
   unfold nodesOf
   rw [List.find?_cons]
   rcases List.mem_cons.1 hy with rfl | hy
   ·rw [decide_eq_true rfl]
   ·have : a.1 ≠ y.1 := fun e => h1 (List.mem_map.2 ⟨y, hy, e.symm⟩)
    rw [decide_eq_false this]
    exact nodesOf_mem h2 hy
theorem nodesOf_ok {z : Nat} {l : Pgs} {x : Int} {n : Nd} (h : nodesOf z l x = some n) : NdZ z n ∧ x ∈ l.map (·.1) := by
 by_cases hx : x ∈ l.map (·.1)
 ·refine ⟨?_, hx⟩
  unfold nodesOf at h
  split at h
  ·exact (ndOf_ok h).1
  ·cases h
 ·rw [nodesOf_none hx] at h; cases h
/-- Numbers that may be. -/
def numsOk (z root : Int) (l : Pgs) : Prop := sizeOk z ∧ (0 ≤ root ∧ root ≤ 2147483647) ∧ (l.map (·.1)).Nodup ∧ ∀ x ∈ l, 1 ≤ x.1 ∧ x.1 ≤ 2147483647
/-- They are a tree. -/
def LoadOk (z : Nat) (root : Int) (l : Pgs) (H : Nat) (ns : List Int) (es : Es) : Prop := (root = 0 ∧ l = [] ∧ H = 0 ∧ ns = [] ∧ es = []) ∨ (root ≠ 0 ∧ Sub1 z (nodesOf z l) [] true root [] none H ns es ∧ ns.length = l.length)
theorem LoadOk.mem {z : Nat} {root : Int} {l : Pgs} {H : Nat} {ns : List Int} {es : Es} (h : LoadOk z root l H ns es) : ∀ x, x ∈ ns ↔ x ∈ l.map (·.1) := by
 rcases h with ⟨-, rfl, -, rfl, -⟩ | ⟨-, s, hl⟩
 ·simp
 ·have h1 : ∀ x ∈ ns, x ∈ l.map (·.1) := fun x hx => by
   obtain ⟨n, hn⟩ := Option.ne_none_iff_exists'.1 (s.bn.some x hx)
   exact (nodesOf_ok hn).2
  exact fun x => ⟨h1 x, sub_of_len s.nd h1 (by simp; omega) x⟩
theorem LoadOk.all {z : Nat} {root : Int} {l : Pgs} {H : Nat} {ns : List Int} {es : Es} (h : LoadOk z root l H ns es) (hn : (l.map (·.1)).Nodup) : ∀ y ∈ l, ∃ n, ndOf z y.2 = some n := fun y hy => by
 have hm := (h.mem y.1).2 (List.mem_map.2 ⟨y, hy, rfl⟩)
 rcases h with ⟨-, rfl, -⟩ | ⟨-, s, hl⟩
 ·cases hy
 ·obtain ⟨n, hn'⟩ := Option.ne_none_iff_exists'.1 (s.bn.some _ hm)
  rw [nodesOf_mem hn hy] at hn'
  exact ⟨n, hn'⟩
/-- The tree of the pages. -/
noncomputable def TrL (z : Nat) (root : Int) (l : Pgs) (c : Nat) : Tr := ⟨z, root, c, nodesOf z l, [], fun _ => false, fun x => decide (x ∈ l.map (·.1))⟩
/-- The tree of the first pages. -/
noncomputable def TrI (z : Nat) (l : Pgs) (i : Nat) : Tr := ⟨z, 0, 0, nodesOf z (l.take i), [], fun _ => false, fun x => decide (x ∈ (l.take i).map (·.1))⟩
theorem LoadOk.inv {z : Nat} {root : Int} {l : Pgs} {H : Nat} {ns : List Int} {es : Es} (h : LoadOk z root l H ns es) (hn : numsOk (z : Int) root l) : Inv (TrL z root l es.length) H ns es := by
 have hm := h.mem
 have hN : ∀ x, nodesOf z l x ≠ none → x ∈ l.map (·.1) := fun x hx => by
  obtain ⟨n, hn⟩ := Option.ne_none_iff_exists'.1 hx
  exact (nodesOf_ok hn).2
 refine ⟨?_, fun x hx => (hm x).2 (hN x hx), rfl, fun x hx => ?_, fun x hx => absurd hx List.not_mem_nil, ⟨List.Pairwise.nil, fun x hx => absurd hx List.not_mem_nil⟩, fun x hx _ => decide_eq_true (hN x hx)⟩
 ·rcases h with ⟨h1, -, h2, h3, h4⟩ | ⟨h1, s, -⟩
  ·exact .inl ⟨h1, h2, h3, h4⟩
  ·exact .inr ⟨h1, s.bn.pos, s.bn, s.nd, fun n hn => by have := s.cnd n hn; simpa using this⟩
 ·obtain ⟨y, hy, rfl⟩ := List.mem_map.1 (hN x hx)
  exact hn.2.2.2 y hy
theorem rd_pg {w : World} {b off n cap : Nat} {l : Pgs} {i : Nat} {y : Int × Bytes} (h : Rd w (.slice (some ⟨b, off, none⟩) n cap) 2 n (pgC l)) (hi : i < n) (hy : l[i]? = some y) : ∀ (j : Nat) u, [I y.1, S y.2][j]? = some u → w.cell? ⟨b, off + i * 2 + j, none⟩ = some u := fun j u hj => by
 rcases h.2 with ⟨c, -, h0⟩ | ⟨b', off', cap', hv, hc⟩
 ·omega
 ·cases hv
  obtain ⟨f1, f2⟩ := flat2 (fun x : Int × Bytes => I x.1) (fun x : Int × Bytes => S x.2) l i
  rw [hy] at f1 f2
  match j, hj with
  | 0, hj =>
    have : u = I y.1 := by simpa using hj.symm
    subst this
    have := hc (2 * i) (I y.1) f1
    rw [show off + i * 2 + 0 = off + 2 * i by omega]
    exact this
  | 1, hj =>
    have : u = S y.2 := by simpa using hj.symm
    subst this
    have := hc (2 * i + 1) (S y.2) f2
    rw [show off + i * 2 + 1 = off + (2 * i + 1) by omega]
    exact this
theorem rd_pgs {w : World} {a : Option Addr} {cap n : Nat} {l : Pgs} {i : Nat} (h : Rd w (.slice a n cap) 2 n (pgC l)) (hn : n = l.length) (hi : i < n) : ∃ b off y, a = some ⟨b, off, none⟩ ∧ l[i]? = some y := by
 rcases h.2 with ⟨c, -, h0⟩ | ⟨b', off', cap', hv, hc⟩
 ·omega
 ·cases hv
  exact ⟨b', off', _, rfl, List.getElem?_eq_getElem (by omega)⟩
section
variable {w : World}
end
end Go.Proofs.YtocnhaoilnojmaaGreat
namespace Go.Proofs.YtocnhaoilnojmaaGreat
open Go Go.RowKit
set_option linter.all false
set_option maxRecDepth 100000
section
variable {P : Program} {e : Env} {d : Option Nat} {ty t t' kt el : TypeId} {pos : String} {aft : Array Edge} {g : Option (Nat × Bool)} {x y u u2 : Operand} {w : World}
/-- s[:j] of any slice. -/
theorem yslT {z v : Value} {size bytes n cap j : Nat} {a : Option Addr} {k : IntKind} {zb : Int} [hzb : NatC zb j] (ht : P.underlying t = some (.slice el)) (hs : TI P el z size bytes) (hx : look e x = some (.slice a n cap))
  (hu : look e u = some (.int k zb)) (h : j ≤ cap) (hv : Value.slice (if cap = 0 then a else a.map (·.add (0 * size))) j cap = v) :
  Y P e ⟨d, .slice t x none (some u) none, ty, pos, aft, g⟩ v w w := fun ρ hρ => by
 obtain ⟨rfl⟩ := hzb
 have hsz := hs.size (w := w)
 have h1 : ∀ w, (Instr.sliceBound (.int k (j : Int)) cap .sliceAcap).run P w = .ok j w := fun w => by rw [run_sliceBound _ _ _ _ _ (by omega) (by omega)]; simp
 subst hv
 simp [execOp, hρ _ _ hx, hρ _ _ hu, Instr.sliceAt, run_underlying ht, Instr.slice, Instr.sliceBounds, h1, hsz]
/-- s[i:] of any slice. -/
theorem yslF {z v : Value} {size bytes n cap i : Nat} {a : Option Addr} {k : IntKind} {za : Int} [hza : NatC za i] (ht : P.underlying t = some (.slice el)) (hs : TI P el z size bytes) (hx : look e x = some (.slice a n cap))
  (hy : look e y = some (.int k za)) (h : i ≤ n) (hc : n ≤ cap) (hv : Value.slice (if cap = i then a else a.map (·.add (i * size))) (n - i) (cap - i) = v) :
  Y P e ⟨d, .slice t x (some y) none none, ty, pos, aft, g⟩ v w w := hv ▸ yslE ht hs hx hy h hc
end
theorem Rd.cap {w : World} {a : Option Addr} {n cap size : Nat} {cs : List Value} (h : Rd w (.slice a n cap) size n cs) (h0 : n = 0 ∨ n ≤ cap) : n ≤ cap := by omega
theorem rd_pre {w : World} {a : Option Addr} {n cap size j : Nat} {cs : List Value} (h : Rd w (.slice a n cap) size n cs) (hj : j ≤ n) : ∃ v, Value.slice (if cap = 0 then a else a.map (·.add (0 * size))) j cap = v ∧ Rd w v size j (cs.take (j * size)) := by
 refine ⟨_, rfl, by rw [List.length_take, h.1]; exact Nat.min_eq_left (Nat.mul_le_mul_right _ hj), ?_⟩
 rcases h.2 with ⟨c, hv, h0⟩ | ⟨b, off, cap2, hv, hc⟩
 ·have : j = 0 := by omega
  subst this
  exact .inl ⟨⟨_, _⟩, rfl, rfl⟩
 ·cases hv
  refine .inr ⟨b, off, cap, by split <;> simp [Addr.add], fun j u hj => ?_⟩
  rw [List.getElem?_take] at hj
  split at hj
  ·exact hc _ _ hj
  ·cases hj
theorem rd_suf {w : World} {a : Option Addr} {n cap size i : Nat} {cs : List Value} (h : Rd w (.slice a n cap) size n cs) (hi : i ≤ n) (hnc : n ≤ cap) : ∃ v, Value.slice (if cap = i then a else a.map (·.add (i * size))) (n - i) (cap - i) = v ∧ Rd w v size (n - i) (cs.drop (i * size)) := by
 refine ⟨_, rfl, by rw [List.length_drop, h.1, Nat.sub_mul], ?_⟩
 rcases Nat.lt_or_ge i n with hin | hin
 ·rcases h.2 with ⟨c, hv, h0⟩ | ⟨b, off, cap2, hv, hc⟩
  ·omega
  ·cases hv
   refine .inr ⟨b, off + i * size, cap - i, by rw [if_neg (by omega)]; simp [Addr.add], fun j u hj => ?_⟩
   rw [List.getElem?_drop] at hj
   rw [Nat.add_assoc]
   exact hc _ _ hj
 ·have : n - i = 0 := by omega
  rw [this]
  exact .inl ⟨⟨_, _⟩, rfl, rfl⟩
theorem esC_len (es : Es) : (esC es).length = es.length * 2 := by induction es with
 | nil => rfl
 | cons x r ih => rw [show esC (x :: r) = [S x.1, S x.2] ++ esC r from rfl, List.length_append, ih]; simp; omega
theorem esC_take (es : Es) (i : Nat) : (esC es).take (i * 2) = esC (es.take i) := by
 rcases Nat.lt_or_ge es.length i with h | h
 ·rw [List.take_of_length_le (by rw [esC_len]; omega), List.take_of_length_le (by omega)]
 ·have : (esC (es.take i)).length = i * 2 := by rw [esC_len, List.length_take, Nat.min_eq_left h]
  conv => lhs; rw [← List.take_append_drop i es, esC_app, ← this, List.take_left']
theorem esC_drop (es : Es) (i : Nat) : (esC es).drop (i * 2) = esC (es.drop i) := by
 rcases Nat.lt_or_ge es.length i with h | h
 ·rw [List.drop_of_length_le (by rw [esC_len]; omega), List.drop_of_length_le (by omega)]; rfl
 ·have : (esC (es.take i)).length = i * 2 := by rw [esC_len, List.length_take, Nat.min_eq_left h]
  conv => lhs; rw [← List.take_append_drop i es, esC_app, ← this, List.drop_left']
theorem rd_en0 {w : World} {b off n cap : Nat} {l : Es} {i : Nat} {y : Bytes × Bytes} (h : Rd w (.slice (some ⟨b, off, none⟩) n cap) 2 n (esC l)) (hi : i < n) (hy : l[i]? = some y) : w.cell? ⟨b, off + i * 2, none⟩ = some (S y.1) := by
 rcases h.2 with ⟨c, -, h0⟩ | ⟨b', off', cap', hv, hc⟩
 ·omega
 ·cases hv
  obtain ⟨f1, f2⟩ := flat2 (fun x : Bytes × Bytes => S x.1) (fun x : Bytes × Bytes => S x.2) l i
  rw [hy] at f1
  have := hc (2 * i) (S y.1) f1
  rw [show off + i * 2 = off + 2 * i by omega]; exact this
theorem rd_en1 {w : World} {b off n cap : Nat} {l : Es} {i : Nat} {y : Bytes × Bytes} (h : Rd w (.slice (some ⟨b, off, none⟩) n cap) 2 n (esC l)) (hi : i < n) (hy : l[i]? = some y) : w.cell? ⟨b, off + i * 2 + 1, none⟩ = some (S y.2) := by
 rcases h.2 with ⟨c, -, h0⟩ | ⟨b', off', cap', hv, hc⟩
 ·omega
 ·cases hv
  obtain ⟨f1, f2⟩ := flat2 (fun x : Bytes × Bytes => S x.1) (fun x : Bytes × Bytes => S x.2) l i
  rw [hy] at f2
  have := hc (2 * i + 1) (S y.2) f2
  rw [show off + i * 2 + 1 = off + (2 * i + 1) by omega]; exact this
theorem rd_ens {w : World} {a : Option Addr} {cap n : Nat} {l : Es} {i : Nat} (h : Rd w (.slice a n cap) 2 n (esC l)) (hn : n = l.length) (hi : i < n) : ∃ b off y, a = some ⟨b, off, none⟩ ∧ l[i]? = some y := by
 rcases h.2 with ⟨c, -, h0⟩ | ⟨b', off', cap', hv, hc⟩
 ·omega
 ·cases hv
  exact ⟨b', off', _, rfl, List.getElem?_eq_getElem (by omega)⟩
theorem pos_at {l : List Bytes} {t : Bytes} {x : Bytes} (h : l[pos l t]? = some x) : lt x t = false := by
 unfold pos at h
 induction l with
 | nil => simp at h
 | cons a r ih =>
   simp only [List.takeWhile_cons] at h
   cases ha : lt a t with
   | true =>
     rw [ha] at h
     exact ih (by simpa using h)
   | false =>
     rw [ha] at h
     have : a = x := by simpa using h
     rw [← this]; exact ha
theorem posE_step {es : Es} {k : Bytes} {i : Nat} {y : Bytes × Bytes} (hi : i ≤ posE es k) (hy : es[i]? = some y) : (lt y.1 k = true → i + 1 ≤ posE es k) ∧ (lt y.1 k = false → i = posE es k) := by
 have hm : (es.map (·.1))[i]? = some y.1 := by rw [List.getElem?_map, hy]; rfl
 constructor
 ·intro h
  rcases Nat.lt_or_eq_of_le hi with h' | h'
  ·exact h'
  ·rw [h'] at hm
   have := pos_at hm
   rw [this] at h; cases h
 ·intro h
  rcases Nat.lt_or_eq_of_le hi with h' | h'
  ·have := pos_lt (l := es.map (·.1)) (t := k) y.1 (by
    have : ((es.map (·.1)).take (pos (es.map (·.1)) k))[i]? = some y.1 := by rw [List.getElem?_take, if_pos (show i < pos (es.map (·.1)) k from h')]; exact hm
    exact List.mem_of_getElem? this)
   rw [h] at this; cases this
  ·exact h'
theorem hasE_at {es : Es} {k : Bytes} {y : Bytes × Bytes} (hy : es[posE es k]? = some y) : hasE es k ↔ y.1 = k := by
 unfold hasE
 rw [List.getElem?_map, hy]
 simp
theorem hasE_no {es : Es} {k : Bytes} (h : posE es k = es.length) : ¬ hasE es k := by
 unfold hasE
 rw [h, List.getElem?_eq_none (by simp)]
 simp
/-- The document's map in memory. -/
structure MpM (w : World) (q : Nat) (mv : Value) (es : Es) : Prop where
 blk : Blk w q [mv] 32
 sl : Sl w mv 41 2 es.length (esC es)
 ne : mv.ownBlock ≠ some q
 le : es.length ≤ 1000000
theorem MpM.ext {w w' : World} {q : Nat} {mv : Value} {es : Es} (h : MpM w q mv es) (k : Ext w w') : MpM w' q mv es := ⟨k.blk h.blk, h.sl.ext k, h.ne, h.le⟩
theorem MpM.kp {w w' : World} {q : Nat} {mv : Value} {es : Es} {F : Nat → Prop} (h : MpM w q mv es) (k : Kp F w w') (h1 : ¬ F q) (h2 : ∀ g, mv.ownBlock = some g → ¬ F g) : MpM w' q mv es := ⟨k.blk h.blk h1, h.sl.kp k h2, h.ne, h.le⟩
section
variable {w : World} {q : Nat} {mv : Value} {es : Es}
theorem at_ret (h : MpM w q mv es) (k : Bytes) : Ret Tryz.prog 41 [ptr q 0, S k] w fun v w' => v = I ((posE es k : Nat) : Int) ∧ w' = w := by
 obtain ⟨a, c, rfl, -⟩ := h.sl.rd.shape
 have hB := h.blk
 have hR := h.sl.rd
 have hpl := posE_le es k
 have hle := h.le
 refine ret_of_run (e := [(0, _), (1, _)]) Tryz.func41 rfl Tryz.ntmps41 rfl rfl ?_; refine qN rfl ?_; refine qV (yas rfl) ?_; refine qM rfl ?_; refine qV (yas rfl) ?_; refine rEnd ?_; refine run_seq ?_; refine run_block ?_; refine run_loop (α := Nat) (0) (fun i => [(0, ptr q 0), (1, S k), (5, I (i : Int))]) (fun i w' => w' = w ∧ i ≤ posE es k) (fun i => es.length - i) (by repeat (first | exact Sub.nil | refine Sub.cons rfl ?_)) ?hI ?hround
 case hI => exact ⟨rfl, Nat.zero_le _⟩
 case hround =>
  rintro i w1 ⟨rfl, hi⟩ ih
  try dsimp only
  refine run_seq ?_; refine qN rfl ?_; refine qV (ymv rfl) ?_; refine qV (ymv rfl) ?_; refine qV ((by first | exact ync rfl | exact yncf rfl)) ?_; refine qV (yfa fl32_0 rfl) ?_; refine qV (yld U30 rfl rfl hB rfl) ?_; refine qV (yln U30 rfl) ?_; refine qV (ylt rfl rfl) ?_; refine qV (ymv rfl) ?_; refine rVal_if (fun h1 => ?_) (fun h1 => ?_)
  ·skip
   have hi' : i < es.length := by omega
   obtain ⟨lb, lo, y, rfl, hy⟩ := rd_ens hR rfl hi'
   have hst := posE_step hi hy
   refine qV (ymv rfl) ?_; refine qV ((by first | exact ync rfl | exact yncf rfl)) ?_; refine qV (yfa fl32_0 rfl) ?_; refine qV (yld U30 rfl rfl hB rfl) ?_; refine qV (ymv rfl) ?_; refine qV (yis U30 ti41 rfl rfl (by omega)) ?_; refine qV (yfa fl41_0 rfl) ?_; refine qV (yldc U9 rfl rfl (rd_en0 hR hi' hy)) ?_; refine qV (ymv rfl) ?_; refine qV (yltS rfl rfl) ?_; refine qV (ypT rfl rfl) ?_; refine rEnd ?_; refine run_cond rfl (fun h2 => ?_) (fun h2 => ?_)
   ·skip
    refine run_skip ?_; refine run_block ?_; refine run_reg rfl ?_; refine qV (ymv rfl) ?_; refine qV (yad rfl rfl (by omega)) ?_; refine qV (yas rfl) ?_; refine rEnd ?_; refine run_inBlock ?_
    exact (ih (i + 1) _ ⟨rfl, hst.1 h2⟩ (by omega)).qb
   ·skip
    refine run_exit rfl ?_; refine qN rfl ?_; refine qV (ymv rfl) ?_; refine qV (yas rfl) ?_; refine rEnd ?_; refine run_ret Tryz.func41 rfl ?_
    exact ⟨_, rfl, by rw [← hst.2 h2]; rfl, rfl⟩
  ·skip
   refine qS ?_; refine qS ?_; refine qS ?_; refine qS ?_; refine qS ?_; refine qS ?_; refine qS ?_; refine qS ?_; refine qS ?_; refine qS ?_; refine qV (ypF rfl rfl) ?_; refine rEnd ?_; refine run_false rfl ?_; refine run_exit rfl ?_; refine qN rfl ?_; refine qV (ymv rfl) ?_; refine qV (yas rfl) ?_; refine rEnd ?_; refine run_ret Tryz.func41 rfl ?_
   have : i = posE es k := by omega
   exact ⟨_, rfl, by rw [← this]; rfl, rfl⟩
theorem getM_ret (h : MpM w q mv es) (k : Bytes) : Ret Tryz.prog 10 [ptr q 0, S k] w fun v w' => v = .tuple #[S (getR es k).1, I (getR es k).2] ∧ w' = w := by
 have hAt := at_ret h k
 obtain ⟨a, c, rfl, -⟩ := h.sl.rd.shape
 have hB := h.blk
 have hR := h.sl.rd
 have hpl := posE_le es k
 have hle := h.le
 refine ret_of_run (e := [(0, _), (1, _)]) Tryz.func10 rfl Tryz.ntmps10 rfl rfl ?_; refine qN rfl ?_; refine qV (yas rfl) ?_; refine qV (yas rfl) ?_; refine rEnd ?_; refine run_seq ?_; refine qN rfl ?_; refine qV (ymv rfl) ?_; refine rCall rfl rfl (yc (args := [.tmp 7]) cf40 rfl) (rkey_ret k _) ?_
 rintro _ w1 ⟨rfl, rfl⟩
 refine qV ((by first | exact yntd rfl | exact ynt rfl)) ?_; refine rEnd ?_; refine run_cond rfl (fun hk => ?_) (fun hk => ?_)
 ·skip
  refine qN rfl ?_; refine qV (yas rfl) ?_; refine qV (yas rfl) ?_; refine rEnd ?_; refine run_ret Tryz.func10 rfl ?_
  have hk' : ¬ keyOk k := of_decide_eq_true hk
  refine ⟨_, rfl, ?_, rfl⟩
  unfold getR
  rw [if_neg hk']; rfl
 ·skip
  have hk' : keyOk k := Decidable.not_not.1 (of_decide_eq_false hk)
  refine run_skip ?_; refine qN rfl ?_; refine qV (ymv rfl) ?_; refine qV (ymv rfl) ?_; refine rCall rfl rfl (yc (args := [.tmp 10, .tmp 11]) cf41 rfl) (hAt) ?_
  rintro _ w1 ⟨rfl, rfl⟩
  refine qV (yas rfl) ?_; refine rEnd ?_; refine run_seq ?_; refine qN rfl ?_; refine qV (ymv rfl) ?_; refine qV (ymv rfl) ?_; refine qV ((by first | exact ync rfl | exact yncf rfl)) ?_; refine qV (yfa fl32_0 rfl) ?_; refine qV (yld U30 rfl rfl hB rfl) ?_; refine qV (yln U30 rfl) ?_; refine qV (yeq rfl rfl) ?_; refine qV (ymv rfl) ?_; refine rVal_if (fun h1 => ?_) (fun h1 => ?_)
  ·skip
   refine qS ?_; refine qS ?_; refine qS ?_; refine qS ?_; refine qS ?_; refine qS ?_; refine qS ?_; refine qS ?_; refine qS ?_; refine qS ?_; refine qV (ypT rfl rfl) ?_; refine rEnd ?_; refine Run.qb (e := [(0, _), (4, _), (5, _), (6, _), (31, _)]) ?_; refine run_true rfl ?_; refine qN rfl ?_; refine qV (yas rfl) ?_; refine qV (yas rfl) ?_; refine rEnd ?_; refine run_ret Tryz.func10 rfl ?_; refine ⟨_, rfl, ?_, rfl⟩
   unfold getR
   rw [if_pos hk', getE_none (hasE_no (by omega))]; rfl
  ·skip
   have hi' : posE es k < es.length := by omega
   obtain ⟨lb, lo, y, rfl, hy⟩ := rd_ens hR rfl hi'
   have hst := hasE_at hy
   refine qV (ymv rfl) ?_; refine qV ((by first | exact ync rfl | exact yncf rfl)) ?_; refine qV (yfa fl32_0 rfl) ?_; refine qV (yld U30 rfl rfl hB rfl) ?_; refine qV (ymv rfl) ?_; refine qV (yis U30 ti41 rfl rfl (by omega)) ?_; refine qV (yfa fl41_0 rfl) ?_; refine qV (yldc U9 rfl rfl (rd_en0 hR hi' hy)) ?_; refine qV (ymv rfl) ?_; refine qV (yneS rfl rfl) ?_; refine qV (ypF rfl rfl) ?_; refine rEnd ?_; refine Run.qb (e := [(0, _), (4, _), (5, _), (6, _), (31, _)]) ?_; refine run_cond rfl (fun h2 => ?_) (fun h2 => ?_)
   ·skip
    refine qN rfl ?_; refine qV (yas rfl) ?_; refine qV (yas rfl) ?_; refine rEnd ?_; refine run_ret Tryz.func10 rfl ?_
    have h2' : ¬ y.1 = k := by simpa using h2
    refine ⟨_, rfl, ?_, rfl⟩
    unfold getR
    rw [if_pos hk', getE_none (fun hh => h2' (hst.1 hh))]; rfl
   ·skip
    have h2' : y.1 = k := by simpa using h2
    refine run_skip ?_; refine qN rfl ?_; refine qV (ymv rfl) ?_; refine qV ((by first | exact ync rfl | exact yncf rfl)) ?_; refine qV (yfa fl32_0 rfl) ?_; refine qV (yld U30 rfl rfl hB rfl) ?_; refine qV (ymv rfl) ?_; refine qV (yis U30 ti41 rfl rfl (by omega)) ?_; refine qV (yfa fl41_1 rfl) ?_; refine qV (yldc U9 rfl rfl (rd_en1 hR hi' hy)) ?_; refine qV (yas rfl) ?_; refine qV (yas rfl) ?_; refine rEnd ?_; refine run_ret Tryz.func10 rfl ?_; refine ⟨_, rfl, ?_, rfl⟩
    unfold getR
    rw [if_pos hk', getE_some (hst.2 h2') (v := y.2) (by rw [List.getElem?_map, hy]; rfl)]; rfl
theorem may8_ret (z : Nat) (hz : sizeOk (z : Int)) (k v : Bytes) (hk : k.length ≤ 140737488355328) (hv : v.length ≤ 140737488355328) (w : World) : Ret Tryz.prog 36 [I (z : Int), S k, S v] w fun u w' => u = .bool (decide (may z k v)) ∧ w' = w := by
 refine ret_of_run (e := [(0, _), (1, _), (2, _)]) Tryz.func36 rfl Tryz.ntmps36 rfl rfl ?_; refine qN rfl ?_; refine qV (yas rfl) ?_; refine qM rfl ?_; refine qV (ymv rfl) ?_; refine rCall rfl rfl (yc (args := [.tmp 10]) cf65 rfl) (rmost_ok hz _) ?_
 rintro _ w1 ⟨rfl, rfl⟩
 refine qV (ymv rfl) ?_; refine qV (yex rfl rfl) ?_; refine qV (yex rfl rfl) ?_; refine qV (yas rfl) ?_; refine qV (yas rfl) ?_; refine qM rfl ?_; refine qV (ymv rfl) ?_; refine qV (yeq rfl rfl) ?_; refine qV (ymv rfl) ?_; refine rVal_if (fun h0 => ?_) (fun h0 => ?_)
 ·skip
  refine qV (ymv rfl) ?_; refine rCall rfl rfl (yc (args := [.tmp 17]) cf40 rfl) (rkey_ret k _) ?_
  rintro _ w1 ⟨rfl, rfl⟩
  refine qV (ypT rfl rfl) ?_; refine qV (ymv rfl) ?_
  by_cases hko : keyOk k
  ·skip
   have hd : decide (1 ≤ k.length ∧ k.length ≤ 64) = true := decide_eq_true hko
   rw [hd]
   refine qV (ymv rfl) ?_; refine qV (ylnS U9 rfl) ?_; refine qV (yad rfl rfl (by omega)) ?_; refine qV (ymv rfl) ?_; refine qV (ylnS U9 rfl) ?_; refine qV (yad rfl rfl (by omega)) ?_; refine qV (ymv rfl) ?_; refine qV (yle rfl rfl) ?_; refine qV (ypT rfl rfl) ?_; refine qV (yas rfl) ?_; refine rEnd ?_; refine Run.qb (e := [(6, _)]) ?_; refine run_ret Tryz.func36 rfl ?_; refine ⟨_, rfl, ?_, rfl⟩
   show Value.bool _ = _
   congr 1
   rw [decide_eq_decide]
   unfold may
   constructor
   ·intro h; exact ⟨hko, by omega⟩
   ·intro h; have := h.2; omega
  ·skip
   have hd : decide (1 ≤ k.length ∧ k.length ≤ 64) = false := decide_eq_false hko
   rw [hd]
   refine qS ?_; refine qS ?_; refine qS ?_; refine qS ?_; refine qS ?_; refine qS ?_; refine qS ?_; refine qS ?_; refine qV (ypF rfl rfl) ?_; refine qV (yas rfl) ?_; refine rEnd ?_; refine Run.qb (e := [(6, _)]) ?_; refine run_ret Tryz.func36 rfl ?_; refine ⟨_, rfl, ?_, rfl⟩
   rw [decide_eq_false (fun h => hko h.1)]; rfl
 ·exact absurd rfl h0
end
end Go.Proofs.YtocnhaoilnojmaaGreat
namespace Go.Proofs.YtocnhaoilnojmaaGreat
open Go Go.RowKit
set_option linter.all false
set_option maxRecDepth 100000
theorem rd_pg0 {w : World} {b off n cap : Nat} {l : Pgs} {i : Nat} {y : Int × Bytes} (h : Rd w (.slice (some ⟨b, off, none⟩) n cap) 2 n (pgC l)) (hi : i < n) (hy : l[i]? = some y) : w.cell? ⟨b, off + i * 2, none⟩ = some (I y.1) := rd_pg h hi hy 0 _ rfl
theorem rd_pg1 {w : World} {b off n cap : Nat} {l : Pgs} {i : Nat} {y : Int × Bytes} (h : Rd w (.slice (some ⟨b, off, none⟩) n cap) 2 n (pgC l)) (hi : i < n) (hy : l[i]? = some y) : w.cell? ⟨b, off + i * 2 + 1, none⟩ = some (S y.2) := rd_pg h hi hy 1 _ rfl
theorem nodup_get {α : Type} {l : List α} (h : l.Nodup) {i j : Nat} (hi : i < l.length) (hj : j < l.length) (e : l[i] = l[j]) : i = j := by
 have hp := List.pairwise_iff_getElem.1 h
 rcases Nat.lt_trichotomy i j with hl | hl | hl
 ·exact absurd e (hp i j hi hj hl)
 ·exact hl
 ·exact absurd e.symm (hp j i hj hi hl)
section
variable {w : World}
theorem find_ret {lv : Value} {l : Pgs} (hR : Rd w lv 2 l.length (pgC l)) (hl : l.length ≤ 1000000) (no : Int) : Ret Tryz.prog 53 [lv, I no] w fun v w' => w' = w ∧ ((∃ (i : Nat) (y : Int × Bytes), v = I (i : Int) ∧ l[i]? = some y ∧ y.1 = no ∧ no ∉ (l.take i).map (·.1)) ∨ (v = I (-1) ∧ no ∉ l.map (·.1))) := by
 obtain ⟨a, c, rfl, -⟩ := hR.shape
 refine ret_of_run (e := [(0, _), (1, _)]) Tryz.func53 rfl Tryz.ntmps53 rfl rfl ?_; refine qN rfl ?_; refine qV (yas rfl) ?_; refine rEnd ?_; refine run_seq ?_; refine qN rfl ?_; refine qV (yas rfl) ?_; refine rEnd ?_; refine run_block ?_; refine run_loop (α := Nat) (0) (fun i => [(0, .slice a l.length c), (1, I no), (5, I (i : Int))]) (fun i w' => w' = w ∧ i ≤ l.length ∧ no ∉ (l.take i).map (·.1)) (fun i => l.length - i) (by repeat (first | exact Sub.nil | refine Sub.cons rfl ?_)) ?hI ?hround
 case hI => exact ⟨rfl, Nat.zero_le _, by simp⟩
 case hround =>
  rintro i w1 ⟨rfl, hi, hall⟩ ih
  try dsimp only
  refine run_seq ?_; refine qN rfl ?_; refine qV (ymv rfl) ?_; refine qV (ymv rfl) ?_; refine qV (yln U33 rfl) ?_; refine qV (ylt rfl rfl) ?_; refine rEnd ?_; refine run_if rfl (fun hlt => ?_) (fun hlt => ?_)
  ·skip
   have hi' : i < l.length := by omega
   obtain ⟨lb, lo, y, rfl, hy⟩ := rd_pgs hR rfl hi'
   refine run_skip ?_; refine run_seq ?_; refine run_block ?_; refine qN rfl ?_; refine qV (ymv rfl) ?_; refine qV (ymv rfl) ?_; refine qV (yis U33 ti54 rfl rfl (by omega)) ?_; refine qV (yfa fl54_0 rfl) ?_; refine qV (yldc U3 rfl rfl (rd_pg0 hR hi' hy)) ?_; refine qV (ymv rfl) ?_; refine qV (yeq rfl rfl) ?_; refine rEnd ?_; refine run_if rfl (fun he => ?_) (fun he => ?_)
   ·skip
    refine qN rfl ?_; refine qV (ymv rfl) ?_; refine qV (yas rfl) ?_; refine rEnd ?_; refine run_ret Tryz.func53 rfl ?_
    exact ⟨_, rfl, rfl, .inl ⟨i, y, rfl, hy, he, hall⟩⟩
   ·skip
    refine run_skip ?_; refine run_inBlock ?_; refine run_reg rfl ?_; refine qV (ymv rfl) ?_; refine qV (yad rfl rfl (by omega)) ?_; refine qV (yas rfl) ?_; refine rEnd ?_; refine (ih (i + 1) _ ⟨rfl, by omega, fun hh => ?_⟩ (by omega)).qb
    obtain ⟨x, hx, e⟩ := List.mem_map.1 hh
    rcases (mem_take_succ hy).1 hx with hx | rfl
    ·exact hall (List.mem_map.2 ⟨x, hx, e⟩)
    ·exact he e
  ·skip
   rw [List.take_of_length_le (by omega)] at hall
   refine run_exit rfl ?_; refine qN rfl ?_; refine qV (yas rfl) ?_; refine rEnd ?_; refine run_ret Tryz.func53 rfl ?_
   exact ⟨_, rfl, rfl, .inr ⟨rfl, hall⟩⟩
theorem inside_ret {lo tb : Bytes} {hi : Option Bytes} (hto : spanOk hi tb) (k : Bytes) (w : World) : Ret Tryz.prog 89 [.agg (spanC lo hi tb).toArray, S k] w fun v w' => Ext w w' ∧ ∃ q : Bool, v = .bool q ∧ (q = true ↔ inB lo hi k) := by
 refine ret_of_run (e := [(0, _), (1, _)]) Tryz.func89 rfl Tryz.ntmps89 rfl rfl ?_; refine qN rfl ?_; refine rValP rfl rfl (pbx rfl (cs := spanC lo hi tb) rfl) ?_
 rintro _ w1 ⟨b, rfl, hb, hx1, hB1⟩
 replace hB1 : Blk w1 b [S lo, S tb, .bool hi.isSome] 100 := hB1
 refine qV (yas rfl) ?_; refine qM rfl ?_; refine qV (ymv rfl) ?_; refine qV (yfa fl100_0 rfl) ?_; refine qV (yld U9 rfl rfl hB1 rfl) ?_; refine qV (ygeS rfl rfl) ?_; refine qV (ymv rfl) ?_; refine rVal_bool (fun h1 => ?_) (fun h1 => ?_)
 ·skip
  have h1' : lt k lo = false := by simpa using h1
  cases hi with
  | none =>
    have hB1' : Blk w1 b [S lo, S tb, .bool false] 100 := hB1
    refine qV (yfa fl100_2 rfl) ?_; refine qV (yld U4 rfl rfl hB1' rfl) ?_; refine qV ((by first | exact yntd rfl | exact ynt rfl)) ?_; refine qV (ymv rfl) ?_; refine qS ?_; refine qS ?_; refine qS ?_; refine qS ?_; refine qV (ypT rfl rfl) ?_; refine qV (ypT rfl rfl) ?_; refine qV (yas rfl) ?_; refine rEnd ?_; refine run_ret Tryz.func89 rfl ?_
    exact ⟨_, rfl, hx1, _, rfl, ⟨fun _ => ⟨h1', fun u hu => by cases hu⟩, fun _ => rfl⟩⟩
  | some u =>
    obtain rfl := hto u rfl
    have hB1' : Blk w1 b [S lo, S tb, .bool true] 100 := hB1
    refine qV (yfa fl100_2 rfl) ?_; refine qV (yld U4 rfl rfl hB1' rfl) ?_; refine qV ((by first | exact yntd rfl | exact ynt rfl)) ?_; refine qV (ymv rfl) ?_; refine qV (ymv rfl) ?_; refine qV (yfa fl100_1 rfl) ?_; refine qV (yld U9 rfl rfl hB1' rfl) ?_; refine qV (yltS rfl rfl) ?_; refine qV (ypF rfl rfl) ?_; refine qV (ypT rfl rfl) ?_; refine qV (yas rfl) ?_; refine rEnd ?_; refine run_ret Tryz.func89 rfl ?_; refine ⟨_, rfl, hx1, _, rfl, ?_⟩
    unfold inB
    constructor
    ·intro h; exact ⟨h1', fun u hu => by cases hu; exact h⟩
    ·intro h; exact h.2 _ rfl
 ·skip
  have h1' : lt k lo = true := by simpa using h1
  refine qS ?_; refine qS ?_; refine qS ?_; refine qS ?_; refine qS ?_; refine qS ?_; refine qS ?_; refine qS ?_; refine qS ?_; refine qV (ypF rfl rfl) ?_; refine qV (yas rfl) ?_; refine rEnd ?_; refine run_ret Tryz.func89 rfl ?_; refine ⟨_, rfl, hx1, false, rfl, ⟨fun h => Bool.noConfusion h, fun h => by rw [h.1] at h1'; cases h1'⟩⟩
end
end Go.Proofs.YtocnhaoilnojmaaGreat
