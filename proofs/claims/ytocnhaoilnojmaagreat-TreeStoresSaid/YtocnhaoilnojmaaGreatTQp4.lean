/- Texts TrFc, TrFd, TrFe, TrFf, TrL, TrG2, TrHa, TrHb, PgP, PgQ, PgL, PgA, TrHc, TrGv, PgB, ShR, TrHd, one behind the other (what the statement TreeStores does not use is left out). -/
import Derived.Test.YtocnhaoilnojmaaGreatTQp1
import Derived.Test.YtocnhaoilnojmaaGreatTQp3
import Derived.Test.YtocnhaoilnojmaaGreatTQp2
import Derived.Shelf.SortM.SortNone
import Derived.Shelf.Strings.Repeat
import Derived.Test.YtocnhaoilnojmaaGreatProg
namespace Go.Proofs.YtocnhaoilnojmaaGreat
open Go Go.RowKit
set_option linter.all false
set_option maxRecDepth 100000
section
variable {w : World}
theorem Tr.setN2 (T : Tr) (no : Int) (n m : Nd) : (T.setN no n).setN no m = T.setN no m := by
 unfold Tr.setN
 congr 1
 funext x
 by_cases e : x = no <;> simp [updI, e]
theorem Tr.setN_ne (T : Tr) {x no : Int} (n : Nd) (h : x ≠ no) : (T.setN no n).nodes x = T.nodes x := updI_ne h
theorem Tr.setN_same (T : Tr) (no : Int) (n : Nd) : (T.setN no n).nodes no = some n := updI_same _ _ _
set_option maxHeartbeats 2000000 in
theorem leaves_ret {p : Nat} {T : Tr} {nb : Int → Nat} {F : Nat → Prop} (h : TreeA w p T nb F) {no : Int} {c x y : Nat} {ps : List (Bytes × Nat)} {up : Bytes} {i : Nat} {E1 E2 E : Es} (hE : E1 ++ E2 = E) (hn : T.nodes no = some (innNd c ps)) (hi : ps[i]? = some (up, x)) (h1 : T.nodes (y : Int) = some (leafNd E1)) (h2 : T.nodes (x : Int) = some (leafNd E2))
  (cX : no ≠ (x : Int)) (fC : no ≠ (y : Int)) (mD : (y : Int) ≠ (x : Int)) (d8 : T.given.length ≤ 4294967296) (aM : E.length ≤ 100000) (cT : 1 ≤ E1.length) (pQ : 1 ≤ E2.length) (dJ : T.size ≤ 1000000) (pS : T.size < 3 + entB E → 1 ≤ halfOf (sizes E) ∧ halfOf (sizes E) < E.length) :
  Ret Tryz.prog 104 [ptr p 0, .agg #[ptr (nb no) 0, I (i : Int), ptr (nb y) 0, ptr (nb x) 0]] w fun v w' => v = .tuple #[] ∧ ∃ T' F', TreeA w' p T' nb F' ∧ Kp F w w' ∧ (∀ k, F' k → F k ∨ w.heap.size ≤ k) ∧
   ((3 + entB E ≤ T.size ∧ T' = (((T.setN y (leafNd E)).dropN x).setN no (innNd c (ps.take i ++ ps.drop (i + 1))))) ∨
    (T.size < 3 + entB E ∧ ∃ up', (E[halfOf (sizes E)]?).map (·.1) = some up' ∧ T' = (((T.setN y (leafNd (E.take (halfOf (sizes E))))).setN x (leafNd (E.drop (halfOf (sizes E))))).setN no (innNd c (ps.set i (up', x)))))) := by
 have eP : maxLen = 9223372036854775807 := rfl
 obtain ⟨qy, rk, fR, io, sX⟩ := h.nodeF h1
 obtain ⟨qx, sY, lh, sZ, -⟩ := h.node h2
 have uV := h.two h1 h2 mD fR rk lh sY
 have eW := h.lt
 obtain ⟨yb, yk, yv, yq⟩ := qy
 obtain ⟨xb, xk, xv, xc⟩ := qx
 dsimp only at rk sY
 subst rk
 subst sY
 have fu := fR.blk
 have jU := fR.keys
 have pT := fR.vals
 have dB := lh.blk
 have lL := lh.keys
 have uX := lh.vals
 dsimp only at fu jU pT dB lL uX
 have sL : E.length = E1.length + E2.length := by rw [← hE]; simp
 have k1 : (leafNd E1).keys.length = E1.length := by simp [leafNd]
 have k2 : (leafNd E2).keys.length = E2.length := by simp [leafNd]
 have k3 : (leafNd E1).vals.length = E1.length := by simp [leafNd]
 have k4 : (leafNd E2).vals.length = E2.length := by simp [leafNd]
 rw [k1] at jU
 rw [k2] at lL
 rw [k3] at pT
 rw [k4] at uX
 obtain ⟨gyk, cyk, rfl⟩ := some_of jU (by omega)
 obtain ⟨gxk, cxk, rfl⟩ := some_of lL (by omega)
 obtain ⟨gyv, cyv, rfl⟩ := some_of pT (by omega)
 obtain ⟨gxv, cxv, rfl⟩ := some_of uX (by omega)
 obtain ⟨Q, hQ⟩ : ∃ Q : Nat → Prop, (fun k => k = gyk ∨ k = gyv ∨ k = nb y) = Q := ⟨_, rfl⟩
 have bV : Q (nb y) := by rw [← hQ]; exact .inr (.inr rfl)
 have aQ : Q gyk := by rw [← hQ]; exact .inl rfl
 have cU : Q gyv := by rw [← hQ]; exact .inr (.inl rfl)
 have dt : ∀ k, Q k → Pl.fp ⟨nb y, .slice (some ⟨gyk, 0, none⟩) E1.length cyk, .slice (some ⟨gyv, 0, none⟩) E1.length cyv, yq⟩ k := by
  rw [← hQ]; rintro k (rfl | rfl | rfl)
  ·exact .inr (.inl rfl)
  ·exact .inr (.inr (.inl rfl))
  ·exact .inl rfl
 have dN : ∀ k, Pl.fp ⟨nb x, .slice (some ⟨gxk, 0, none⟩) E2.length cxk, .slice (some ⟨gxv, 0, none⟩) E2.length cxv, xc⟩ k → ¬ Q k := fun k hk hq => uV k (dt k hq) hk
 have d1 := fR.d1
 have d2 := (fR.d2 gyk rfl).1
 have n1 : gyk ≠ nb y := fun e => d1.1 (by rw [← e]; rfl)
 have n2 : gyv ≠ nb y := fun e => d1.2.1 (by rw [← e]; rfl)
 have n3 : gyv ≠ gyk := fun e => d2 (by rw [e]; rfl)
 have x1 : gxk ≠ gyk := fun e => dN gxk (.inr (.inl rfl)) (by rw [e]; exact aQ)
 have x2 : gxv ≠ gyk := fun e => dN gxv (.inr (.inr (.inl rfl))) (by rw [e]; exact aQ)
 have x3 : gxv ≠ gyv := fun e => dN gxv (.inr (.inr (.inl rfl))) (by rw [e]; exact cU)
 refine ret_of_run (e := [(0, _), (1, _)]) Tryz.func104 rfl Tryz.ntmps104 rfl rfl (qN rfl (rValP rfl rfl (pbx (cs := [ptr (nb no) 0, I (i : Int), ptr (nb y) 0, ptr (nb x) 0]) rfl rfl) ?_))
 rintro _ w1 ⟨b, rfl, hb, aa, aj⟩
 refine rEnd (run_seq ?_)
 have sV := aj.lt
 have dA : ¬ Q b := fun e => by have := eW b (io b (dt b e)).1; omega
 have az := Ext.drew0 w1
 have aB : Ext w w1.drew := aa.trans az
 refine run_cut (fun e' w' => ∃ yk' yv', e' = [(0, ptr p 0), (3, ptr b 0)] ∧ Kp Q w1 w' ∧ NdM w' (leafNd E) ⟨nb y, yk', yv', yq⟩ ∧ (∀ k, Pl.fp ⟨nb y, yk', yv', yq⟩ k → Pl.fp ⟨nb y, .slice (some ⟨gyk, 0, none⟩) E1.length cyk, .slice (some ⟨gyv, 0, none⟩) E1.length cyv, yq⟩ k ∨ w1.heap.size ≤ k)) ?hk (fun hk => ?dG)
 case hk =>
  rintro _ w3 ⟨yk', yv', rfl, ak, rg, wj⟩; have eV := aa.size; have jS := ak.size; obtain ⟨F3, h3, t6⟩ := sX w3 (leafNd E) ⟨nb y, yk', yv', yq⟩ rfl rg ((aa.kp).trans (ak.mono' dt)) (fun k hk => (wj k hk).elim .inl (fun e => .inr (fun f => by have := eW k f; omega))); have nG : ∀ k, F3 k → F k ∨ w1.heap.size ≤ k := fun k hk => (t6 k hk).elim .inl (fun e => (wj k e).elim (fun f => .inl (io k f).1) .inr); have cV : Kp F w w3 := (aa.kp).trans (ak.mono' (fun k hk => (io k (dt k hk)).1)); have aN := ak.blk aj dA; have B3 : ¬ F3 b := fun e => (nG b e).elim (fun f => by have := eW b f; omega) (fun f => by omega); obtain ⟨mN, mC, mO, gv, kn, kc, ko, O3⟩ := h3.opn; have pU := rg.blk; dsimp only at pU; have av := Ext.drew0 w3; refine run_seq (run_seq (run_draw (fun w' => Ext w3 w') (by kernel_rfl) rfl (zqt 0 rfl (yfa fl146_2 rfl) av (qT 1 rfl (fun _ h=>(by first | exact yld U81 rfl rfl (h.blk aN) rfl | exact yld U81 rfl rfl (h.blk pU) rfl | exact yld U81 rfl rfl (h.blk O3.blk) rfl)) av ?_)))); refine zqt 2 rfl (ynk rfl) av (qT 3 rfl (fun _ hS => (by first | exact yldA U84 rfl ti84 rfl (Blk.cells (n := 4) (hS.blk aN) (news := [_, _, _, _]) rfl) rfl | exact yldA U84 rfl ti84 rfl (Blk.cells (n := 4) (hS.blk pU) (news := [_, _, _, _]) rfl) rfl | exact yldA U84 rfl ti84 rfl (Blk.cells (n := 4) (hS.blk O3.blk) (news := [_, _, _, _]) rfl) rfl)) av ?_); refine zqt 5 rfl (ymv rfl) av (zqt 6 rfl (ynk rfl) av (zqt 7 rfl (yfa fl74_0 rfl) av (qT 8 rfl (fun _ h=>(by first | exact yld U3 rfl rfl (h.blk aN) rfl | exact yld U3 rfl rfl (h.blk pU) rfl | exact yld U3 rfl rfl (h.blk O3.blk) rfl)) av ?_))); refine zqo 4 [.tmp 37] rfl cf70 rfl (bytes_ret (leafNd E) yk' yv' yq _ (rg.r.ext av) rg.bd) ?_; rintro _ w4 ⟨rfl, aX⟩; refine ⟨av.trans aX, ?_⟩; rw [leafNd_bytes]; refine zqt 9 rfl (yle rfl rfl) (av.trans aX) (qE ?_); have ez : Ext w3 w4 := av.trans aX; have h4 := h3.ext ez; have bs := ez.blk aN; have E3 : NdM w4 (leafNd E) ⟨nb y, yk', yv', yq⟩ := rg.kp ez (fun _ _ => id); have jT := ez.size; have mE : (T.setN y (leafNd E)).nodes no = some (innNd c ps) := by rw [Tr.setN_ne T _ fC]; exact hn
  have cH : ∀ k, F3 k → w.heap.size ≤ k ∨ F k := fun k hk => (nG k hk).elim .inr (fun e => .inl (by omega)); have j9 : Kp F w w4 := cV.trans ez.kp; have FL := j9.size; refine run_if rfl (fun dr => ?_) (fun dr => ?_)
  ·refine qN rfl (zqm rfl (qV (yldA U146 rfl ti146 rfl (Blk.cells (n := 4) bs (news := [_, _, _, _]) rfl) rfl) (zqc [.tmp 44, .tmp 45] cf131 rfl (gone_ret h4 mE hi cX d8) ?_))); rintro _ w5 ⟨rfl, F5, li, aY, iF⟩; refine rEnd (run_ret Tryz.func104 rfl (⟨_, rfl, rfl, _, F5, li, j9.trans_new aY (fun k hk => cH k hk), fun k hk => ?_, .inl ⟨by have dr : ((3 + entB E : Nat) : Int) ≤ (T.size : Int) := dr; omega, rfl⟩⟩)); rcases iF k hk with e | e
   ·exact (cH k e).symm
   ·exact .inr (by omega)
  ·have mQ : T.size < 3 + entB E := by have dr : ¬ ((3 + entB E : Nat) : Int) ≤ (T.size : Int) := dr; omega
   obtain ⟨qW, lB⟩ := pS mQ; obtain ⟨m, hm⟩ : ∃ m, halfOf (sizes E) = m := ⟨_, rfl⟩; have B4 : nb x ≠ nb y := fun e => uV (nb y) (.inl rfl) (.inl e.symm); have wk := ez.blk (ak.blk (aa.blk dB) (dN _ (.inl rfl))); have aE := Ext.drew0 w4; have gD : b ≠ nb y := fun e => dA (by rw [e]; exact bV); have B5 : b ≠ nb x := fun e => by have := dB.lt; omega
   refine run_skip (run_seq (run_draw (fun w' => Kp (fun k => k = nb y ∨ k = nb x) w4 w') (by kernel_rfl) rfl (zqt 0 rfl (yfa fl146_3 rfl) (aE.kp) (qT 1 rfl (fun _ h=>yld U81 rfl rfl (h.blk bs (fun e => e.elim gD B5)) rfl) (aE.kp) (zqt 2 rfl (yfa fl146_2 rfl) (aE.kp) (qT 3 rfl (fun _ h=>yld U81 rfl rfl (h.blk bs (fun e => e.elim gD B5)) rfl) (aE.kp) (zqo 4 [.tmp 50] rfl cf71 rfl (cut_ret (q := ⟨nb y, yk', yv', yq⟩) (E3.kp aE (fun _ _ => id)) qW lB) ?_))))))); rintro _ w5 ⟨kv2, vv2, q5, rfl, t7, wl, uW, lH, lI, aY, wm, wn, lM, nH⟩; refine ⟨aE.kp.trans (aY.mono' (fun _ e => .inl e)), ?_⟩; refine zqt 5 rfl (ynk rfl) (aE.kp.trans (aY.mono' (fun _ e => .inl e))) (qO 6 (nEffP (i := 6) rfl rfl (zstA (news := [.bool true, kv2, vv2, .slice none 0 0]) ti84 rfl rfl (by have a1 := oneV_sl lH; have a2 := oneV_sl lI; show (oneV _ && (oneV kv2 && (oneV vv2 && (oneV _ && true)))) = true; rw [a1, a2]; rfl) rfl (aY.blk (aE.blk wk) (fun e => B4 e)) (by simp)) ?_)); rintro w6 ⟨bT, bP⟩; refine ⟨(aE.kp.trans (aY.mono' (fun _ e => .inl e))).trans (bP.mono' (fun _ e => .inr e)), ?_⟩; refine qE ?_; have nI : Kp (fun k => k = nb y ∨ k = nb x) w4 w6 := (aE.kp.trans (aY.mono' (fun _ e => .inl e))).trans (bP.mono' (fun _ e => .inr e)); have FM : w4.heap.size ≤ w4.drew.heap.size := aE.size; have lg := aY.size; have nh := bP.size; obtain ⟨q4, FN, i3, wo, t8⟩ := h4.nodeF (n := leafNd E) (no := (y : Int)) (Tr.setN_same T y _); have eq4 : q4 = ⟨nb y, yk', yv', yq⟩ := i3.uniq E3 FN; subst eq4; have zW := h4.lt
   obtain ⟨F5, h5, iF⟩ := t8 w5 _ q5 t7 uW (aE.kp.trans (aY.mono' (fun k e => .inl e))) (fun k hk => by
    rcases hk with e | e | e | e
    ·exact .inl (.inl (by rw [e, t7]))
    ·exact .inr (fun f => by have := wm k e; have := zW k f; omega)
    ·exact .inr (fun f => by have := wn k e; have := zW k f; omega)
    ·exact .inl (.inr (.inr (.inr (by rw [wl] at e; exact e)))))
   rw [Tr.setN2] at h5
   have dO : ∀ k, F5 k → F3 k ∨ w4.heap.size ≤ k := fun k hk => by
    rcases iF k hk with e | e | e | e | e
    ·exact .inl e
    ·exact .inl (by rw [e, t7]; exact (wo _ (.inl rfl)).1)
    ·exact .inr (by have := wm k e; omega)
    ·exact .inr (by have := wn k e; omega)
    ·exact .inl (wo k (.inr (.inr (.inr (by rw [wl] at e; exact e))))).1
   have nJ : NdM w6 (leafNd (E.drop (halfOf (sizes E)))) ⟨nb x, kv2, vv2, .slice none 0 0⟩ := by
    have FO : nb x < w4.heap.size := wk.lt; have e1 : (leafNd (E.drop (halfOf (sizes E)))).keys.length = (E.drop (halfOf (sizes E))).length := by simp [leafNd]
    have e2 : (leafNd (E.drop (halfOf (sizes E)))).vals.length = (E.drop (halfOf (sizes E))).length := by simp [leafNd]
    have bA := rg.bd; refine ⟨bT, by rw [e1]; exact lH.kp bP (fun g hg e => by have := (lM g hg).1; omega), by rw [e2]; exact lI.kp bP (fun g hg e => by have := (nH g hg).1; omega), Sl.nil _ _ _, ⟨by rw [e1]; simp; omega, by rw [e2]; simp; omega, by simp [leafNd], fun k hk => bA.ks k (by simp only [leafNd, List.map_drop] at hk ⊢; exact List.mem_of_mem_drop hk), fun k hk => bA.vs k (by simp only [leafNd, List.map_drop] at hk ⊢; exact List.mem_of_mem_drop hk), fun k hk => by simp [leafNd] at hk⟩, ⟨fun e => ?_, fun e => ?_, fun e => by cases e⟩, fun k hk => ⟨(lM k hk).2.2, fun e => by cases e⟩, fun k hk e => by cases e⟩
    ·have := (lM _ e).1; have e : w4.drew.heap.size ≤ nb x := this; omega
    ·have := (nH _ e).1; have e : w4.drew.heap.size ≤ nb x := this; omega
   obtain ⟨q6, pM, gm, pV, te⟩ := h5.nodeF (n := leafNd E2) (no := (x : Int)) (by rw [Tr.setN_ne T _ (Ne.symm mD)]; exact h2)
   obtain ⟨F6, h6, sT⟩ := te w6 _ ⟨nb x, kv2, vv2, .slice none 0 0⟩ pM.symm nJ (bP.mono' (fun k e => .inl (by rw [pM]; exact e))) (fun k hk => by
    rcases hk with e | e | e | e
    ·exact .inl (.inl (by rw [pM]; exact e))
    ·exact .inr (fun f => (iF k f).elim (fun f => by have := (lM k e).1; have := zW k f; omega) (lM k e).2.1)
    ·exact .inr (fun f => (iF k f).elim (fun f => by have := (nH k e).1; have := zW k f; omega) (nH k e).2)
    ·cases e)
   have pW : ∀ k, F6 k → F3 k ∨ w4.heap.size ≤ k := fun k hk => by
    rcases sT k hk with e | e | e | e | e
    ·exact dO k e
    ·exact dO k (pV k (.inl (by rw [pM]; exact e))).1
    ·exact .inr (by have := (lM k e).1; omega)
    ·exact .inr (by have := (nH k e).1; omega)
    ·cases e
   have B6 : ¬ F6 b := fun e => (pW b e).elim B3 (fun f => by omega); have nK := nI.blk bs (fun e => e.elim gD B5); have rl : ((T.setN y (leafNd (E.take (halfOf (sizes E))))).setN x (leafNd (E.drop (halfOf (sizes E))))).nodes no = some (innNd c ps) := by rw [Tr.setN_ne _ _ cX, Tr.setN_ne _ _ fC]; exact hn
   obtain ⟨q7, mB, eK, tf, tg⟩ := h6.nodeF rl; have wq := h6.two (Tr.setN_same _ x _) rl (Ne.symm cX) nJ rfl eK mB; obtain ⟨pb, pk, pv, pc⟩ := q7; dsimp only at mB; subst mB; have lN := eK.blk; have th := eK.keys; dsimp only at lN th
   have cF : i < ps.length := by
    rcases Nat.lt_or_ge i ps.length with h | h
    ·exact h
    ·rw [List.getElem?_eq_none h] at hi; cases hi
   have kp1 : (innNd c ps).keys.length = ps.length := by simp [innNd]
   have E4 : ps.length ≤ 100000 := by have := eK.bd.kl; omega
   obtain ⟨gpk, cpk, rfl⟩ := some_of th (by omega); obtain ⟨g2, c2, rfl⟩ := some_of nJ.keys (by simp [leafNd]; omega); have wr : ((E.drop (halfOf (sizes E))).map (·.1))[0]? = some (E[halfOf (sizes E)]).1 := by simp [List.getElem?_drop, lB]
   have Im : 1 ≤ (leafNd (E.drop (halfOf (sizes E)))).keys.length := by simp [leafNd]; omega
   have qZ : gpk ≠ b := fun e => B6 (by rw [← e]; exact (tf gpk (.inr (.inl rfl))).1); have uY : gpk ≠ nb no := fun e => eK.d1.1 (by rw [← e]; rfl); have kA : gpk ≠ nb x := fun e => wq (nb x) (.inl rfl) (.inr (.inl (by rw [← e]; rfl))); have B7 : g2 ≠ gpk := fun e => wq gpk (.inr (.inl (by rw [← e]; rfl))) (.inr (.inl rfl)); have aL := Ext.drew0 w6; refine run_draw (fun w' => Kp (fun k => k = gpk) w6 w') (by kernel_rfl) rfl (zqt 0 rfl (yfa fl146_0 rfl) (aL.kp) (qT 1 rfl (fun _ h=>(by first | exact yld U81 rfl rfl (h.blk nK qZ.symm) rfl | exact yld U81 rfl rfl (h.blk bT kA.symm) rfl | exact yld U81 rfl rfl (h.blk lN uY.symm) rfl)) (aL.kp) ?_)); refine zqt 2 rfl (ynk rfl) (aL.kp) (zqt 3 rfl (yfa fl84_1 rfl) (aL.kp) (qT 4 rfl (fun _ h=>(by first | exact yld U23 rfl rfl (h.blk nK qZ.symm) rfl | exact yld U23 rfl rfl (h.blk bT kA.symm) rfl | exact yld U23 rfl rfl (h.blk lN uY.symm) rfl)) (aL.kp) ?_)); refine zqt 5 rfl (yfa fl146_1 rfl) (aL.kp) (qT 6 rfl (fun _ h=>(by first | exact yld U3 rfl rfl (h.blk nK qZ.symm) rfl | exact yld U3 rfl rfl (h.blk bT kA.symm) rfl | exact yld U3 rfl rfl (h.blk lN uY.symm) rfl)) (aL.kp) ?_); refine zqt 7 rfl (yfa fl146_3 rfl) (aL.kp) (qT 8 rfl (fun _ h=>(by first | exact yld U81 rfl rfl (h.blk nK qZ.symm) rfl | exact yld U81 rfl rfl (h.blk bT kA.symm) rfl | exact yld U81 rfl rfl (h.blk lN uY.symm) rfl)) (aL.kp) ?_); refine zqt 9 rfl (ynk rfl) (aL.kp) (zqt 10 rfl (yfa fl84_1 rfl) (aL.kp) (qT 11 rfl (fun _ h=>(by first | exact yld U23 rfl rfl (h.blk nK qZ.symm) rfl | exact yld U23 rfl rfl (h.blk bT kA.symm) rfl | exact yld U23 rfl rfl (h.blk lN uY.symm) rfl)) (aL.kp) ?_)); refine zqt 12 rfl (yis U23 ti9 rfl rfl (by omega)) (aL.kp) (qT 13 rfl (fun _ hS => yldc U9 rfl rfl (rd_str ((nJ.keys.kp hS (fun g hg e => B7 (by have e1 : g2 = g := oinj hg; omega))).rd) (by simp [leafNd]; omega) wr)) (aL.kp) ?_); refine zqt 14 rfl (yis U23 ti9 rfl rfl (by omega)) (aL.kp) (qO 15 (nEffP (i := 15) rfl rfl (zstSl ti9 rfl rfl rfl (th.ext aL) (by simp [innNd]; omega)) ?_)); rintro w7 ⟨cP, aW⟩; refine ⟨aL.kp.trans aW, ?_⟩; refine qE (Run.qb (e := []) ?_); refine run_end Tryz.func104 rfl ?_; have dP : Kp (fun k => k = gpk) w6 w7 := aL.kp.trans aW
   have B8 : NdM w7 (innNd c (ps.set i ((E[halfOf (sizes E)]).1, x))) ⟨nb no, .slice (some ⟨gpk, 0, none⟩) (innNd c ps).keys.length cpk, pv, pc⟩ := by
    have e0 : (innNd c (ps.set i ((E[halfOf (sizes E)]).1, x))).keys.length = (innNd c ps).keys.length := by simp [innNd]
    have e1 : (innNd c (ps.set i ((E[halfOf (sizes E)]).1, x))).keys = (innNd c ps).keys.set i (E[halfOf (sizes E)]).1 := by simp [innNd, List.map_set]
    have e2 : (innNd c (ps.set i ((E[halfOf (sizes E)]).1, x))).kids = (innNd c ps).kids := by
     simp only [innNd, List.map_set]
     congr 1
     have hx : (ps.map (·.2))[i]? = some x := by rw [List.getElem?_map, hi]; rfl
     apply List.ext_getElem?; intro j; by_cases ej : i = j
     ·subst ej; rw [List.getElem?_set_self (by simpa using cF), hx]
     ·rw [List.getElem?_set_ne ej]
    have bA := eK.bd; refine ⟨dP.blk lN uY.symm, ?_, ?_, ?_, ⟨by rw [e0]; exact bA.kl, bA.vl, by rw [e2]; exact bA.cl, fun k hk => ?_, bA.vs, by rw [e2]; exact bA.cs⟩, eK.d1, eK.d2, eK.d3⟩
    ·rw [e0, e1, List.map_set]; rw [Nat.zero_add, Nat.mul_one] at cP; exact cP
    ·exact eK.vals.kp dP (fun g hg e => (eK.d2 gpk rfl).1 (by rw [← e]; exact hg))
    ·rw [e2]; exact eK.kids.kp dP (fun g hg e => (eK.d2 gpk rfl).2 (by rw [← e]; exact hg))
    ·rw [e1] at hk; rcases List.mem_or_eq_of_mem_set hk with e | e
     ·exact bA.ks k e
     ·exact nJ.bd.ks k (by
       rw [e]
       exact List.mem_of_getElem? wr)
   obtain ⟨F7, h7, pR⟩ := tg w7 _ ⟨nb no, .slice (some ⟨gpk, 0, none⟩) (innNd c ps).keys.length cpk, pv, pc⟩ rfl B8 (dP.mono' (fun k e => .inr (.inl (by rw [e]; rfl)))) (fun k hk => .inl hk); have nL : ∀ k, F3 k ∨ w4.heap.size ≤ k → F k ∨ w.heap.size ≤ k := fun k hk => hk.elim (fun e => (cH k e).symm) (fun e => .inr (by omega)); refine ⟨_, rfl, rfl, _, F7, h7, ?_, fun k hk => ?_, .inr ⟨mQ, (E[halfOf (sizes E)]).1, by simp [lB], rfl⟩⟩
   ·have a := j9.trans_new nI (fun k hk => by
     rcases hk with e | e
     ·exact .inr (by rw [e]; exact (io _ (.inl rfl)).1)
     ·exact .inr (by rw [e]; exact (sZ _ (.inl rfl)).1))
    exact a.trans_new dP (fun k hk => by rw [hk]; exact (nL _ (pW _ (tf gpk (.inr (.inl rfl))).1)).symm)
   ·rcases pR k hk with e | e
    ·exact nL k (pW k e)
    ·exact nL k (pW k (tf k e).1)
 case dG =>
  have ao : ∀ kv' vv' wf, Sl wf kv' 9 1 (E1.length + E2.length) ((leafNd E1).keys.map S ++ (leafNd E2).keys.map S) → (∀ g, kv'.ownBlock = some g → g = gyk ∨ w1.heap.size ≤ g) → Sl wf vv' 9 1 (E1.length + E2.length) ((leafNd E1).vals.map S ++ (leafNd E2).vals.map S) → (∀ g, vv'.ownBlock = some g → g = gyv ∨ w1.heap.size ≤ g) → (∀ g, kv'.ownBlock = some g → vv'.ownBlock ≠ some g) → Blk wf (nb y) [.bool true, kv', vv', yq] 84 → Kp Q w1 wf →
    NdM wf (leafNd E) ⟨nb y, kv', vv', yq⟩ ∧ ∀ k, Pl.fp ⟨nb y, kv', vv', yq⟩ k → Pl.fp ⟨nb y, .slice (some ⟨gyk, 0, none⟩) E1.length cyk, .slice (some ⟨gyv, 0, none⟩) E1.length cyv, yq⟩ k ∨ w1.heap.size ≤ k := by
   intro kv' vv' wf hA ri hB rj eZ ik lJ; have ti : ∀ k, yq.ownBlock = some k → k < w.heap.size ∧ k ≠ gyk ∧ k ≠ gyv ∧ k ≠ nb y := fun k hk => ⟨fR.kids.lt hk, fun e => (fR.d2 gyk rfl).2 (by rw [← e]; exact hk), fun e => fR.d3 gyv rfl (by rw [← e]; exact hk), fun e => d1.2.2 (by rw [← e]; exact hk)⟩; have FP : nb y < w.heap.size := fu.lt; have eV := aa.size; refine ⟨⟨ik, ?_, ?_, ?_, ?_, ⟨fun e => ?_, fun e => ?_, d1.2.2⟩, fun k hk => ⟨eZ k hk, fun e => ?_⟩, fun k hk e => ?_⟩, fun k hk => ?_⟩
   ·have e : (leafNd E).keys.length = E1.length + E2.length := by simp [leafNd, sL]
    rw [e]; have e2 : (leafNd E).keys.map S = (leafNd E1).keys.map S ++ (leafNd E2).keys.map S := by simp [leafNd, ← hE]
    rw [e2]; exact hA
   ·have e : (leafNd E).vals.length = E1.length + E2.length := by simp [leafNd, sL]
    rw [e]; have e2 : (leafNd E).vals.map S = (leafNd E1).vals.map S ++ (leafNd E2).vals.map S := by simp [leafNd, ← hE]
    rw [e2]; exact hB
   ·exact (fR.kids.ext aa).kp lJ (fun g hg hq => by
     rw [← hQ] at hq; obtain ⟨-, a1, a2, a3⟩ := ti g hg; rcases hq with e | e | e
     ·exact a1 e
     ·exact a2 e
     ·exact a3 e)
   ·have b1 := fR.bd; have b2 := lh.bd; refine ⟨by simp [leafNd]; omega, by simp [leafNd]; omega, by simp [leafNd], fun k hk => ?_, fun k hk => ?_, fun k hk => by simp [leafNd] at hk⟩
    ·simp only [leafNd, ← hE, List.map_append, List.mem_append] at hk; exact hk.elim (b1.ks k) (b2.ks k)
    ·simp only [leafNd, ← hE, List.map_append, List.mem_append] at hk; exact hk.elim (b1.vs k) (b2.vs k)
   ·rcases ri _ e with e | e
    ·exact n1 e.symm
    ·have e : w1.heap.size ≤ nb y := e; omega
   ·rcases rj _ e with e | e
    ·exact n2 e.symm
    ·have e : w1.heap.size ≤ nb y := e; omega
   ·obtain ⟨a0, a1, a2, a3⟩ := ti k e; rcases ri k hk with f | f
    ·exact a1 f
    ·omega
   ·obtain ⟨a0, a1, a2, a3⟩ := ti k e; rcases rj k hk with f | f
    ·exact a2 f
    ·omega
   ·rcases hk with hk | hk | hk | hk
    ·exact .inl (.inl hk)
    ·rcases ri k hk with f | f
     ·exact .inl (.inr (.inl (by rw [f]; rfl)))
     ·exact .inr f
    ·rcases rj k hk with f | f
     ·exact .inl (.inr (.inr (.inl (by rw [f]; rfl))))
     ·exact .inr f
    ·exact .inl (.inr (.inr (.inr hk)))
  have eA : ∀ {l : List Bytes}, ∀ c' ∈ l.map S, c'.oneCell' = true := fun c' hc => by obtain ⟨z, -, rfl⟩ := List.mem_map.1 hc; rfl
  refine run_draw (fun w' => Kp Q w1 w') (by kernel_rfl) rfl (zqt 0 rfl (yfa fl146_2 rfl) (az.kp) (qT 1 rfl (fun _ hS => (by first | exact yld U81 rfl rfl (hS.blk aj dA) rfl | exact yld U81 rfl rfl (hS.blk (aa.blk dB) (dN _ (.inl rfl))) rfl)) (az.kp) ?_)); refine zqt 2 rfl (yfa fl146_2 rfl) (az.kp) (qT 3 rfl (fun _ hS => (by first | exact yld U81 rfl rfl (hS.blk aj dA) rfl | exact yld U81 rfl rfl (hS.blk (aa.blk dB) (dN _ (.inl rfl))) rfl)) (az.kp) ?_); refine zqt 4 rfl (yfa fl146_2 rfl) (az.kp) (qT 5 rfl (fun _ hS => (by first | exact yld U81 rfl rfl (hS.blk aj dA) rfl | exact yld U81 rfl rfl (hS.blk (aa.blk dB) (dN _ (.inl rfl))) rfl)) (az.kp) ?_); refine zqt 6 rfl (ynk rfl) (az.kp) (zqt 7 rfl (yfa fl84_1 rfl) (az.kp) (zqt 9 rfl (yfa fl146_3 rfl) (az.kp) (qT 10 rfl (fun _ hS => (by first | exact yld U81 rfl rfl (hS.blk aj dA) rfl | exact yld U81 rfl rfl (hS.blk (aa.blk dB) (dN _ (.inl rfl))) rfl)) (az.kp) ?_))); refine zqt 11 rfl (ynk rfl) (az.kp) (zqt 12 rfl (yfa fl84_1 rfl) (az.kp) (qT 13 rfl (fun _ hS => (by first | exact yld U23 rfl rfl (hS.blk aj dA) rfl | exact yld U23 rfl rfl (hS.blk (aa.blk dB) (dN _ (.inl rfl))) rfl)) (az.kp) ?_)); refine zqt 15 rfl (yfa fl146_2 rfl) (az.kp) (qT 16 rfl (fun _ hS => (by first | exact yld U81 rfl rfl (hS.blk aj dA) rfl | exact yld U81 rfl rfl (hS.blk (aa.blk dB) (dN _ (.inl rfl))) rfl)) (az.kp) ?_); refine zqt 17 rfl (ynk rfl) (az.kp) (zqt 18 rfl (yfa fl84_2 rfl) (az.kp) (zqt 20 rfl (yfa fl146_3 rfl) (az.kp) (qT 21 rfl (fun _ hS => (by first | exact yld U81 rfl rfl (hS.blk aj dA) rfl | exact yld U81 rfl rfl (hS.blk (aa.blk dB) (dN _ (.inl rfl))) rfl)) (az.kp) ?_))); refine zqt 22 rfl (ynk rfl) (az.kp) (zqt 23 rfl (yfa fl84_2 rfl) (az.kp) (qT 24 rfl (fun _ hS => (by first | exact yld U23 rfl rfl (hS.blk aj dA) rfl | exact yld U23 rfl rfl (hS.blk (aa.blk dB) (dN _ (.inl rfl))) rfl)) (az.kp) ?_)); refine hTwo (i := 8) (j := 19) (by kernel_rfl) ?_ ?_
  ·refine nVal (i := 8) rfl rfl rfl (yld U23 rfl rfl (aB.blk fu) rfl) (az.kp) (hTwo (i := 14) (j := 19) (by kernel_rfl) ?_ ?_)
   ·refine nValP (i := 14) rfl rfl rfl (pap U23 ti9 rfl (by decide) rfl rfl (jU.ext aB) (lL.ext aB).rd eA (by omega) (by omega)) ?_; rintro kv14 w14 ⟨cQ, ae, dm, -⟩; refine ⟨az.kp.trans (ae.mono' (fun _ e => by cases e; exact aQ)), ?_⟩; refine qO 19 (nVal (i := 19) rfl rfl rfl (yld U23 rfl rfl (ae.blk (aB.blk fu) (fun e => n1 (oinj e))) rfl) ((az.kp.trans (ae.mono' (fun _ e => by cases e; exact aQ)))) ?_); refine qO 25 (nValP (i := 25) rfl rfl rfl (pap U23 ti9 rfl (by decide) rfl rfl ((pT.ext aB).kp ae (fun g hg e => n3 (by cases hg; exact (oinj e).symm))) ((uX.ext aB).kp ae (fun g hg e => x2 (by cases hg; exact (oinj e).symm))).rd eA (by omega) (by omega)) ?_); rintro vv25 w25 ⟨ja, bK, nM, -⟩; refine ⟨(az.kp.trans (ae.mono' (fun _ e => by cases e; exact aQ))).trans (bK.mono' (fun _ e => by cases e; exact cU)), ?_⟩; refine zqt 26 rfl (ynk rfl) ((az.kp.trans (ae.mono' (fun _ e => by cases e; exact aQ))).trans (bK.mono' (fun _ e => by cases e; exact cU))) ?_; refine zqt 27 rfl (yfa fl84_1 rfl) ((az.kp.trans (ae.mono' (fun _ e => by cases e; exact aQ))).trans (bK.mono' (fun _ e => by cases e; exact cU))) ?_; have cO : Kp Q w1 w25 := ((az.kp.trans (ae.mono' (fun _ e => by cases e; exact aQ))).trans (bK.mono' (fun _ e => by cases e; exact cU))); have aq := bK.blk (ae.blk (aB.blk fu) (fun e => n1 (oinj e))) (fun e => n2 (oinj e)); refine qO 28 (nEffP (i := 28) rfl rfl (zst ti23 rfl rfl (oneV_sl cQ) aq (by simp)) ?_); rintro w26 ⟨nN, aD⟩; refine ⟨cO.trans (aD.mono' (fun _ e => by rw [e]; exact bV)), ?_⟩; refine zqt 29 rfl (ynk rfl) (cO.trans (aD.mono' (fun _ e => by rw [e]; exact bV))) ?_; refine zqt 30 rfl (yfa fl84_2 rfl) (cO.trans (aD.mono' (fun _ e => by rw [e]; exact bV))) ?_; refine qO 31 (nEffP (i := 31) rfl rfl (zst ti23 rfl rfl (oneV_sl ja) nN (by simp)) ?_); rintro w27 ⟨gi, bD⟩; refine ⟨(cO.trans (aD.mono' (fun _ e => by rw [e]; exact bV))).trans (bD.mono' (fun _ e => by rw [e]; exact bV)), ?_⟩; refine qE (Run.qb (e := [(0, _), (3, _)]) ?_); have aP : Kp Q w1 w27 := (cO.trans (aD.mono' (fun _ e => by rw [e]; exact bV))).trans (bD.mono' (fun _ e => by rw [e]; exact bV)); have gg : Kp (fun k => k = nb y) w25 w27 := aD.trans bD; have z1 := aB.size; have z2 := az.size; have z3 := ae.size; have l1 := jU.lt (g := gyk) rfl; have l2 := pT.lt (g := gyv) rfl; have l3 : nb y < w.heap.size := fu.lt; have nO : ∀ g, kv14.ownBlock = some g → g < w14.heap.size := fun g hg => cQ.lt hg; have lj : ∀ g, kv14.ownBlock = some g → g = gyk ∨ w1.heap.size ≤ g := fun g hg => (dm g hg).elim (fun e => .inl (oinj e).symm) (fun e => .inr (by omega)); have cq : ∀ g, vv25.ownBlock = some g → g = gyv ∨ w14.heap.size ≤ g := fun g hg => (nM g hg).elim (fun e => .inl (oinj e).symm) .inr; have hA := (cQ.kp bK (fun g hg e => by have e : gyv = g := oinj e; have := lj g hg; omega)).kp gg (fun g hg e => by have := lj g hg; omega); have hB := ja.kp gg (fun g hg e => by have := cq g hg; omega); obtain ⟨r1, r2⟩ := ao _ _ _ hA lj hB (fun g hg => (cq g hg).elim .inl (fun e => .inr (by omega))) (fun g hg e => by have := lj g hg; have := cq g e; have := nO g hg; omega) gi aP
    exact (hk _ _ ⟨_, _, rfl, aP, r1, r2⟩).qb
   ·refine nVal (i := 19) rfl rfl rfl (yld U23 rfl rfl (aB.blk fu) rfl) (az.kp) (qO 14 (nValP (i := 14) rfl rfl rfl (pap U23 ti9 rfl (by decide) rfl rfl (jU.ext aB) (lL.ext aB).rd eA (by omega) (by omega)) ?_)); rintro kv14 w14 ⟨cQ, ae, dm, -⟩; refine ⟨az.kp.trans (ae.mono' (fun _ e => by cases e; exact aQ)), ?_⟩; refine qO 25 (nValP (i := 25) rfl rfl rfl (pap U23 ti9 rfl (by decide) rfl rfl ((pT.ext aB).kp ae (fun g hg e => n3 (by cases hg; exact (oinj e).symm))) ((uX.ext aB).kp ae (fun g hg e => x2 (by cases hg; exact (oinj e).symm))).rd eA (by omega) (by omega)) ?_); rintro vv25 w25 ⟨ja, bK, nM, -⟩; refine ⟨(az.kp.trans (ae.mono' (fun _ e => by cases e; exact aQ))).trans (bK.mono' (fun _ e => by cases e; exact cU)), ?_⟩; refine zqt 26 rfl (ynk rfl) ((az.kp.trans (ae.mono' (fun _ e => by cases e; exact aQ))).trans (bK.mono' (fun _ e => by cases e; exact cU))) ?_; refine zqt 27 rfl (yfa fl84_1 rfl) ((az.kp.trans (ae.mono' (fun _ e => by cases e; exact aQ))).trans (bK.mono' (fun _ e => by cases e; exact cU))) ?_; have cO : Kp Q w1 w25 := ((az.kp.trans (ae.mono' (fun _ e => by cases e; exact aQ))).trans (bK.mono' (fun _ e => by cases e; exact cU))); have aq := bK.blk (ae.blk (aB.blk fu) (fun e => n1 (oinj e))) (fun e => n2 (oinj e)); refine qO 28 (nEffP (i := 28) rfl rfl (zst ti23 rfl rfl (oneV_sl cQ) aq (by simp)) ?_); rintro w26 ⟨nN, aD⟩; refine ⟨cO.trans (aD.mono' (fun _ e => by rw [e]; exact bV)), ?_⟩; refine zqt 29 rfl (ynk rfl) (cO.trans (aD.mono' (fun _ e => by rw [e]; exact bV))) ?_; refine zqt 30 rfl (yfa fl84_2 rfl) (cO.trans (aD.mono' (fun _ e => by rw [e]; exact bV))) ?_; refine qO 31 (nEffP (i := 31) rfl rfl (zst ti23 rfl rfl (oneV_sl ja) nN (by simp)) ?_); rintro w27 ⟨gi, bD⟩; refine ⟨(cO.trans (aD.mono' (fun _ e => by rw [e]; exact bV))).trans (bD.mono' (fun _ e => by rw [e]; exact bV)), ?_⟩; refine qE (Run.qb (e := [(0, _), (3, _)]) ?_); have aP : Kp Q w1 w27 := (cO.trans (aD.mono' (fun _ e => by rw [e]; exact bV))).trans (bD.mono' (fun _ e => by rw [e]; exact bV)); have gg : Kp (fun k => k = nb y) w25 w27 := aD.trans bD; have z1 := aB.size; have z2 := az.size; have z3 := ae.size; have l1 := jU.lt (g := gyk) rfl; have l2 := pT.lt (g := gyv) rfl; have l3 : nb y < w.heap.size := fu.lt; have nO : ∀ g, kv14.ownBlock = some g → g < w14.heap.size := fun g hg => cQ.lt hg; have lj : ∀ g, kv14.ownBlock = some g → g = gyk ∨ w1.heap.size ≤ g := fun g hg => (dm g hg).elim (fun e => .inl (oinj e).symm) (fun e => .inr (by omega)); have cq : ∀ g, vv25.ownBlock = some g → g = gyv ∨ w14.heap.size ≤ g := fun g hg => (nM g hg).elim (fun e => .inl (oinj e).symm) .inr; have hA := (cQ.kp bK (fun g hg e => by have e : gyv = g := oinj e; have := lj g hg; omega)).kp gg (fun g hg e => by have := lj g hg; omega); have hB := ja.kp gg (fun g hg e => by have := cq g hg; omega); obtain ⟨r1, r2⟩ := ao _ _ _ hA lj hB (fun g hg => (cq g hg).elim .inl (fun e => .inr (by omega))) (fun g hg e => by have := lj g hg; have := cq g e; have := nO g hg; omega) gi aP; exact (hk _ _ ⟨_, _, rfl, aP, r1, r2⟩).qb
  ·refine nVal (i := 19) rfl rfl rfl (yld U23 rfl rfl (aB.blk fu) rfl) (az.kp) (qO 8 (nVal (i := 8) rfl rfl rfl (yld U23 rfl rfl (aB.blk fu) rfl) (az.kp) (qO 14 (nValP (i := 14) rfl rfl rfl (pap U23 ti9 rfl (by decide) rfl rfl (jU.ext aB) (lL.ext aB).rd eA (by omega) (by omega)) ?_)))); rintro kv14 w14 ⟨cQ, ae, dm, -⟩; refine ⟨az.kp.trans (ae.mono' (fun _ e => by cases e; exact aQ)), ?_⟩; refine qO 25 (nValP (i := 25) rfl rfl rfl (pap U23 ti9 rfl (by decide) rfl rfl ((pT.ext aB).kp ae (fun g hg e => n3 (by cases hg; exact (oinj e).symm))) ((uX.ext aB).kp ae (fun g hg e => x2 (by cases hg; exact (oinj e).symm))).rd eA (by omega) (by omega)) ?_); rintro vv25 w25 ⟨ja, bK, nM, -⟩; refine ⟨(az.kp.trans (ae.mono' (fun _ e => by cases e; exact aQ))).trans (bK.mono' (fun _ e => by cases e; exact cU)), ?_⟩; refine zqt 26 rfl (ynk rfl) ((az.kp.trans (ae.mono' (fun _ e => by cases e; exact aQ))).trans (bK.mono' (fun _ e => by cases e; exact cU))) ?_; refine zqt 27 rfl (yfa fl84_1 rfl) ((az.kp.trans (ae.mono' (fun _ e => by cases e; exact aQ))).trans (bK.mono' (fun _ e => by cases e; exact cU))) ?_; have cO : Kp Q w1 w25 := ((az.kp.trans (ae.mono' (fun _ e => by cases e; exact aQ))).trans (bK.mono' (fun _ e => by cases e; exact cU))); have aq := bK.blk (ae.blk (aB.blk fu) (fun e => n1 (oinj e))) (fun e => n2 (oinj e)); refine qO 28 (nEffP (i := 28) rfl rfl (zst ti23 rfl rfl (oneV_sl cQ) aq (by simp)) ?_); rintro w26 ⟨nN, aD⟩; refine ⟨cO.trans (aD.mono' (fun _ e => by rw [e]; exact bV)), ?_⟩; refine zqt 29 rfl (ynk rfl) (cO.trans (aD.mono' (fun _ e => by rw [e]; exact bV))) ?_; refine zqt 30 rfl (yfa fl84_2 rfl) (cO.trans (aD.mono' (fun _ e => by rw [e]; exact bV))) ?_; refine qO 31 (nEffP (i := 31) rfl rfl (zst ti23 rfl rfl (oneV_sl ja) nN (by simp)) ?_); rintro w27 ⟨gi, bD⟩; refine ⟨(cO.trans (aD.mono' (fun _ e => by rw [e]; exact bV))).trans (bD.mono' (fun _ e => by rw [e]; exact bV)), ?_⟩; refine qE (Run.qb (e := [(0, _), (3, _)]) ?_); have aP : Kp Q w1 w27 := (cO.trans (aD.mono' (fun _ e => by rw [e]; exact bV))).trans (bD.mono' (fun _ e => by rw [e]; exact bV)); have gg : Kp (fun k => k = nb y) w25 w27 := aD.trans bD; have z1 := aB.size; have z2 := az.size; have z3 := ae.size; have l1 := jU.lt (g := gyk) rfl; have l2 := pT.lt (g := gyv) rfl; have l3 : nb y < w.heap.size := fu.lt; have nO : ∀ g, kv14.ownBlock = some g → g < w14.heap.size := fun g hg => cQ.lt hg; have lj : ∀ g, kv14.ownBlock = some g → g = gyk ∨ w1.heap.size ≤ g := fun g hg => (dm g hg).elim (fun e => .inl (oinj e).symm) (fun e => .inr (by omega)); have cq : ∀ g, vv25.ownBlock = some g → g = gyv ∨ w14.heap.size ≤ g := fun g hg => (nM g hg).elim (fun e => .inl (oinj e).symm) .inr; have hA := (cQ.kp bK (fun g hg e => by have e : gyv = g := oinj e; have := lj g hg; omega)).kp gg (fun g hg e => by have := lj g hg; omega); have hB := ja.kp gg (fun g hg e => by have := cq g hg; omega); obtain ⟨r1, r2⟩ := ao _ _ _ hA lj hB (fun g hg => (cq g hg).elim .inl (fun e => .inr (by omega))) (fun g hg e => by have := lj g hg; have := cq g e; have := nO g hg; omega) gi aP
   exact (hk _ _ ⟨_, _, rfl, aP, r1, r2⟩).qb
end
section
variable {w : World}
theorem Tr.setN_comm (T : Tr) {a b : Int} (n m : Nd) (h : a ≠ b) : (T.setN a n).setN b m = (T.setN b m).setN a n := by
 unfold Tr.setN
 congr 1
 funext z
 by_cases e : z = a
 ·subst e; simp [updI, h]
 ·by_cases e2 : z = b
  ·subst e2; simp [updI, e]
  ·simp [updI, e, e2]
set_option maxHeartbeats 2000000 in
theorem inner_ret {p : Nat} {T : Tr} {nb : Int → Nat} {F : Nat → Prop} (h : TreeA w p T nb F) {no : Int} {c x y ca cb : Nat} {ps pa pb P : List (Bytes × Nat)} {up : Bytes} {i : Nat} (hP : pa ++ (up, cb) :: pb = P) (hn : T.nodes no = some (innNd c ps)) (hi : ps[i]? = some (up, x)) (h1 : T.nodes (y : Int) = some (innNd ca pa)) (h2 : T.nodes (x : Int) = some (innNd cb pb))
  (cX : no ≠ (x : Int)) (fC : no ≠ (y : Int)) (mD : (y : Int) ≠ (x : Int)) (d8 : T.given.length ≤ 4294967296) (aM : P.length + 1 ≤ 100000) (cT : 1 ≤ pa.length) (pQ : 1 ≤ pb.length) (ho : 8 ≤ orderE T.size) :
  Ret Tryz.prog 105 [ptr p 0, .agg #[ptr (nb no) 0, I (i : Int), ptr (nb y) 0, ptr (nb x) 0]] w fun v w' => v = .tuple #[] ∧ ∃ T' F', TreeA w' p T' nb F' ∧ Kp F w w' ∧ (∀ k, F' k → F k ∨ w.heap.size ≤ k) ∧
   ((P.length + 1 ≤ orderE T.size ∧ T' = (((T.setN y (innNd ca P)).dropN x).setN no (innNd c (ps.take i ++ ps.drop (i + 1))))) ∨
    (orderE T.size < P.length + 1 ∧ ∃ up' c2, P[(P.length + 1) / 2 - 1]? = some (up', c2) ∧ T' = (((T.setN y (innNd ca (P.take ((P.length + 1) / 2 - 1)))).setN x (innNd c2 (P.drop ((P.length + 1) / 2 - 1 + 1)))).setN no (innNd c (ps.set i (up', x)))))) := by
 have eP : maxLen = 9223372036854775807 := rfl
 obtain ⟨qy, rk, fR, io, sX⟩ := h.nodeF h1
 obtain ⟨qx, sY, lh, sZ, -⟩ := h.node h2
 obtain ⟨qn, lk, ip, tj, -⟩ := h.node hn
 have uV := h.two h1 h2 mD fR rk lh sY
 have B9 := h.two h1 hn (Ne.symm fC) fR rk ip lk
 have eW := h.lt
 obtain ⟨yb, yk, yv, yq⟩ := qy
 obtain ⟨xb, xk, xv, xc⟩ := qx
 obtain ⟨nb', nk, nv, nc⟩ := qn
 dsimp only at rk sY lk
 subst rk
 subst sY
 subst lk
 have fu := fR.blk
 have jU := fR.keys
 have uZ := fR.kids
 have dB := lh.blk
 have lL := lh.keys
 have ws := lh.kids
 have aq := ip.blk
 have zX := ip.keys
 dsimp only at fu jU uZ dB lL ws aq zX
 have sL : P.length = pa.length + 1 + pb.length := by rw [← hP]; simp; omega
 have k1 : (innNd ca pa).keys.length = pa.length := by simp [innNd]
 have k2 : (innNd cb pb).keys.length = pb.length := by simp [innNd]
 have k3 : (innNd ca pa).kids.length = pa.length + 1 := by simp [innNd]
 have k4 : (innNd cb pb).kids.length = pb.length + 1 := by simp [innNd]
 have k5 : (innNd c ps).keys.length = ps.length := by simp [innNd]
 have cF : i < ps.length := by
  rcases Nat.lt_or_ge i ps.length with h | h
  ·exact h
  ·rw [List.getElem?_eq_none h] at hi; cases hi
 have eu : (innNd c ps).keys[i]? = some up := by simp [innNd, hi]
 have dl : ps.length ≤ 100000 := by have := ip.bd.kl; omega
 rw [k1] at jU
 rw [k2] at lL
 rw [k3] at uZ
 rw [k4] at ws
 rw [k5] at zX
 obtain ⟨gyk, cyk, rfl⟩ := some_of jU (by omega)
 obtain ⟨gxk, cxk, rfl⟩ := some_of lL (by omega)
 obtain ⟨gyc, cyc, rfl⟩ := some_of uZ (by omega)
 obtain ⟨gxc, cxc, rfl⟩ := some_of ws (by omega)
 obtain ⟨gnk, cnk, rfl⟩ := some_of zX (by omega)
 obtain ⟨Q, hQ⟩ : ∃ Q : Nat → Prop, (fun k => k = gyk ∨ k = gyc ∨ k = nb y) = Q := ⟨_, rfl⟩
 have bV : Q (nb y) := by rw [← hQ]; exact .inr (.inr rfl)
 have aQ : Q gyk := by rw [← hQ]; exact .inl rfl
 have cU : Q gyc := by rw [← hQ]; exact .inr (.inl rfl)
 have dt : ∀ k, Q k → Pl.fp ⟨nb y, .slice (some ⟨gyk, 0, none⟩) pa.length cyk, yv, .slice (some ⟨gyc, 0, none⟩) (pa.length + 1) cyc⟩ k := by
  rw [← hQ]; rintro k (rfl | rfl | rfl)
  ·exact .inr (.inl rfl)
  ·exact .inr (.inr (.inr rfl))
  ·exact .inl rfl
 have dN : ∀ k, Pl.fp ⟨nb x, .slice (some ⟨gxk, 0, none⟩) pb.length cxk, xv, .slice (some ⟨gxc, 0, none⟩) (pb.length + 1) cxc⟩ k → ¬ Q k := fun k hk hq => uV k (dt k hq) hk
 have e7 : ∀ k, Pl.fp ⟨nb no, .slice (some ⟨gnk, 0, none⟩) ps.length cnk, nv, nc⟩ k → ¬ Q k := fun k hk hq => B9 k (dt k hq) hk
 have d1 := fR.d1
 have d2 := (fR.d2 gyk rfl).2
 have n1 : gyk ≠ nb y := fun e => d1.1 (by rw [← e]; rfl)
 have n2 : gyc ≠ nb y := fun e => d1.2.2 (by rw [← e]; rfl)
 have n3 : gyc ≠ gyk := fun e => d2 (by rw [e]; rfl)
 have x1 : gxk ≠ gyk := fun e => dN gxk (.inr (.inl rfl)) (by rw [e]; exact aQ)
 have x2 : gxc ≠ gyk := fun e => dN gxc (.inr (.inr (.inr rfl))) (by rw [e]; exact aQ)
 have x3 : gxc ≠ gyc := fun e => dN gxc (.inr (.inr (.inr rfl))) (by rw [e]; exact cU)
 have l1 := jU.lt (g := gyk) rfl
 have l2 := uZ.lt (g := gyc) rfl
 have l3 : nb y < w.heap.size := fu.lt
 have l4 := lL.lt (g := gxk) rfl
 have l5 := ws.lt (g := gxc) rfl
 refine ret_of_run (e := [(0, _), (1, _)]) Tryz.func105 rfl Tryz.ntmps105 rfl rfl (qN rfl (rValP rfl rfl (pbx (cs := [ptr (nb no) 0, I (i : Int), ptr (nb y) 0, ptr (nb x) 0]) rfl rfl) ?_))
 rintro _ w1 ⟨b, rfl, hb, aa, aj⟩
 refine rEnd (run_seq ?_)
 have eV := aa.size
 have sV := aj.lt
 have dA : ¬ Q b := fun e => by have := eW b (io b (dt b e)).1; omega
 have az := Ext.drew0 w1
 have FM := az.size
 have aB : Ext w w1.drew := aa.trans az
 have eA : ∀ {l : List Bytes}, ∀ c' ∈ l.map S, c'.oneCell' = true := fun c' hc => by obtain ⟨z, -, rfl⟩ := List.mem_map.1 hc; rfl
 have ey : ∀ {l : List Nat}, ∀ c' ∈ l.map u32v, c'.oneCell' = true := fun c' hc => by obtain ⟨z, -, rfl⟩ := List.mem_map.1 hc; rfl
 refine run_cut (fun e' w' => ∃ kv', e' = [(0, ptr p 0), (3, ptr b 0)] ∧ Kp Q w1 w' ∧ Blk w' (nb y) [.bool false, kv', yv, .slice (some ⟨gyc, 0, none⟩) (pa.length + 1) cyc] 84 ∧ Sl w' kv' 9 1 (pa.length + 1 + pb.length) ((innNd ca pa).keys.map S ++ [S up] ++ (innNd cb pb).keys.map S) ∧ (∀ g, kv'.ownBlock = some g → g = gyk ∨ w1.heap.size ≤ g) ∧ Sl w' (.slice (some ⟨gyc, 0, none⟩) (pa.length + 1) cyc) 89 1 (pa.length + 1) ((innNd ca pa).kids.map u32v)) ?hk (fun hk => ?dG)
 case hk =>
  rintro _ w3 ⟨kv', rfl, ak, wu, aJ, du, pN⟩; have aN := ak.blk aj dA; have pX := ak.blk (aa.blk dB) (dN _ (.inl rfl)); have Ba := (ws.ext aa).kp ak (fun g hg e => dN g (.inr (.inr (.inr hg))) e); have av := Ext.drew0 w3; have jS := ak.size; have FQ := av.size; refine run_seq (run_draw (fun w' => Kp Q w3 w') (by kernel_rfl) rfl (zqt 0 rfl (yfa fl146_2 rfl) (av.kp) (qT 1 rfl (fun _ hS => (by first | exact yld U81 rfl rfl (hS.blk aN dA) rfl | exact yld U81 rfl rfl (hS.blk pX (dN _ (.inl rfl))) rfl)) (av.kp) ?_))); refine zqt 2 rfl (yfa fl146_2 rfl) (av.kp) (qT 3 rfl (fun _ hS => (by first | exact yld U81 rfl rfl (hS.blk aN dA) rfl | exact yld U81 rfl rfl (hS.blk pX (dN _ (.inl rfl))) rfl)) (av.kp) ?_); refine zqt 4 rfl (ynk rfl) (av.kp) (zqt 5 rfl (yfa fl84_3 rfl) (av.kp) (zqt 7 rfl (yfa fl146_3 rfl) (av.kp) (qT 8 rfl (fun _ hS => (by first | exact yld U81 rfl rfl (hS.blk aN dA) rfl | exact yld U81 rfl rfl (hS.blk pX (dN _ (.inl rfl))) rfl)) (av.kp) ?_))); refine zqt 9 rfl (ynk rfl) (av.kp) (zqt 10 rfl (yfa fl84_3 rfl) (av.kp) (qT 11 rfl (fun _ hS => (by first | exact yld U82 rfl rfl (hS.blk aN dA) rfl | exact yld U82 rfl rfl (hS.blk pX (dN _ (.inl rfl))) rfl)) (av.kp) ?_)); refine qO 6 (nVal (i := 6) rfl rfl rfl (yld U82 rfl rfl (av.blk wu) rfl) (av.kp) (qO 12 (nValP (i := 12) rfl rfl rfl (pap U82 ti89 rfl (by decide) rfl rfl (pN.ext av) (Ba.ext av).rd ey (by omega) (by omega)) ?_))); rintro cv12 w4 ⟨fo, ax, Bb, -⟩; refine ⟨av.kp.trans (ax.mono' (fun _ e => by cases e; exact cU)), ?_⟩; refine zqt 13 rfl (ynk rfl) (av.kp.trans (ax.mono' (fun _ e => by cases e; exact cU))) ?_; refine zqt 14 rfl (yfa fl84_3 rfl) (av.kp.trans (ax.mono' (fun _ e => by cases e; exact cU))) ?_; have jT := ax.size; have Bc := ax.blk (av.blk wu) (fun e => n2 (oinj e)); refine qO 15 (nEffP (i := 15) rfl rfl (zst ti82 rfl rfl (oneV_sl fo) Bc (by simp)) ?_); rintro w5 ⟨bu, aY⟩; refine ⟨(av.kp.trans (ax.mono' (fun _ e => by cases e; exact cU))).trans (aY.mono' (fun _ e => by rw [e]; exact bV)), ?_⟩; have dz : Kp Q w3 w5 := (av.kp.trans (ax.mono' (fun _ e => by cases e; exact cU))).trans (aY.mono' (fun _ e => by rw [e]; exact bV)); have bW : Kp Q w1 w5 := ak.trans dz; have lg := aY.size; have wv : ∀ g, cv12.ownBlock = some g → g = gyc ∨ w3.heap.size ≤ g := fun g hg => (Bb g hg).elim (fun e => .inl (oinj e).symm) (fun e => .inr (by omega)); have tk : ∀ g, kv'.ownBlock = some g → g < w3.heap.size := fun g hg => aJ.lt hg; have bU := ((aJ.ext av).kp ax (fun g hg e => by have e1 : gyc = g := oinj e; have := du g hg; omega)).kp aY (fun g hg e => by have := du g hg; omega); have vd := fo.kp aY (fun g hg e => by have := wv g hg; omega); have Be : ∀ k, yv.ownBlock = some k → k < w.heap.size ∧ k ≠ gyk ∧ k ≠ gyc ∧ k ≠ nb y := fun k hk => ⟨fR.vals.lt hk, fun e => (fR.d2 gyk rfl).1 (by rw [← e]; exact hk), fun e => fR.d3 k hk (by rw [e]; rfl), fun e => d1.2.1 (by rw [← e]; exact hk)⟩
  have uW : NdM w5 (innNd ca P) ⟨nb y, kv', yv, cv12⟩ := by
   have b1 := fR.bd; have b2 := lh.bd; have b3 := ip.bd; have e1 : (innNd ca P).keys.length = pa.length + 1 + pb.length := by simp [innNd]; omega
   have e2 : (innNd ca P).kids.length = pa.length + 1 + (pb.length + 1) := by simp [innNd]; omega
   have e3 : (innNd ca P).keys.map S = (innNd ca pa).keys.map S ++ [S up] ++ (innNd cb pb).keys.map S := by simp [innNd, ← hP]
   have e4 : (innNd ca P).kids.map u32v = (innNd ca pa).kids.map u32v ++ (innNd cb pb).kids.map u32v := by simp [innNd, ← hP]
   refine ⟨bu, by rw [e1, e3]; exact bU, ?_, by rw [e2, e4]; exact vd, ⟨by omega, by simp [innNd], by omega, fun k hk => ?_, fun k hk => by simp [innNd] at hk, fun k hk => ?_⟩, ⟨fun e => ?_, d1.2.1, fun e => ?_⟩, fun k hk => ⟨fun e => ?_, fun e => ?_⟩, fun k hk e => ?_⟩
   ·exact (fR.vals.ext aa).kp bW (fun g hg hq => by
     rw [← hQ] at hq; obtain ⟨-, a1, a2, a3⟩ := Be g hg; rcases hq with e | e | e
     ·exact a1 e
     ·exact a2 e
     ·exact a3 e)
   ·simp only [innNd, ← hP, List.map_append, List.map_cons, List.mem_append, List.mem_cons] at hk; rcases hk with e | e | e
    ·exact b1.ks k e
    ·rw [e]; exact b3.ks up (List.mem_of_getElem? eu)
    ·exact b2.ks k e
   ·simp only [innNd, ← hP, List.map_append, List.map_cons, List.mem_append, List.mem_cons] at hk; rcases hk with e | e | e | e
    ·exact b1.cs k (by rw [e]; exact List.mem_cons_self)
    ·exact b1.cs k (List.mem_cons_of_mem _ e)
    ·exact b2.cs k (by rw [e]; exact List.mem_cons_self)
    ·exact b2.cs k (List.mem_cons_of_mem _ e)
   ·rcases du _ e with e | e
    ·exact n1 e.symm
    ·have e : w1.heap.size ≤ nb y := e; omega
   ·rcases wv _ e with e | e
    ·exact n2 e.symm
    ·have e : w3.heap.size ≤ nb y := e; omega
   ·obtain ⟨a0, a1, a2, a3⟩ := Be k e; have := du k hk; omega
   ·have a := du k hk; have a' := wv k e; have := tk k hk; omega
   ·obtain ⟨a0, a1, a2, a3⟩ := Be k hk; have := wv k e; omega
  have ww : ∀ k, Pl.fp ⟨nb y, kv', yv, cv12⟩ k → Pl.fp ⟨nb y, .slice (some ⟨gyk, 0, none⟩) pa.length cyk, yv, .slice (some ⟨gyc, 0, none⟩) (pa.length + 1) cyc⟩ k ∨ w1.heap.size ≤ k := fun k hk => by
   rcases hk with hk | hk | hk | hk
   ·exact .inl (.inl hk)
   ·rcases du k hk with f | f
    ·exact .inl (.inr (.inl (by rw [f]; rfl)))
    ·exact .inr f
   ·exact .inl (.inr (.inr (.inl hk)))
   ·rcases wv k hk with f | f
    ·exact .inl (.inr (.inr (.inr (by rw [f]; rfl))))
    ·exact .inr (by omega)
  obtain ⟨F5, h5, dO⟩ := sX w5 (innNd ca P) ⟨nb y, kv', yv, cv12⟩ rfl uW ((aa.kp).trans (bW.mono' dt)) (fun k hk => (ww k hk).elim .inl (fun e => .inr (fun f => by have := eW k f; omega))); have iF : ∀ k, F5 k → F k ∨ w1.heap.size ≤ k := fun k hk => (dO k hk).elim .inl (fun e => (ww k e).elim (fun f => .inl (io k f).1) .inr); have nP : Kp F w w5 := (aa.kp).trans (bW.mono' (fun k hk => (io k (dt k hk)).1)); have pY := bW.blk aj dA; have FR : ¬ F5 b := fun e => (iF b e).elim (fun f => by have := eW b f; omega) (fun f => by omega); obtain ⟨mN, mC, mO, gv, kn, kc, ko, O5⟩ := h5.opn; have ac := Ext.drew0 w5; have e2 : (innNd ca P).kids.length = pa.length + 1 + (pb.length + 1) := by simp [innNd]; omega
  have ia : cv12 = .slice (match cv12 with | .slice a _ _ => a | _ => none) (pa.length + 1 + (pb.length + 1)) (match cv12 with | .slice _ _ c => c | _ => 0) := by
   obtain ⟨g, cp, rfl⟩ := some_of vd (by omega)
   rfl
  obtain ⟨gcc, ccc, rfl⟩ := some_of vd (by omega); refine qE (run_seq (run_seq (run_draw (fun w' => Ext w5 w') (by kernel_rfl) rfl (zqt 0 rfl (yfa fl146_2 rfl) ac (qT 1 rfl (fun _ h=>(by first | exact yld U81 rfl rfl (h.blk pY) rfl | exact yld U81 rfl rfl (h.blk bu) rfl | exact yld U81 rfl rfl (h.blk O5.blk) rfl)) ac ?_))))); refine zqt 2 rfl (ynk rfl) ac (zqt 3 rfl (yfa fl84_3 rfl) ac (qT 4 rfl (fun _ h=>(by first | exact yld U82 rfl rfl (h.blk pY) rfl | exact yld U82 rfl rfl (h.blk bu) rfl | exact yld U82 rfl rfl (h.blk O5.blk) rfl)) ac ?_)); refine zqt 5 rfl (yln U82 rfl) ac (zqt 6 rfl (ymv rfl) ac (zqt 7 rfl (ynk rfl) ac (zqt 8 rfl (yfa fl74_3 rfl) ac (qT 9 rfl (fun _ h=>(by first | exact yld U3 rfl rfl (h.blk pY) rfl | exact yld U3 rfl rfl (h.blk bu) rfl | exact yld U3 rfl rfl (h.blk O5.blk) rfl)) ac ?_)))); refine zqt 10 rfl (yle rfl rfl) ac (qE (Run.qb (e := [(0, _), (3, _), (55, _)]) ?_)); have bM : Ext w5 w5.drew := ac; have h6 := h5.ext ac; have lO := ac.blk pY; have zY : NdM w5.drew (innNd ca P) ⟨nb y, kv', yv, .slice (some ⟨gcc, 0, none⟩) (pa.length + 1 + (pb.length + 1)) ccc⟩ := uW.kp ac (fun _ _ => id); have rl : (T.setN y (innNd ca P)).nodes no = some (innNd c ps) := by rw [Tr.setN_ne T _ fC]; exact hn
  have cH : ∀ k, F5 k → w.heap.size ≤ k ∨ F k := fun k hk => (iF k hk).elim .inr (fun e => .inl (by omega)); have jb : Kp F w w5.drew := nP.trans ac.kp; have FL := jb.size; refine run_if rfl (fun dr => ?_) (fun dr => ?_)
  ·refine qN rfl (zqm rfl (qV (yldA U146 rfl ti146 rfl (Blk.cells (n := 4) lO (news := [_, _, _, _]) rfl) rfl) (zqc [.tmp 56, .tmp 57] cf131 rfl (gone_ret h6 rl hi cX d8) ?_))); rintro _ w7 ⟨rfl, F7, wx, aW, pR⟩; refine rEnd (run_ret Tryz.func105 rfl (⟨_, rfl, rfl, _, F7, wx, jb.trans_new aW (fun k hk => cH k hk), fun k hk => ?_, .inl ⟨by have dr : ((pa.length + 1 + (pb.length + 1) : Nat) : Int) ≤ (orderE T.size : Int) := dr; omega, rfl⟩⟩)); rcases pR k hk with e | e
   ·exact (cH k e).symm
   ·exact .inr (by omega)
  ·have mQ : orderE T.size < P.length + 1 := by have dr : ¬ ((pa.length + 1 + (pb.length + 1) : Nat) : Int) ≤ (orderE T.size : Int) := dr; omega
   refine run_skip ?_; have wy : 8 ≤ P.length := by omega
   obtain ⟨m, hm⟩ : ∃ m, (P.length + 1) / 2 - 1 = m := ⟨_, rfl⟩; have FS : m < P.length := by omega
   obtain ⟨⟨up', c2⟩, hu⟩ : ∃ q, P[m]? = some q := ⟨_, List.getElem?_eq_getElem FS⟩; have tl : NdM w5.drew (innNd c ps) ⟨nb no, .slice (some ⟨gnk, 0, none⟩) ps.length cnk, nv, nc⟩ := ((ip.kp aa (fun _ _ => id)).kp bW e7).kp ac (fun _ _ => id); have Bf : NdM w5.drew (innNd cb pb) ⟨nb x, .slice (some ⟨gxk, 0, none⟩) pb.length cxk, xv, .slice (some ⟨gxc, 0, none⟩) (pb.length + 1) cxc⟩ := ((lh.kp aa (fun _ _ => id)).kp bW dN).kp ac (fun _ _ => id); have apxn := h.two h2 hn (Ne.symm cX) lh rfl ip rfl; have a1 : nb no ≠ nb y := fun e => e7 (nb no) (.inl rfl) (by rw [e]; exact bV); have a2 : nb no ≠ gnk := fun e => ip.d1.1 (by rw [e]; rfl); have a3 : nb no ≠ nb x := fun e => apxn (nb x) (.inl rfl) (.inl e.symm); have a4 : gnk ≠ nb y := fun e => e7 gnk (.inr (.inl rfl)) (by rw [e]; exact bV); have a5 : gnk ≠ nb x := fun e => apxn (nb x) (.inl rfl) (.inr (.inl (by rw [← e]; rfl))); have a6 : nb x ≠ nb y := fun e => dN (nb x) (.inl rfl) (by rw [e]; exact bV); have l6 : gnk < w.heap.size := ip.lt gnk (.inr (.inl rfl)); have l7 : nb no < w.heap.size := ip.lt _ (.inl rfl); have l8 : nb x < w.heap.size := lh.lt _ (.inl rfl); have lP := tl.blk; have tp := tl.keys; have wz := Bf.blk; dsimp only at lP tp wz; rw [k5] at tp; have aL : Ext w5.drew w5.drew.drew := Ext.drew0 _; have FT := ac.size; have FU := aL.size
   have nQ : ¬ (nb no = nb y ∨ nb no = gnk ∨ nb no = nb x) := by
    rintro (e | e | e)
    ·exact a1 e
    ·exact a2 e
    ·exact a3 e
   refine run_draw (fun w' => Kp (fun k => k = nb y ∨ k = gnk ∨ k = nb x) w5.drew w') (by kernel_rfl) rfl (zqt 0 rfl (yfa fl146_0 rfl) (aL.kp) (qT 1 rfl (fun _ hS => (by first | exact yld U81 rfl rfl (hS.blk lO (fun e => by omega)) rfl | exact yld U81 rfl rfl (hS.blk lP nQ) rfl)) (aL.kp) ?_)); refine zqt 2 rfl (ynk rfl) (aL.kp) (zqt 3 rfl (yfa fl84_1 rfl) (aL.kp) (qT 4 rfl (fun _ hS => (by first | exact yld U23 rfl rfl (hS.blk lO (fun e => by omega)) rfl | exact yld U23 rfl rfl (hS.blk lP nQ) rfl)) (aL.kp) ?_)); refine zqt 5 rfl (yfa fl146_1 rfl) (aL.kp) (qT 6 rfl (fun _ hS => (by first | exact yld U3 rfl rfl (hS.blk lO (fun e => by omega)) rfl | exact yld U3 rfl rfl (hS.blk lP nQ) rfl)) (aL.kp) ?_); refine zqt 7 rfl (yfa fl146_3 rfl) (aL.kp) (qT 8 rfl (fun _ hS => (by first | exact yld U81 rfl rfl (hS.blk lO (fun e => by omega)) rfl | exact yld U81 rfl rfl (hS.blk lP nQ) rfl)) (aL.kp) ?_); refine zqt 9 rfl (yfa fl146_2 rfl) (aL.kp) (qT 10 rfl (fun _ hS => (by first | exact yld U81 rfl rfl (hS.blk lO (fun e => by omega)) rfl | exact yld U81 rfl rfl (hS.blk lP nQ) rfl)) (aL.kp) ?_); refine zqo 11 [.tmp 70] rfl cf73 rfl (part_ret (q := ⟨nb y, kv', yv, .slice (some ⟨gcc, 0, none⟩) (pa.length + 1 + (pb.length + 1)) ccc⟩) (zY.kp aL (fun _ _ => id)) (by omega) hm hu) ?_; rintro _ w7 ⟨kv2, cv2, q7, rfl, tq, wA, B8, wB, wC, aW, wD, wE, kB, lQ⟩; refine ⟨aL.kp.trans (aW.mono' (fun _ e => .inl e)), ?_⟩; refine zqt 12 rfl (ymv rfl) (aL.kp.trans (aW.mono' (fun _ e => .inl e))) (zqt 13 rfl (yex rfl rfl) (aL.kp.trans (aW.mono' (fun _ e => .inl e))) (zqt 14 rfl (yex rfl rfl) (aL.kp.trans (aW.mono' (fun _ e => .inl e))) (zqt 15 rfl (yis U23 ti9 rfl rfl (by omega)) (aL.kp.trans (aW.mono' (fun _ e => .inl e))) (qO 16 (nEffP (i := 16) rfl rfl (zstSl ti9 rfl rfl rfl ((tp.ext aL).kp aW (fun g hg e => a4 (by have e1 : gnk = g := oinj hg; rw [e1]; exact e))) (by simp [innNd]; omega)) ?_))))); rintro w8 ⟨db, aU⟩; refine ⟨(aL.kp.trans (aW.mono' (fun _ e => .inl e))).trans (aU.mono' (fun _ e => .inr (.inl e))), ?_⟩; refine zqt 17 rfl (ynk rfl) ((aL.kp.trans (aW.mono' (fun _ e => .inl e))).trans (aU.mono' (fun _ e => .inr (.inl e)))) ?_; have Bg := aU.blk (aW.blk (aL.blk wz) a6) a5.symm; refine qO 18 (nEffP (i := 18) rfl rfl (zstA (news := [.bool false, kv2, .slice none 0 0, cv2]) ti84 rfl rfl (by have a1 := oneV_sl wB; have a2 := oneV_sl wC; show (oneV _ && (oneV kv2 && (oneV _ && (oneV cv2 && true)))) = true; rw [a1, a2]; rfl) rfl Bg (by simp)) ?_); rintro w9 ⟨dg, aH⟩; refine ⟨((aL.kp.trans (aW.mono' (fun _ e => .inl e))).trans (aU.mono' (fun _ e => .inr (.inl e)))).trans (aH.mono' (fun _ e => .inr (.inr e))), ?_⟩; refine qE (run_end Tryz.func105 rfl ?_); have tr : Kp (fun k => k = nb y ∨ k = gnk ∨ k = nb x) w5.drew w9 := ((aL.kp.trans (aW.mono' (fun _ e => .inl e))).trans (aU.mono' (fun _ e => .inr (.inl e)))).trans (aH.mono' (fun _ e => .inr (.inr e))); have kj := aW.size; have mA := aU.size; obtain ⟨q6, pM, gm, pV, te⟩ := h6.nodeF (n := innNd ca P) (no := (y : Int)) (Tr.setN_same T y _)
   have eq6 := gm.uniq zY pM; subst eq6; have zZ := h6.lt
   obtain ⟨F7, h7, pR⟩ := te w7 _ q7 tq B8 (aL.kp.trans (aW.mono' (fun k e => .inl e))) (fun k hk => by
    rcases hk with e | e | e | e
    ·exact .inl (.inl (by rw [e, tq]))
    ·exact .inr (fun f => by have := wD k e; have := zZ k f; omega)
    ·exact .inl (.inr (.inr (.inl (by rw [wA] at e; exact e))))
    ·exact .inr (fun f => by have := wE k e; have := zZ k f; omega))
   rw [Tr.setN2] at h7
   have wF : ∀ k, F7 k → F5 k ∨ w5.drew.heap.size ≤ k := fun k hk => by
    rcases pR k hk with e | e | e | e | e
    ·exact .inl e
    ·exact .inl (by rw [e, tq]; exact (pV _ (.inl rfl)).1)
    ·exact .inr (by have := wD k e; omega)
    ·exact .inl (pV k (.inr (.inr (.inl (by rw [wA] at e; exact e))))).1
    ·exact .inr (by have := wE k e; omega)
   have gJ : NdM w7 (innNd c ps) ⟨nb no, .slice (some ⟨gnk, 0, none⟩) ps.length cnk, nv, nc⟩ := (tl.kp aL (fun _ _ => id)).kp aW (fun k hk e => e7 k hk (by rw [e]; exact bV))
   have Bh : NdM w8 (innNd c (ps.set i (up', x))) ⟨nb no, .slice (some ⟨gnk, 0, none⟩) ps.length cnk, nv, nc⟩ := by
    have e0 : (innNd c (ps.set i (up', x))).keys.length = ps.length := by simp [innNd]
    have e1 : (innNd c (ps.set i (up', x))).keys = (innNd c ps).keys.set i up' := by simp [innNd, List.map_set]
    have e2 : (innNd c (ps.set i (up', x))).kids = (innNd c ps).kids := by
     simp only [innNd, List.map_set]
     congr 1
     have hx : (ps.map (·.2))[i]? = some x := by rw [List.getElem?_map, hi]; rfl
     apply List.ext_getElem?; intro j; by_cases ej : i = j
     ·subst ej; rw [List.getElem?_set_self (by simpa using cF), hx]
     ·rw [List.getElem?_set_ne ej]
    have bA := gJ.bd; have A0 := zY.bd; refine ⟨aU.blk gJ.blk a2, ?_, ?_, ?_, ⟨by rw [e0]; exact dl, bA.vl, by rw [e2]; exact bA.cl, fun k hk => ?_, bA.vs, by rw [e2]; exact bA.cs⟩, gJ.d1, gJ.d2, gJ.d3⟩
    ·rw [e0, e1, List.map_set]; rw [Nat.zero_add, Nat.mul_one] at db; exact db
    ·exact gJ.vals.kp aU (fun g hg e => (gJ.d2 gnk rfl).1 (by rw [← e]; exact hg))
    ·rw [e2]; exact gJ.kids.kp aU (fun g hg e => (gJ.d2 gnk rfl).2 (by rw [← e]; exact hg))
    ·rw [e1] at hk; rcases List.mem_or_eq_of_mem_set hk with e | e
     ·exact bA.ks k e
     ·exact A0.ks k (by
       rw [e]; show up' ∈ P.map (·.1)
       exact List.mem_map.2 ⟨(up', c2), List.mem_of_getElem? hu, rfl⟩)
   obtain ⟨qn7, Bi, wG, wH, tg⟩ := h7.nodeF (n := innNd c ps) (no := no) (by rw [Tr.setN_ne T _ fC]; exact hn); have eqn := wG.uniq gJ Bi; subst eqn; obtain ⟨F8, h8, rm⟩ := tg w8 _ _ rfl Bh (aU.mono' (fun k e => .inr (.inl (by rw [e]; rfl)))) (fun k hk => .inl hk); have pZ : ∀ k, F8 k → F7 k := fun k hk => (rm k hk).elim id (fun e => (wH k e).1)
   have Bj : NdM w9 (innNd c2 (P.drop (m + 1))) ⟨nb x, kv2, .slice none 0 0, cv2⟩ := by
    have e1 : (innNd c2 (P.drop (m + 1))).keys.length = (P.drop (m + 1)).length := by simp [innNd]
    have e2 : (innNd c2 (P.drop (m + 1))).kids.length = (P.drop (m + 1)).length + 1 := by simp [innNd]
    have bA := zY.bd; have FV := (wB.kp aU (fun g hg e => by have := (kB g hg).1; omega)).kp aH (fun g hg e => by have := (kB g hg).1; omega); have tt := (wC.kp aU (fun g hg e => by have := (lQ g hg).1; omega)).kp aH (fun g hg e => by have := (lQ g hg).1; omega)
    refine ⟨dg, by rw [e1]; exact FV, Sl.nil _ _ _, by rw [e2]; exact tt, ⟨by rw [e1]; simp; omega, by simp [innNd], by rw [e2]; simp; omega, fun k hk => bA.ks k (by simp only [innNd, List.map_drop] at hk ⊢; exact List.mem_of_mem_drop hk), fun k hk => by simp [innNd] at hk, fun k hk => bA.cs k (by
     simp only [innNd, List.map_drop, List.mem_cons] at hk ⊢; rcases hk with e | e
     ·exact .inr (by rw [e]; exact List.mem_map.2 ⟨(up', c2), List.mem_of_getElem? hu, rfl⟩)
     ·exact .inr (List.mem_of_mem_drop e))⟩, ⟨fun e => ?_, fun e => (by cases e), fun e => ?_⟩, fun k hk => ⟨fun e => (by cases e), (kB k hk).2.2⟩, fun k hk => by cases hk⟩
    ·have e : w5.drew.drew.heap.size ≤ nb x := (kB _ e).1; omega
    ·have e : w5.drew.drew.heap.size ≤ nb x := (lQ _ e).1; omega
   obtain ⟨q9, A1, pf, Bk, Bl⟩ := h8.nodeF (n := innNd cb pb) (no := (x : Int)) (by rw [Tr.setN_ne _ _ (Ne.symm cX), Tr.setN_ne T _ (Ne.symm mD)]; exact h2)
   obtain ⟨F9, h9, ph⟩ := Bl w9 _ ⟨nb x, kv2, .slice none 0 0, cv2⟩ A1.symm Bj (aH.mono' (fun k e => .inl (by rw [A1]; exact e))) (fun k hk => by
    rcases hk with e | e | e | e
    ·exact .inl (.inl (by rw [A1]; exact e))
    ·exact .inr (fun f => (pR k (pZ k f)).elim (fun f => by have := (kB k e).1; have := zZ k f; omega) (kB k e).2.1)
    ·cases e
    ·exact .inr (fun f => (pR k (pZ k f)).elim (fun f => by have := (lQ k e).1; have := zZ k f; omega) (lQ k e).2))
   have gK : ∀ k, F9 k → F5 k ∨ w5.drew.heap.size ≤ k := fun k hk => by
    rcases ph k hk with e | e | e | e | e
    ·exact wF k (pZ k e)
    ·exact wF k (pZ k (Bk k (.inl (by rw [A1]; exact e))).1)
    ·exact .inr (by have := (kB k e).1; omega)
    ·cases e
    ·exact .inr (by have := (lQ k e).1; omega)
   rw [Tr.setN_comm _ _ _ cX] at h9; refine ⟨_, rfl, rfl, _, F9, h9, ?_, fun k hk => ?_, .inr ⟨mQ, up', c2, by rw [hm]; exact hu, by rw [hm]⟩⟩
   ·exact jb.trans_new tr (fun k hk => by
     rcases hk with e | e | e
     ·exact .inr (by rw [e]; exact (io _ (.inl rfl)).1)
     ·exact .inr (by rw [e]; exact (tj _ (.inr (.inl rfl))).1)
     ·exact .inr (by rw [e]; exact (sZ _ (.inl rfl)).1))
   ·rcases gK k hk with e | e
    ·exact (cH k e).symm
    ·exact .inr (by omega)
 case dG =>
  refine run_draw (fun w' => Kp Q w1 w') (by kernel_rfl) rfl (zqt 0 rfl (yfa fl146_2 rfl) (az.kp) (qT 1 rfl (fun _ hS => (by first | exact yld U81 rfl rfl (hS.blk aj dA) rfl | exact yld U81 rfl rfl (hS.blk (aa.blk dB) (dN _ (.inl rfl))) rfl | exact yld U81 rfl rfl (hS.blk (aa.blk aq) (e7 _ (.inl rfl))) rfl)) (az.kp) ?_)); refine zqt 2 rfl (yfa fl146_2 rfl) (az.kp) (qT 3 rfl (fun _ hS => (by first | exact yld U81 rfl rfl (hS.blk aj dA) rfl | exact yld U81 rfl rfl (hS.blk (aa.blk dB) (dN _ (.inl rfl))) rfl | exact yld U81 rfl rfl (hS.blk (aa.blk aq) (e7 _ (.inl rfl))) rfl)) (az.kp) ?_); refine zqt 4 rfl (ynk rfl) (az.kp) (zqt 5 rfl (yfa fl84_1 rfl) (az.kp) (zqt 7 rfl (yfa fl146_0 rfl) (az.kp) (qT 8 rfl (fun _ hS => (by first | exact yld U81 rfl rfl (hS.blk aj dA) rfl | exact yld U81 rfl rfl (hS.blk (aa.blk dB) (dN _ (.inl rfl))) rfl | exact yld U81 rfl rfl (hS.blk (aa.blk aq) (e7 _ (.inl rfl))) rfl)) (az.kp) ?_))); refine zqt 9 rfl (ynk rfl) (az.kp) (zqt 10 rfl (yfa fl84_1 rfl) (az.kp) (qT 11 rfl (fun _ hS => (by first | exact yld U23 rfl rfl (hS.blk aj dA) rfl | exact yld U23 rfl rfl (hS.blk (aa.blk dB) (dN _ (.inl rfl))) rfl | exact yld U23 rfl rfl (hS.blk (aa.blk aq) (e7 _ (.inl rfl))) rfl)) (az.kp) ?_)); refine zqt 12 rfl (yfa fl146_1 rfl) (az.kp) (qT 13 rfl (fun _ hS => (by first | exact yld U3 rfl rfl (hS.blk aj dA) rfl | exact yld U3 rfl rfl (hS.blk (aa.blk dB) (dN _ (.inl rfl))) rfl | exact yld U3 rfl rfl (hS.blk (aa.blk aq) (e7 _ (.inl rfl))) rfl)) (az.kp) ?_); refine zqt 14 rfl (yis U23 ti9 rfl rfl (by omega)) (az.kp) (zqt 18 rfl (yfa fl146_3 rfl) (az.kp) (qT 19 rfl (fun _ hS => (by first | exact yld U81 rfl rfl (hS.blk aj dA) rfl | exact yld U81 rfl rfl (hS.blk (aa.blk dB) (dN _ (.inl rfl))) rfl | exact yld U81 rfl rfl (hS.blk (aa.blk aq) (e7 _ (.inl rfl))) rfl)) (az.kp) ?_)); refine zqt 20 rfl (ynk rfl) (az.kp) (zqt 21 rfl (yfa fl84_1 rfl) (az.kp) (qT 22 rfl (fun _ hS => (by first | exact yld U23 rfl rfl (hS.blk aj dA) rfl | exact yld U23 rfl rfl (hS.blk (aa.blk dB) (dN _ (.inl rfl))) rfl | exact yld U23 rfl rfl (hS.blk (aa.blk aq) (e7 _ (.inl rfl))) rfl)) (az.kp) ?_)); refine qT 15 rfl (fun _ hS => yldc U9 rfl rfl (rd_str (((zX.ext aa).kp hS (fun g hg e => e7 g (.inr (.inl hg)) e)).rd) cF eu)) (az.kp) (hTwo (i := 6) (j := 16) (by kernel_rfl) ?_ ?_)
  ·refine nVal (i := 6) rfl rfl rfl (yld U23 rfl rfl (aB.blk fu) rfl) (az.kp) (qO 16 (nValP (i := 16) rfl rfl rfl (pbs (parts := [(0, .tmp 19)]) (cs := [_]) (zs := [Value.string ⟨#[]⟩]) U23 ti9 rfl (by kernel_rfl) rfl rfl rfl (by decide)) ?_)); rintro _ w16 ⟨b16, rfl, ⟨kw, ag, cS⟩, cW⟩; refine ⟨(az.trans ag).kp, ?_⟩; have pO := ag.size; have wI := cS.lt; refine qO 17 (nValP (i := 17) rfl rfl rfl (pap U23 ti9 rfl (by decide) rfl rfl (jU.ext (aB.trans ag)) cW.rd (by intro c hc; simp at hc; subst hc; rfl) (by omega) (by omega)) ?_); rintro kv17 w17 ⟨dQ, aP, ct, -⟩; refine ⟨(az.trans ag).kp.trans (aP.mono' (fun _ e => by cases e; exact aQ)), ?_⟩; have kC := aP.size; have dR : ∀ g, kv17.ownBlock = some g → g = gyk ∨ w1.heap.size ≤ g := fun g hg => (ct g hg).elim (fun e => .inl (oinj e).symm) (fun e => .inr (by omega)); have nR := (lL.ext (aB.trans ag)).kp aP (fun g hg e => x1 (by cases hg; exact (oinj e).symm)); refine qO 23 (nValP (i := 23) rfl rfl rfl (pap U23 ti9 rfl (by decide) rfl rfl dQ nR.rd eA (by omega) (by omega)) ?_); rintro kv23 w23 ⟨nS, bH, tu, -⟩; refine ⟨((az.trans ag).kp.trans (aP.mono' (fun _ e => by cases e; exact aQ))).trans_new bH (fun g hg => (dR g hg).elim (fun e => .inr (by rw [e]; exact aQ)) .inl), ?_⟩; have jc : Kp Q w1 w23 := ((az.trans ag).kp.trans (aP.mono' (fun _ e => by cases e; exact aQ))).trans_new bH (fun g hg => (dR g hg).elim (fun e => .inr (by rw [e]; exact aQ)) .inl); have nT : ∀ g, kv23.ownBlock = some g → g = gyk ∨ w1.heap.size ≤ g := fun g hg => (tu g hg).elim (dR g) (fun e => .inr (by omega)); refine zqt 24 rfl (ynk rfl) (((az.trans ag).kp.trans (aP.mono' (fun _ e => by cases e; exact aQ))).trans_new bH (fun g hg => (dR g hg).elim (fun e => .inr (by rw [e]; exact aQ)) .inl)) ?_; refine zqt 25 rfl (yfa fl84_1 rfl) (((az.trans ag).kp.trans (aP.mono' (fun _ e => by cases e; exact aQ))).trans_new bH (fun g hg => (dR g hg).elim (fun e => .inr (by rw [e]; exact aQ)) .inl)) ?_; have nU := bH.blk (aP.blk ((aB.trans ag).blk fu) (fun e => n1 (oinj e))) (fun e => by have := dR _ e; omega); have nV := ((uZ.ext (aB.trans ag)).kp aP (fun g hg e => n3 (by cases hg; exact (oinj e).symm))).kp bH (fun g hg e => by have e1 : gyc = g := oinj hg; have := dR _ e; omega); refine qO 26 (nEffP (i := 26) rfl rfl (zst ti23 rfl rfl (oneV_sl nS) nU (by simp)) ?_); rintro w24 ⟨jd, fD⟩; refine ⟨jc.trans (fD.mono' (fun _ e => by rw [e]; exact bV)), ?_⟩; refine qE (Run.qb (e := [(0, _), (3, _)]) ?_); refine (hk _ _ ⟨kv23, rfl, jc.trans (fD.mono' (fun _ e => by rw [e]; exact bV)), jd, ?_, nT, nV.kp fD (fun g hg e => n2 (by cases hg; exact e))⟩).qb; exact nS.kp fD (fun g hg e => by have := nT g hg; omega)
  ·refine nValP (i := 16) rfl rfl rfl (pbs (parts := [(0, .tmp 19)]) (cs := [_]) (zs := [Value.string ⟨#[]⟩]) U23 ti9 rfl (by kernel_rfl) rfl rfl rfl (by decide)) ?_; rintro _ w16 ⟨b16, rfl, ⟨kw, ag, cS⟩, cW⟩; refine ⟨(az.trans ag).kp, ?_⟩; refine qO 6 (nVal (i := 6) rfl rfl rfl (yld U23 rfl rfl ((aB.trans ag).blk fu) rfl) ((az.trans ag).kp) ?_); have pO := ag.size; have wI := cS.lt; refine qO 17 (nValP (i := 17) rfl rfl rfl (pap U23 ti9 rfl (by decide) rfl rfl (jU.ext (aB.trans ag)) cW.rd (by intro c hc; simp at hc; subst hc; rfl) (by omega) (by omega)) ?_); rintro kv17 w17 ⟨dQ, aP, ct, -⟩; refine ⟨(az.trans ag).kp.trans (aP.mono' (fun _ e => by cases e; exact aQ)), ?_⟩; have kC := aP.size; have dR : ∀ g, kv17.ownBlock = some g → g = gyk ∨ w1.heap.size ≤ g := fun g hg => (ct g hg).elim (fun e => .inl (oinj e).symm) (fun e => .inr (by omega)); have nR := (lL.ext (aB.trans ag)).kp aP (fun g hg e => x1 (by cases hg; exact (oinj e).symm)); refine qO 23 (nValP (i := 23) rfl rfl rfl (pap U23 ti9 rfl (by decide) rfl rfl dQ nR.rd eA (by omega) (by omega)) ?_); rintro kv23 w23 ⟨nS, bH, tu, -⟩; refine ⟨((az.trans ag).kp.trans (aP.mono' (fun _ e => by cases e; exact aQ))).trans_new bH (fun g hg => (dR g hg).elim (fun e => .inr (by rw [e]; exact aQ)) .inl), ?_⟩; have jc : Kp Q w1 w23 := ((az.trans ag).kp.trans (aP.mono' (fun _ e => by cases e; exact aQ))).trans_new bH (fun g hg => (dR g hg).elim (fun e => .inr (by rw [e]; exact aQ)) .inl); have nT : ∀ g, kv23.ownBlock = some g → g = gyk ∨ w1.heap.size ≤ g := fun g hg => (tu g hg).elim (dR g) (fun e => .inr (by omega)); refine zqt 24 rfl (ynk rfl) (((az.trans ag).kp.trans (aP.mono' (fun _ e => by cases e; exact aQ))).trans_new bH (fun g hg => (dR g hg).elim (fun e => .inr (by rw [e]; exact aQ)) .inl)) ?_; refine zqt 25 rfl (yfa fl84_1 rfl) (((az.trans ag).kp.trans (aP.mono' (fun _ e => by cases e; exact aQ))).trans_new bH (fun g hg => (dR g hg).elim (fun e => .inr (by rw [e]; exact aQ)) .inl)) ?_; have nU := bH.blk (aP.blk ((aB.trans ag).blk fu) (fun e => n1 (oinj e))) (fun e => by have := dR _ e; omega); have nV := ((uZ.ext (aB.trans ag)).kp aP (fun g hg e => n3 (by cases hg; exact (oinj e).symm))).kp bH (fun g hg e => by have e1 : gyc = g := oinj hg; have := dR _ e; omega); refine qO 26 (nEffP (i := 26) rfl rfl (zst ti23 rfl rfl (oneV_sl nS) nU (by simp)) ?_); rintro w24 ⟨jd, fD⟩; refine ⟨jc.trans (fD.mono' (fun _ e => by rw [e]; exact bV)), ?_⟩; refine qE (Run.qb (e := [(0, _), (3, _)]) ?_); refine (hk _ _ ⟨kv23, rfl, jc.trans (fD.mono' (fun _ e => by rw [e]; exact bV)), jd, ?_, nT, nV.kp fD (fun g hg e => n2 (by cases hg; exact e))⟩).qb; exact nS.kp fD (fun g hg e => by have := nT g hg; omega)
end
section
variable {w : World}
set_option maxHeartbeats 2000000 in
theorem fill_ret {p : Nat} {T : Tr} {nb : Int → Nat} {F : Nat → Prop} (h : TreeA w p T nb F) {no : Int} {c x y k : Nat} {ps : List (Bytes × Nat)} {up : Bytes} {ny nx : Nd} (hn : T.nodes no = some (innNd c ps)) (hk : k ≤ ps.length) (hi : ps[k - 1]? = some (up, x)) (hy : (c :: ps.map (·.2))[k - 1]? = some y) (h1 : T.nodes (y : Int) = some ny) (h2 : T.nodes (x : Int) = some nx) {R : Value → World → Prop}
  (nW : ∀ w1, TreeA w1 p ((T.mark y).mark x) nb F → Kp F w w1 → Ret Tryz.prog (if ny.leaf then 104 else 105) [ptr p 0, .agg #[ptr (nb no) 0, I ((k - 1 : Nat) : Int), ptr (nb y) 0, ptr (nb x) 0]] w1 fun v w' => v = .tuple #[] ∧ R v w') :
  Ret Tryz.prog 78 [ptr p 0, ptr (nb no) 0, I (k : Int)] w fun v w' => v = .tuple #[] ∧ R v w' := by
 obtain ⟨mN, mC, mO, gv, kn, kc, ko, O⟩ := h.opn
 obtain ⟨qn, lk, ip, tj, -⟩ := h.node hn
 obtain ⟨nb', nk, nv, nc⟩ := qn
 dsimp only at lk
 subst lk
 have aq := ip.blk
 have gL := ip.kids
 have bA := ip.bd
 dsimp only at aq gL
 have cF : k - 1 < ps.length := by
  rcases Nat.lt_or_ge (k - 1) ps.length with h | h
  ·exact h
  ·rw [List.getElem?_eq_none h] at hi; cases hi
 have kcl : (innNd c ps).kids.length = ps.length + 1 := by simp [innNd]
 rw [kcl] at gL
 obtain ⟨gc, cc, rfl⟩ := some_of gL (by omega)
 have aZ : (innNd c ps).kids[k - 1 + 1]? = some x := by simp [innNd, hi]
 have mr : (innNd c ps).kids[k - 1]? = some y := hy
 have In := bA.cs y (List.mem_of_getElem? mr)
 have rn := bA.cs x (List.mem_of_getElem? aZ)
 have dl : ps.length ≤ 100000 := by have := bA.cl; omega
 refine ret_of_run (e := [(0, _), (1, _), (2, _)]) Tryz.func78 rfl Tryz.ntmps78 rfl rfl (qN rfl (zqm rfl (qV (ysb rfl rfl (by omega)) (qV (yma rfl rfl) (zqa rfl (rEnd (run_seq ?_)))))))
 rw [show max ((k : Int) - 1) 0 = ((k - 1 : Nat) : Int) by omega]
 have a7 := Ext.drew0 w
 refine run_draw (fun w' => Ext w w') (by kernel_rfl) rfl (zqt 0 rfl (ymv rfl) a7 (zqt 1 rfl (ymv rfl) a7 (zqt 2 rfl (ymv rfl) a7 (zqt 3 rfl (ynk rfl) a7 (zqt 4 rfl (yfa fl74_5 rfl) a7 (qT 5 rfl (fun _ h=>(by first | exact yld U71 rfl rfl (h.blk O.blk) rfl | exact yld U71 rfl rfl (h.blk aq) rfl)) a7 ?_))))))
 refine zqt 6 rfl (ymv rfl) a7 (zqt 7 rfl (ynk rfl) a7 (zqt 8 rfl (yfa fl84_3 rfl) a7 (qT 9 rfl (fun _ h=>(by first | exact yld U82 rfl rfl (h.blk O.blk) rfl | exact yld U82 rfl rfl (h.blk aq) rfl)) a7 ?_)))
 refine zqt 10 rfl (ymv rfl) a7 (zqt 11 rfl (yis U82 ti89 rfl rfl (by omega)) a7 (zqt 15 rfl (ymv rfl) a7 (zqt 16 rfl (ynk rfl) a7 (zqt 17 rfl (yfa fl74_5 rfl) a7 (qT 18 rfl (fun _ h=>(by first | exact yld U71 rfl rfl (h.blk O.blk) rfl | exact yld U71 rfl rfl (h.blk aq) rfl)) a7 ?_)))))
 refine zqt 19 rfl (ymv rfl) a7 (zqt 20 rfl (ynk rfl) a7 (zqt 21 rfl (yfa fl84_3 rfl) a7 (qT 22 rfl (fun _ h=>(by first | exact yld U82 rfl rfl (h.blk O.blk) rfl | exact yld U82 rfl rfl (h.blk aq) rfl)) a7 ?_)))
 refine zqt 23 rfl (ymv rfl) a7 (zqt 24 rfl (yad rfl rfl (by omega)) a7 (zqt 25 rfl (yis U82 ti89 rfl rfl (by omega)) a7 (qT 12 rfl (fun _ hS => yldc U89 rfl rfl (rd_u32 ((gL.ext hS).rd) (by omega) mr)) a7 (zqt 13 rfl (ycvSi64 rfl U89 U3 (by omega)) a7 (qT 14 rfl (fun _ h=>ylk (k := (y : Int)) (K := KZ) U71 (ky_int U3) ti81 rfl rfl (h.map O.nm.l)) a7 (qT 26 rfl (fun _ hS => yldc U89 rfl rfl (rd_u32 ((gL.ext hS).rd) (by omega) aZ)) a7 (zqt 27 rfl (ycvSi64 rfl U89 U3 (by omega)) a7 (qT 28 rfl (fun _ h=>ylk (k := (x : Int)) (K := KZ) U71 (ky_int U3) ti81 rfl rfl (h.map O.nm.l)) a7 ?_))))))))
 rw [O.ng (y : Int), h1, O.ng (x : Int), h2]
 refine zqt 29 rfl (ybd (parts := [(0, .tmp 11), (1, .tmp 12), (2, .tmp 25), (3, .tmp 39)]) (cs := [_, _, _, _]) ti146 rfl sp146 rfl rfl) a7 (qO 30 (nValP (i := 30) rfl rfl rfl (pal (cs := [_, _, _, _]) ti146 rfl) ?_))
 rintro _ w1 ⟨b, rfl, hb, aa, aj⟩
 refine ⟨a7.trans aa, ?_⟩
 refine qO 31 (nEffP (i := 31) rfl rfl (zstA (news := [ptr (nb no) 0, I ((k - 1 : Nat) : Int), ptr (nb y) 0, ptr (nb x) 0]) ti146 rfl rfl rfl rfl aj (by simp)) ?_)
 rintro w2 ⟨ay, am⟩
 refine ⟨(a7.trans aa).trans_new am (fun i hi => by rw [hi, hb]; exact a7.size), ?_⟩
 refine qE (Run.qb (e := [(0, _), (1, _), (6, _), (7, _)]) ?_)
 refine run_seq ?_
 have ad : Ext w w2 := (a7.trans aa).trans_new am (fun i hi => by rw [hi, hb]; exact a7.size)
 have sV : w.heap.size ≤ b := by rw [hb]; exact a7.size
 have ll := h.ext ad
 obtain ⟨mN2, mC2, mO2, gv2, kn2, kc2, ko2, O2⟩ := ll.opn
 have eW := h.lt
 have FW : b ≠ mC2 := fun e => by have := eW mC2 O2.fp.2.2.1; omega
 have gF := O2.top no _ _ hn (ip.kp ad (fun _ _ => id)) rfl
 have A2 : nb no ≠ mC2 := (gF _ (.inl rfl)).2.2.1
 have E5 : gc ≠ mC2 := (gF _ (.inr (.inr (.inr rfl)))).2.2.1
 have a8 := Ext.drew0 w2
 have wJ := gL.ext ad
 refine run_draw (fun w' => Kp (fun k => k = mC2) w2 w') (by kernel_rfl) rfl (zqt 0 rfl (ymv rfl) (a8.kp) (zqt 1 rfl (ynk rfl) (a8.kp) (zqt 2 rfl (yfa fl74_7 rfl) (a8.kp) (qT 3 rfl (fun _ hS => (by first | exact yld U72 rfl rfl (hS.blk O2.blk O2.ne.2.1.symm) rfl | exact yld U72 rfl rfl (hS.blk (ad.blk aq) A2) rfl)) (a8.kp) ?_))))
 refine zqt 4 rfl (ymv rfl) (a8.kp) (zqt 5 rfl (ynk rfl) (a8.kp) (zqt 6 rfl (yfa fl84_3 rfl) (a8.kp) (qT 7 rfl (fun _ hS => (by first | exact yld U82 rfl rfl (hS.blk O2.blk O2.ne.2.1.symm) rfl | exact yld U82 rfl rfl (hS.blk (ad.blk aq) A2) rfl)) (a8.kp) ?_)))
 refine zqt 8 rfl (ymv rfl) (a8.kp) (zqt 9 rfl (yis U82 ti89 rfl rfl (by omega)) (a8.kp) (zqt 12 rfl (ymv rfl) (a8.kp) (zqt 13 rfl (ynk rfl) (a8.kp) (zqt 14 rfl (yfa fl74_7 rfl) (a8.kp) (qT 15 rfl (fun _ hS => (by first | exact yld U72 rfl rfl (hS.blk O2.blk O2.ne.2.1.symm) rfl | exact yld U72 rfl rfl (hS.blk (ad.blk aq) A2) rfl)) (a8.kp) ?_)))))
 refine zqt 16 rfl (ymv rfl) (a8.kp) (zqt 17 rfl (ynk rfl) (a8.kp) (zqt 18 rfl (yfa fl84_3 rfl) (a8.kp) (qT 19 rfl (fun _ hS => (by first | exact yld U82 rfl rfl (hS.blk O2.blk O2.ne.2.1.symm) rfl | exact yld U82 rfl rfl (hS.blk (ad.blk aq) A2) rfl)) (a8.kp) ?_)))
 refine zqt 20 rfl (ymv rfl) (a8.kp) (zqt 21 rfl (yad rfl rfl (by omega)) (a8.kp) (zqt 22 rfl (yis U82 ti89 rfl rfl (by omega)) (a8.kp) (qT 10 rfl (fun _ hS => yldc U89 rfl rfl (rd_u32 ((wJ.kp hS (fun g hg e => E5 (by have e1 : gc = g := oinj hg; rw [e1]; exact e))).rd) (by omega) mr)) (a8.kp) ?_)))
 refine zqt 11 rfl (ycvSi64 rfl U89 U3 (by omega)) (a8.kp) (qT 23 rfl (fun _ hS => yldc U89 rfl rfl (rd_u32 ((wJ.kp hS (fun g hg e => E5 (by have e1 : gc = g := oinj hg; rw [e1]; exact e))).rd) (by omega) aZ)) (a8.kp) ?_)
 refine zqt 24 rfl (ycvSi64 rfl U89 U3 (by omega)) (a8.kp) (qO 25 (nValP (i := 25) rfl rfl rfl (pme (k := (y : Int)) (K := KZ) U72 (ky_int U3) ti3 rfl rfl (O2.cm.kp a8 id)) ?_))
 rintro _ w3 ⟨be, rfl, mF, ak⟩
 refine ⟨a8.kp.trans ak, ?_⟩
 refine zqt 26 rfl (yex rfl rfl) (a8.kp.trans ak) (qO 27 (nEffP (i := 27) rfl rfl (zes rfl rfl rfl mF) ?_))
 rintro w4 ⟨i3, ax⟩
 refine ⟨(a8.kp.trans ak).trans ax, ?_⟩
 refine qO 28 (nValP (i := 28) rfl rfl rfl (pme (k := (x : Int)) (K := KZ) U72 (ky_int U3) ti3 rfl rfl i3) ?_)
 rintro _ w5 ⟨be2, rfl, FX, aY⟩
 refine ⟨((a8.kp.trans ak).trans ax).trans aY, ?_⟩
 refine zqt 29 rfl (yex rfl rfl) (((a8.kp.trans ak).trans ax).trans aY) (qO 30 (nEffP (i := 30) rfl rfl (zes rfl rfl rfl FX) ?_))
 rintro w6 ⟨gm, bP⟩
 refine ⟨(((a8.kp.trans ak).trans ax).trans aY).trans bP, ?_⟩
 refine qE (Run.qb (e := [(0, _), (7, _)]) ?_)
 refine run_seq (qN rfl (qV (yfa fl146_2 rfl) ?_))
 have aD : Kp (fun k => k = mC2) w2 w6 := (((a8.kp.trans ak).trans ax).trans aY).trans bP
 have h6 := O2.setC w6 _ (updI (updI T.changed y true) x true) gm aD (fun z => by
  by_cases e : z = (x : Int)
  ·rw [getL_put, if_pos e]; subst e; simp [flag, updI]
  ·rw [getL_put, if_neg e, getL_put, if_neg e]; by_cases e2 : z = (y : Int)
   ·rw [getL_put, if_pos e2]; have : updI (updI T.changed y true) x true z = true := by simp [updI, e2]
    rw [this]
    rfl
   ·rw [getL_put, if_neg e2, getL_put, if_neg e2, O2.cg]; have : updI (updI T.changed y true) x true z = T.changed z := by simp [updI, e, e2]
    rw [this])
 have jb : Kp F w w6 := ad.kp.trans (aD.mono' (fun k hk => by rw [hk]; exact O2.fp.2.2.1))
 have bT := aD.blk ay FW
 have cG := nW w6 h6 jb
 obtain ⟨q1, dM, bC, je, -⟩ := h6.node (n := ny) (no := (y : Int)) h1
 have fu := bC.blk
 rw [dM] at fu
 refine qV ((by first | exact yld U81 rfl rfl bT rfl | exact yld U81 rfl rfl fu rfl)) ?_
 refine qV (ynk rfl) (qV (yfa fl84_0 rfl) (qV ((by first | exact yld U4 rfl rfl bT rfl | exact yld U4 rfl rfl fu rfl)) ?_))
 refine rEnd (run_cond rfl (fun hl => ?_) (fun hl => ?_))
 ·rw [if_pos hl] at cG; refine qN rfl (zqm rfl (qV ((by first | exact yldA U146 rfl ti146 rfl (Blk.cells (n := 4) bT (news := [_, _, _, _]) rfl) rfl | exact yldA U146 rfl ti146 rfl (Blk.cells (n := 4) fu (news := [_, _, _, _]) rfl) rfl)) ?_)); refine zqc [.tmp 75, .tmp 76] cf104 rfl (cG) ?_; rintro _ w7 ⟨rfl, hR⟩; refine rEnd (run_ret Tryz.func78 rfl ?_); exact ⟨_, rfl, rfl, hR⟩
 ·rw [if_neg (by rw [hl]; decide)] at cG; refine run_skip (run_reg rfl (zqm rfl (qV ((by first | exact yldA U146 rfl ti146 rfl (Blk.cells (n := 4) bT (news := [_, _, _, _]) rfl) rfl | exact yldA U146 rfl ti146 rfl (Blk.cells (n := 4) fu (news := [_, _, _, _]) rfl) rfl)) ?_))); refine zqc [.tmp 78, .tmp 79] cf105 rfl (cG) ?_; rintro _ w7 ⟨rfl, hR⟩; refine rEnd (run_end Tryz.func78 rfl ?_); exact ⟨_, rfl, rfl, hR⟩
end
section
variable {w : World}
theorem even_aux {p : Nat} {nb : Int → Nat} {F : Nat → Prop} {X : Tr → Prop} {w1 w2 w' : World} {v : Value} (am : Kp F w1 w2) (hv : v = .tuple #[] ∧ ∃ T' F', TreeA w' p T' nb F' ∧ X T' ∧ Kp F w2 w' ∧ ∀ k, F' k → F k ∨ w2.heap.size ≤ k) : v = .tuple #[] ∧ ∃ T' F', TreeA w' p T' nb F' ∧ X T' ∧ Kp F w1 w' ∧ ∀ k, F' k → F k ∨ w1.heap.size ≤ k := by
 obtain ⟨e, T', F', a, b, c, d⟩ := hv
 have := am.size
 exact ⟨e, T', F', a, b, am.trans c, fun k hk => (d k hk).elim .inl (fun e => .inr (by omega))⟩
set_option maxHeartbeats 2000000 in
theorem even_ret {p : Nat} {T : Tr} {nb : Int → Nat} {F : Nat → Prop} (h : TreeA w p T nb F) {no : Int} {c x y z k : Nat} {ps : List (Bytes × Nat)} {up : Bytes} {ny nx nz : Nd} (hn : T.nodes no = some (innNd c ps)) (hk : k ≤ ps.length) (FY : (c :: ps.map (·.2))[k]? = some z) (hz : T.nodes (z : Int) = some nz) (hi : ps[k - 1]? = some (up, x)) (hy : (c :: ps.map (·.2))[k - 1]? = some y) (h1 : T.nodes (y : Int) = some ny) (h2 : T.nodes (x : Int) = some nx) {X : Tr → Prop}
  (nW : nz.low T.size → ∀ w1, TreeA w1 p ((T.mark y).mark x) nb F → Ret Tryz.prog (if ny.leaf then 104 else 105) [ptr p 0, .agg #[ptr (nb no) 0, I ((k - 1 : Nat) : Int), ptr (nb y) 0, ptr (nb x) 0]] w1 fun v w' => v = .tuple #[] ∧ ∃ T' F', TreeA w' p T' nb F' ∧ X T' ∧ Kp F w1 w' ∧ ∀ k, F' k → F k ∨ w1.heap.size ≤ k) :
  Ret Tryz.prog 47 [ptr p 0, I no, I (k : Int)] w fun v w' => v = .tuple #[] ∧ ((¬ nz.low T.size ∧ Ext w w') ∨ (nz.low T.size ∧ ∃ T' F', TreeA w' p (T'.mark no) nb F' ∧ X T' ∧ Kp F w w' ∧ ∀ k, F' k → F k ∨ w.heap.size ≤ k)) := by
 obtain ⟨mN, mC, mO, gv, kn, kc, ko, O⟩ := h.opn
 obtain ⟨qn, lk, ip, tj, -⟩ := h.node hn
 obtain ⟨qz, E6, Bm, FZ, -⟩ := h.node hz
 obtain ⟨nb', nk, nv, nc⟩ := qn
 obtain ⟨zb, zk, zv, zc⟩ := qz
 dsimp only at lk E6
 subst lk
 subst E6
 have aq := ip.blk
 have gL := ip.kids
 have bA := ip.bd
 have jR := Bm.blk
 dsimp only at aq gL jR
 have kcl : (innNd c ps).kids.length = ps.length + 1 := by simp [innNd]
 rw [kcl] at gL
 obtain ⟨gc, cc, rfl⟩ := some_of gL (by omega)
 have gy : (innNd c ps).kids[k]? = some z := FY
 have Io := bA.cs z (List.mem_of_getElem? gy)
 have dl : ps.length ≤ 100000 := by have := bA.cl; omega
 refine ret_of_run (e := [(0, _), (1, _), (2, _)]) Tryz.func47 rfl Tryz.ntmps47 rfl rfl (qN rfl (zqm rfl (qV (ynk rfl) (qV (yfa fl74_5 rfl) (qV (yld U71 rfl rfl O.blk rfl) (zqm rfl (qV (ylk (k := no) (K := KZ) U71 (ky_int U3) ti81 rfl rfl O.nm.l) ?_)))))))
 rw [O.ng no, hn]
 refine zqa rfl (rEnd (run_seq ?_))
 have a7 := Ext.drew0 w
 refine run_draw (fun w' => Ext w w') (by kernel_rfl) rfl (zqt 0 rfl (ymv rfl) a7 (zqt 1 rfl (ymv rfl) a7 (zqt 2 rfl (ynk rfl) a7 (zqt 3 rfl (yfa fl74_5 rfl) a7 (qT 4 rfl (fun _ h=>(by first | exact yld U71 rfl rfl (h.blk O.blk) rfl | exact yld U71 rfl rfl (h.blk aq) rfl)) a7 ?_)))))
 refine zqt 5 rfl (ymv rfl) a7 (zqt 6 rfl (ynk rfl) a7 (zqt 7 rfl (yfa fl84_3 rfl) a7 (qT 8 rfl (fun _ h=>(by first | exact yld U82 rfl rfl (h.blk O.blk) rfl | exact yld U82 rfl rfl (h.blk aq) rfl)) a7 ?_)))
 refine zqt 9 rfl (ymv rfl) a7 (zqt 10 rfl (yis U82 ti89 rfl rfl (by omega)) a7 (qT 11 rfl (fun _ hS => yldc U89 rfl rfl (rd_u32 ((gL.ext hS).rd) (by omega) gy)) a7 (zqt 12 rfl (ycvSi64 rfl U89 U3 (by omega)) a7 (qT 13 rfl (fun _ h=>ylk (k := (z : Int)) (K := KZ) U71 (ky_int U3) ti81 rfl rfl (h.map O.nm.l)) a7 ?_))))
 rw [O.ng (z : Int), hz]
 refine zqo 14 [.tmp 13, .tmp 26] rfl cf77 rfl (low_ret (a7.blk O.blk) O.z (a7.blk jR) (Bm.r.ext a7) Bm.bd) ?_
 rintro _ w1 ⟨rfl, aa⟩
 refine ⟨a7.trans aa, ?_⟩
 refine qE (Run.qb (e := [(0, _), (1, _), (2, _), (6, _), (27, _)]) ?_)
 have q8 : Ext w w1 := a7.trans aa
 have G0 := q8.size
 refine run_cond rfl (fun hl => ?_) (fun hl => ?_)
 ·have bL : nz.low T.size := of_decide_eq_true hl; refine qN rfl (zqm rfl (zqm rfl (zqm rfl (zqc [.tmp 28, .tmp 29, .tmp 30] cf78 rfl (fill_ret (h.ext q8) hn hk hi hy h1 h2 (R := fun v w' => ∃ T' F', TreeA w' p T' nb F' ∧ X T' ∧ Kp F w1 w' ∧ ∀ k, F' k → F k ∨ w1.heap.size ≤ k) (fun w2 fQ am => Ret.mono (nW bL w2 fQ) (fun v w' hv => even_aux am hv))) ?_)))); rintro _ w3 ⟨rfl, T', F', nE, hX, ak, i0⟩; obtain ⟨mN3, mC3, mO3, gv3, kn3, kc3, ko3, O3⟩ := nE.opn; refine rEnd (run_reg rfl (zqm rfl (qV (ynk rfl) (qV (yfa fl74_7 rfl) (qV (yld U72 rfl rfl O3.blk rfl) (zqm rfl (rEffP rfl (zmuB (k := no) (K := KZ) U72 (ky_int U3) rfl rfl rfl O3.cm) ?_))))))); rintro w4 ⟨i3, ax⟩; refine rEnd (run_end Tryz.func47 rfl ?_)
  have h4 := O3.setC w4 _ (updI T'.changed no true) i3 ax (fun x => by
   rw [getL_put]; by_cases e : x = no
   ·subst e; simp [flag, updI]
   ·rw [if_neg e, O3.cg]; simp [updI, e])
  refine ⟨_, rfl, rfl, .inr ⟨bL, T', F', h4, hX, ?_, fun k hk => (i0 k hk).elim .inl (fun e => .inr (by omega))⟩⟩; exact (q8.kp.trans ak).trans_new ax (fun i hi => by rw [hi]; exact ((i0 _ O3.fp.2.2.1).elim .inr (fun e => .inl (by omega))))
 ·have bL : ¬ nz.low T.size := of_decide_eq_false hl; refine run_skip (run_end Tryz.func47 rfl ?_); exact ⟨_, rfl, rfl, .inl ⟨bL, q8⟩⟩
end
section
variable {w : World}
theorem rootT_ret {p : Nat} {T : Tr} {nb : Int → Nat} {F : Nat → Prop} (h : TreeA w p T nb F) : Ret Tryz.prog 21 [ptr p 0] w fun v w' => v = I T.root ∧ w' = w := by
 obtain ⟨mN, mC, mO, gv, kn, kc, ko, O⟩ := h.opn
 refine ret_of_run (e := [(0, _)]) Tryz.func21 rfl Tryz.ntmps21 rfl rfl (qN rfl (zqa rfl (rEnd (run_seq (qN rfl (zqm rfl (qV (yeqpN U24 rfl rfl) (rEnd (run_false rfl (run_skip (qN rfl (zqm rfl (qV (ynk rfl) ?_)))))))))))))
 refine qV (yfa fl74_1 rfl) (qV (yld U3 rfl rfl O.blk rfl) (zqa rfl (rEnd (run_ret Tryz.func21 rfl ?_))))
 exact ⟨_, rfl, rfl, rfl⟩
theorem lenT_ret {p : Nat} {T : Tr} {nb : Int → Nat} {F : Nat → Prop} (h : TreeA w p T nb F) : Ret Tryz.prog 14 [ptr p 0] w fun v w' => v = I (T.count : Int) ∧ w' = w := by
 obtain ⟨mN, mC, mO, gv, kn, kc, ko, O⟩ := h.opn
 refine ret_of_run (e := [(0, _)]) Tryz.func14 rfl Tryz.ntmps14 rfl rfl (qN rfl (zqa rfl (rEnd (run_seq (qN rfl (zqm rfl (qV (yeqpN U24 rfl rfl) (rEnd (run_false rfl (run_skip (qN rfl (zqm rfl (qV (ynk rfl) ?_)))))))))))))
 refine qV (yfa fl74_4 rfl) (qV (yld U3 rfl rfl O.blk rfl) (zqa rfl (rEnd (run_ret Tryz.func14 rfl ?_))))
 exact ⟨_, rfl, rfl, rfl⟩
end
section
variable {w : World}
set_option maxHeartbeats 2000000 in
theorem settle_leaf0 {p : Nat} {T : Tr} {nb : Int → Nat} {F : Nat → Prop} (h : TreeA w p T nb F) (hn : T.nodes T.root = some (leafNd [])) (d8 : T.given.length ≤ 4294967296) :
  Ret Tryz.prog 48 [ptr p 0] w fun v w' => v = .tuple #[] ∧ ∃ F', TreeA w' p { T.dropN T.root with root := 0 } nb F' ∧ Kp F w w' ∧ ∀ k, F' k → F k ∨ w.heap.size ≤ k := by
 obtain ⟨mN, mC, mO, gv, kn, kc, ko, O⟩ := h.opn
 obtain ⟨q, hq, hM, eY, -⟩ := h.node hn
 obtain ⟨b, kv, vv, cv⟩ := q
 dsimp only at hq
 subst hq
 obtain ⟨ka, kc', rfl, -⟩ := hM.r.keys.shape
 have hB := hM.blk
 dsimp only at hB
 refine ret_of_run (e := [(0, _)]) Tryz.func48 rfl Tryz.ntmps48 rfl rfl ?_
 have a7 := Ext.drew0 w
 refine run_seq (run_draw (fun w' => Ext w w') (by kernel_rfl) rfl (zqt 0 rfl (ymv rfl) a7 (zqt 1 rfl (ynk rfl) a7 (zqt 2 rfl (yfa fl74_5 rfl) a7 (qT 3 rfl (fun _ h=>yld U71 rfl rfl (h.blk O.blk) rfl) a7 (zqt 4 rfl (ymv rfl) a7 (zqt 5 rfl (ynk rfl) a7 (zqt 6 rfl (yfa fl74_1 rfl) a7 (qT 7 rfl (fun _ h=>yld U3 rfl rfl (h.blk O.blk) rfl) a7 (qT 8 rfl (fun _ h=>ylk (k := T.root) (K := KZ) U71 (ky_int U3) ti81 rfl rfl (h.map O.nm.l)) a7 ?_))))))))))
 rw [show (getL kn T.root).getD (.pointer none) = ptr (nb T.root) 0 by rw [O.ng T.root, hn]; rfl]
 refine zqt 9 rfl (yas rfl) a7 (qE (run_block (qN rfl (zqm rfl (qV (ynk rfl) (qV (yfa fl84_0 rfl) ?_))))))
 have aj := a7.blk hB
 refine qV (yld U4 rfl rfl aj rfl) (zqm rfl (zqm rfl (qV (ynk rfl) (qV (yfa fl84_1 rfl) (qV (yld U23 rfl rfl aj rfl) (qV (yln U23 rfl) (qV (yeq rfl rfl) (qV (ypT rfl rfl) (zqa rfl (rEnd (run_if rfl (fun h0 => ?_) (fun h0 => ?_))))))))))))
 ·have wK := a7.blk O.blk; refine qN rfl (zqm rfl (zqm rfl (qV (ynk rfl) (qV (yfa fl74_1 rfl) (qV (yld U3 rfl rfl wK rfl) (zqc [.tmp 25, .tmp 29] cf79 rfl (drop_ret (h.ext a7) T.root d8) ?_)))))); rintro _ w2 ⟨rfl, F2, fQ, am, ce, -⟩; obtain ⟨mN2, mC2, mO2, gv2, kn2, kc2, ko2, O2⟩ := fQ.opn; refine rEnd (Run.qb (e := [(0, _)]) ?_); refine run_reg rfl (zqm rfl (qV (ynk rfl) (qV (yfa fl74_1 rfl) (rEffP rfl (zst ti3 rfl rfl rfl O2.blk (by simp [trCs])) ?_)))); rintro w3 ⟨aN, ak⟩; refine rEnd (run_inBlock (run_end Tryz.func48 rfl ?_)); have h3 := O2.setB w3 0 T.count aN ak; refine ⟨_, rfl, rfl, F2, h3, (a7.kp.trans am).trans_new ak (fun i hi => by rw [hi]; exact (ce _ O2.fp.1).symm), ce⟩
 ·exact absurd rfl h0
set_option maxHeartbeats 2000000 in
theorem settle_inn1 {p c : Nat} {T : Tr} {nb : Int → Nat} {F : Nat → Prop} (h : TreeA w p T nb F) (hn : T.nodes T.root = some (innNd c [])) (d8 : T.given.length ≤ 4294967296) :
  Ret Tryz.prog 48 [ptr p 0] w fun v w' => v = .tuple #[] ∧ ∃ F', TreeA w' p { T.dropN T.root with root := (c : Int) } nb F' ∧ Kp F w w' ∧ ∀ k, F' k → F k ∨ w.heap.size ≤ k := by
 obtain ⟨mN, mC, mO, gv, kn, kc, ko, O⟩ := h.opn
 obtain ⟨q, hq, hM, eY, -⟩ := h.node hn
 obtain ⟨b, kv, vv, cv⟩ := q
 dsimp only at hq
 subst hq
 have hC := hM.kids
 dsimp only at hC
 obtain ⟨gc, cc', rfl⟩ := some_of hC (by simp [innNd])
 have hB := hM.blk
 dsimp only at hB
 refine ret_of_run (e := [(0, _)]) Tryz.func48 rfl Tryz.ntmps48 rfl rfl ?_
 have a7 := Ext.drew0 w
 refine run_seq (run_draw (fun w' => Ext w w') (by kernel_rfl) rfl (zqt 0 rfl (ymv rfl) a7 (zqt 1 rfl (ynk rfl) a7 (zqt 2 rfl (yfa fl74_5 rfl) a7 (qT 3 rfl (fun _ h=>yld U71 rfl rfl (h.blk O.blk) rfl) a7 (zqt 4 rfl (ymv rfl) a7 (zqt 5 rfl (ynk rfl) a7 (zqt 6 rfl (yfa fl74_1 rfl) a7 (qT 7 rfl (fun _ h=>yld U3 rfl rfl (h.blk O.blk) rfl) a7 (qT 8 rfl (fun _ h=>ylk (k := T.root) (K := KZ) U71 (ky_int U3) ti81 rfl rfl (h.map O.nm.l)) a7 ?_))))))))))
 rw [show (getL kn T.root).getD (.pointer none) = ptr (nb T.root) 0 by rw [O.ng T.root, hn]; rfl]
 refine zqt 9 rfl (yas rfl) a7 (qE (run_block (qN rfl (zqm rfl (qV (ynk rfl) (qV (yfa fl84_0 rfl) ?_))))))
 have aj := a7.blk hB
 refine qV (yld U4 rfl rfl aj rfl) (zqm rfl (qS (qS (qS (qS (qS (qS (qV (ypF rfl rfl) (zqa rfl (rEnd (run_false rfl (qN rfl (zqm rfl ?_)))))))))))))
 refine qV (ynk rfl) (qV (yfa fl84_0 rfl) (qV (yld U4 rfl rfl aj rfl) (qV ((by first | exact yntd rfl | exact ynt rfl)) ?_)))
 refine zqm rfl (zqm rfl (qV (ynk rfl) (qV (yfa fl84_3 rfl) (qV (yld U82 rfl rfl aj rfl) (qV (yln U82 rfl) (qV (yeq rfl rfl) (qV (ypT rfl rfl) (zqa rfl (rEnd (Run.qb (e := [(0, _), (2, _), (34, _)]) ?_))))))))))
 refine run_if rfl (fun h0 => ?_) (fun h0 => ?_)
 ·have wK := a7.blk O.blk; refine qN rfl (zqm rfl (zqm rfl (qV (ynk rfl) (qV (yfa fl74_1 rfl) (qV (yld U3 rfl rfl wK rfl) (zqc [.tmp 48, .tmp 52] cf79 rfl (drop_ret (h.ext a7) T.root d8) ?_)))))); rintro _ w2 ⟨rfl, F2, fQ, am, ce, A3⟩; obtain ⟨mN2, mC2, mO2, gv2, kn2, kc2, ko2, O2⟩ := fQ.opn; have cf := A3 T.root _ _ hn (hM.kp a7 (fun _ _ => id)) rfl; have ay := cf.blk; dsimp only at ay; have G1 := cf.bd.cs c (by simp [innNd]); refine rEnd (run_reg rfl (zqm rfl (zqm rfl (qV (ynk rfl) (qV (yfa fl84_3 rfl) (qV ((by first | exact yld U82 rfl rfl O2.blk rfl | exact yld U82 rfl rfl ay rfl)) ?_)))))); refine qV (yis U82 ti89 rfl rfl (by omega)) (qV (yldc U89 rfl rfl (rd_u32 (s := c) (cf.kids.rd) (by simp [innNd]) (by simp [innNd]))) ?_); refine qV (ycvSi64 rfl U89 U3 (by omega)) (qV (ynk rfl) (qV (yfa fl74_1 rfl) (rEffP rfl (zst ti3 rfl rfl rfl O2.blk (by simp [trCs])) ?_))); rintro w3 ⟨aN, ak⟩; refine rEnd (run_inBlock (run_end Tryz.func48 rfl ?_)); have h3 := O2.setB w3 c T.count aN ak; refine ⟨_, rfl, rfl, F2, h3, (a7.kp.trans am).trans_new ak (fun i hi => by rw [hi]; exact (ce _ O2.fp.1).symm), ce⟩
 ·exact absurd rfl h0
set_option maxHeartbeats 2000000 in
theorem settle_leafS {p : Nat} {E : Es} {T : Tr} {nb : Int → Nat} {F : Nat → Prop} (h : TreeA w p T nb F) (hn : T.nodes T.root = some (leafNd E)) (hE : E ≠ []) :
  Ret Tryz.prog 48 [ptr p 0] w fun v w' => v = .tuple #[] ∧ Ext w w' := by
 obtain ⟨mN, mC, mO, gv, kn, kc, ko, O⟩ := h.opn
 obtain ⟨q, hq, hM, eY, -⟩ := h.node hn
 obtain ⟨b, kv, vv, cv⟩ := q
 dsimp only at hq
 subst hq
 obtain ⟨ka, kc', rfl, -⟩ := hM.r.keys.shape
 have hB := hM.blk
 dsimp only at hB
 refine ret_of_run (e := [(0, _)]) Tryz.func48 rfl Tryz.ntmps48 rfl rfl ?_
 have a7 := Ext.drew0 w
 refine run_seq (run_draw (fun w' => Ext w w') (by kernel_rfl) rfl (zqt 0 rfl (ymv rfl) a7 (zqt 1 rfl (ynk rfl) a7 (zqt 2 rfl (yfa fl74_5 rfl) a7 (qT 3 rfl (fun _ h=>yld U71 rfl rfl (h.blk O.blk) rfl) a7 (zqt 4 rfl (ymv rfl) a7 (zqt 5 rfl (ynk rfl) a7 (zqt 6 rfl (yfa fl74_1 rfl) a7 (qT 7 rfl (fun _ h=>yld U3 rfl rfl (h.blk O.blk) rfl) a7 (qT 8 rfl (fun _ h=>ylk (k := T.root) (K := KZ) U71 (ky_int U3) ti81 rfl rfl (h.map O.nm.l)) a7 ?_))))))))))
 rw [show (getL kn T.root).getD (.pointer none) = ptr (nb T.root) 0 by rw [O.ng T.root, hn]; rfl]
 refine zqt 9 rfl (yas rfl) a7 (qE (run_block (qN rfl (zqm rfl (qV (ynk rfl) (qV (yfa fl84_0 rfl) ?_))))))
 have aj := a7.blk hB
 refine qV (yld U4 rfl rfl aj rfl) (zqm rfl (zqm rfl (qV (ynk rfl) (qV (yfa fl84_1 rfl) (qV (yld U23 rfl rfl aj rfl) (qV (yln U23 rfl) (qV (yeq rfl rfl) (qV (ypT rfl rfl) (zqa rfl (rEnd (run_if rfl (fun h0 => ?_) (fun h0 => ?_))))))))))))
 ·exact absurd (List.length_eq_zero_iff.1 (by have : ((leafNd E).keys.length : Int) = 0 := h0; simp [leafNd] at this; simpa using this)) hE
 ·refine qN rfl (zqm rfl (qV (ynk rfl) (qV (yfa fl84_0 rfl) (qV (yld U4 rfl rfl aj rfl) (qV ((by first | exact yntd rfl | exact ynt rfl)) ?_))))); refine zqm rfl (qS (qS (qS (qS (qS (qS (qV (ypF rfl rfl) (zqa rfl (rEnd (Run.qb (e := [(0, _), (2, _), (34, _)]) ?_)))))))))); refine run_false rfl (run_skip (run_inBlock (run_end Tryz.func48 rfl ?_))); exact ⟨_, rfl, rfl, a7⟩
set_option maxHeartbeats 2000000 in
theorem settle_innS {p c : Nat} {ps : List (Bytes × Nat)} {T : Tr} {nb : Int → Nat} {F : Nat → Prop} (h : TreeA w p T nb F) (hn : T.nodes T.root = some (innNd c ps)) (hE : ps ≠ []) :
  Ret Tryz.prog 48 [ptr p 0] w fun v w' => v = .tuple #[] ∧ Ext w w' := by
 obtain ⟨mN, mC, mO, gv, kn, kc, ko, O⟩ := h.opn
 obtain ⟨q, hq, hM, eY, -⟩ := h.node hn
 obtain ⟨b, kv, vv, cv⟩ := q
 dsimp only at hq
 subst hq
 have hC := hM.kids
 dsimp only at hC
 obtain ⟨gc, cc', rfl⟩ := some_of hC (by simp [innNd])
 have hB := hM.blk
 dsimp only at hB
 refine ret_of_run (e := [(0, _)]) Tryz.func48 rfl Tryz.ntmps48 rfl rfl ?_
 have a7 := Ext.drew0 w
 refine run_seq (run_draw (fun w' => Ext w w') (by kernel_rfl) rfl (zqt 0 rfl (ymv rfl) a7 (zqt 1 rfl (ynk rfl) a7 (zqt 2 rfl (yfa fl74_5 rfl) a7 (qT 3 rfl (fun _ h=>yld U71 rfl rfl (h.blk O.blk) rfl) a7 (zqt 4 rfl (ymv rfl) a7 (zqt 5 rfl (ynk rfl) a7 (zqt 6 rfl (yfa fl74_1 rfl) a7 (qT 7 rfl (fun _ h=>yld U3 rfl rfl (h.blk O.blk) rfl) a7 (qT 8 rfl (fun _ h=>ylk (k := T.root) (K := KZ) U71 (ky_int U3) ti81 rfl rfl (h.map O.nm.l)) a7 ?_))))))))))
 rw [show (getL kn T.root).getD (.pointer none) = ptr (nb T.root) 0 by rw [O.ng T.root, hn]; rfl]
 refine zqt 9 rfl (yas rfl) a7 (qE (run_block (qN rfl (zqm rfl (qV (ynk rfl) (qV (yfa fl84_0 rfl) ?_))))))
 have aj := a7.blk hB
 refine qV (yld U4 rfl rfl aj rfl) (zqm rfl (qS (qS (qS (qS (qS (qS (qV (ypF rfl rfl) (zqa rfl (rEnd (run_false rfl (qN rfl (zqm rfl ?_)))))))))))))
 refine qV (ynk rfl) (qV (yfa fl84_0 rfl) (qV (yld U4 rfl rfl aj rfl) (qV ((by first | exact yntd rfl | exact ynt rfl)) ?_)))
 refine zqm rfl (zqm rfl (qV (ynk rfl) (qV (yfa fl84_3 rfl) (qV (yld U82 rfl rfl aj rfl) (qV (yln U82 rfl) (qV (yeq rfl rfl) (qV (ypT rfl rfl) (zqa rfl (rEnd (Run.qb (e := [(0, _), (2, _), (34, _)]) ?_))))))))))
 refine run_if rfl (fun h0 => ?_) (fun h0 => ?_)
 ·have A4 : ((innNd c ps).kids.length : Int) = 1 := h0; simp [innNd] at A4; exact absurd (List.length_eq_zero_iff.1 (by omega)) hE
 ·refine run_skip (run_inBlock (run_end Tryz.func48 rfl ?_)); exact ⟨_, rfl, rfl, a7⟩
end

theorem sortZ_perm (l : List Int) : (sortZ l).Perm l := List.mergeSort_perm ..
theorem sortZ_mem {l : List Int} {x : Int} : x ∈ sortZ l ↔ x ∈ l := (sortZ_perm l).mem_iff
theorem sortZ_len (l : List Int) : (sortZ l).length = l.length := (sortZ_perm l).length_eq
theorem sortZ_le (l : List Int) : (sortZ l).Pairwise (· ≤ ·) := by
 have := List.pairwise_mergeSort (le := fun x y : Int => decide (x ≤ y)) (fun a b c h1 h2 => by simp at h1 h2 ⊢; omega) (fun a b => by simp; omega) l
 exact this.imp (fun h => by simpa using h)
theorem sortZ_lt {l : List Int} (h : l.Nodup) : (sortZ l).Pairwise (· < ·) := by
 have h1 := sortZ_le l
 have h2 : (sortZ l).Nodup := (sortZ_perm l).nodup_iff.2 h
 exact (h1.and h2).imp (fun ⟨a, b⟩ => by omega)
theorem nodup_of_lt {l : List Int} (h : l.Pairwise (· < ·)) : l.Nodup := h.imp (fun h => by omega)
structure GivS (T : Tr) : Prop where
 rise : T.given.Pairwise (· < ·)
 free : ∀ x ∈ T.given, T.nodes x = none ∧ T.old x = false
structure Evo (T T' : Tr) (g : Nat) : Prop where
 size : T'.size = T.size
 old : T'.old = T.old
 root : T'.root = T.root
 len : T.given.length ≤ T'.given.length + g
 giv : ∀ x ∈ T'.given, x ∈ T.given ∨ (T.nodes x ≠ none ∧ T.old x = false)
 nod : ∀ x, T'.nodes x ≠ none → T.nodes x ≠ none ∨ x ∈ T.given
 srt : GivS T'
 chg : ∀ x, T'.changed x = false → T'.nodes x = none ∨ (T'.nodes x = T.nodes x ∧ T.changed x = false)
theorem Evo.refl {T : Tr} (h : GivS T) : Evo T T 0 := ⟨rfl, rfl, rfl, by omega, fun x hx => .inl hx, fun x hx => .inl hx, h, fun x hx => .inr ⟨rfl, hx⟩⟩
theorem Evo.trans {T T1 T2 : Tr} {a b : Nat} (h1 : Evo T T1 a) (h2 : Evo T1 T2 b) : Evo T T2 (a + b) where
 size := h2.size.trans h1.size
 old := h2.old.trans h1.old
 root := h2.root.trans h1.root
 len := by have := h1.len; have := h2.len; omega
 giv := fun x hx => by
  rcases h2.giv x hx with h | ⟨h, ho⟩
  ·exact h1.giv x h
  ·rw [h1.old] at ho; rcases h1.nod x h with h | h
   ·exact .inr ⟨h, ho⟩
   ·exact .inl h
 nod := fun x hx => by
  rcases h2.nod x hx with h | h
  ·exact h1.nod x h
  ·exact (h1.giv x h).elim .inr (fun h => .inl h.1)
 srt := h2.srt
 chg := fun x hx => by
  rcases h2.chg x hx with h | ⟨h, hc⟩
  ·exact .inl h
  ·rcases h1.chg x hc with h' | ⟨h', r5⟩
   ·exact .inl (h.trans h')
   ·exact .inr ⟨h.trans h', r5⟩
theorem Evo.mono {T T' : Tr} {a b : Nat} (h : Evo T T' a) (dY : a ≤ b) : Evo T T' b := ⟨h.size, h.old, h.root, by have := h.len; omega, h.giv, h.nod, h.srt, h.chg⟩
theorem updI_eq {α : Type} (f : Int → α) (k : Int) (v : α) (x : Int) : updI f k v x = if x = k then v else f x := rfl
theorem Evo.set {T : Tr} {no : Int} {n m : Nd} (hg : GivS T) (hn : T.nodes no = some m) : Evo T ((T.setN no n).mark no) 0 where
 size := rfl
 old := rfl
 root := rfl
 len := Nat.le_refl _
 giv := fun x hx => .inl hx
 nod := fun x hx => by
  by_cases e : x = no
  ·subst e; rw [hn]; exact .inl (by simp)
  ·exact .inl (by intro h; exact hx (by show updI T.nodes no (some n) x = none; rw [updI_ne e]; exact h))
 srt := ⟨hg.rise, fun x hx => by
  have := hg.free x hx; refine ⟨?_, this.2⟩; show updI T.nodes no (some n) x = none
  rw [updI_ne (fun e => by subst e; rw [hn] at this; cases this.1)]; exact this.1⟩
 chg := fun x hx => by
  have aZ : (if x = no then true else T.changed x) = false := hx; by_cases e : x = no
  ·rw [if_pos e] at aZ; cases aZ
  ·rw [if_neg e] at aZ; exact .inr ⟨updI_ne e, aZ⟩
theorem Evo.mark {T : Tr} {no : Int} {m : Nd} (hg : GivS T) (hn : T.nodes no = some m) : Evo T (T.mark no) 0 := by
 have e : T.mark no = (T.setN no m).mark no := by
  show _ = ({ T with nodes := updI T.nodes no (some m), changed := updI T.changed no true } : Tr); have : updI T.nodes no (some m) = T.nodes := by funext x; rw [updI_eq]; split <;> simp_all
  rw [this]; rfl
 rw [e]; exact Evo.set hg hn
theorem Evo.fresh {T : Tr} {no : Int} {gs : List Int} {n : Nd} (hg : GivS T) (h : T.given = no :: gs) : Evo T ((({ T with given := gs } : Tr).setN no n).mark no) 1 where
 size := rfl
 old := rfl
 root := rfl
 len := by rw [h]; exact Nat.le_refl _
 giv := fun x hx => .inl (by rw [h]; exact List.mem_cons_of_mem _ hx)
 nod := fun x hx => by
  by_cases e : x = no
  ·exact .inr (by rw [h, e]; simp)
  ·exact .inl (by intro h'; exact hx (by show updI T.nodes no (some n) x = none; rw [updI_ne e]; exact h'))
 srt := by
  have h1 := hg.rise; rw [h] at h1; obtain ⟨h2, h3⟩ := List.pairwise_cons.1 h1; refine ⟨h3, fun x hx => ?_⟩; have := hg.free x (by rw [h]; exact List.mem_cons_of_mem _ hx); refine ⟨?_, this.2⟩; have := h2 x hx; show updI T.nodes no (some n) x = none; rw [updI_ne (by omega)]; exact (hg.free x (by rw [h]; exact List.mem_cons_of_mem _ hx)).1
 chg := fun x hx => by
  have aZ : (if x = no then true else T.changed x) = false := hx; by_cases e : x = no
  ·rw [if_pos e] at aZ; cases aZ
  ·rw [if_neg e] at aZ; exact .inr ⟨updI_ne e, aZ⟩
theorem Evo.drop {T : Tr} {no : Int} {m : Nd} (hg : GivS T) (hn : T.nodes no = some m) : Evo T (T.dropN no) 0 where
 size := rfl
 old := rfl
 root := rfl
 len := by
  show T.given.length ≤ (if T.old no then T.given else sortZ (T.given ++ [no])).length; split
  ·omega
  ·rw [sortZ_len]; simp
 giv := fun x hx => by
  have aZ : x ∈ (if T.old no then T.given else sortZ (T.given ++ [no])) := hx; split at aZ
  ·exact .inl aZ
  ·rename_i ho
   rcases List.mem_append.1 (sortZ_mem.1 aZ) with h | h
   ·exact .inl h
   ·simp at h; subst h; exact .inr ⟨by rw [hn]; simp, by simpa using ho⟩
 nod := fun x hx => by
  by_cases e : x = no
  ·subst e; rw [hn]; exact .inl (by simp)
  ·exact .inl (by intro h; exact hx (by show updI T.nodes no none x = none; rw [updI_ne e]; exact h))
 srt := by
  have cw : no ∉ T.given := fun h => by have := (hg.free no h).1; rw [hn] at this; cases this
  refine ⟨?_, fun x hx => ?_⟩
  ·show (if T.old no then T.given else sortZ (T.given ++ [no])).Pairwise (· < ·); split
   ·exact hg.rise
   ·refine sortZ_lt ?_; rw [List.nodup_append]; exact ⟨nodup_of_lt hg.rise, by simp, fun a ha b hb e => by simp at hb; subst hb; subst e; exact cw ha⟩
  ·have aZ : x ∈ (if T.old no then T.given else sortZ (T.given ++ [no])) := hx; show updI T.nodes no none x = none ∧ T.old x = false; split at aZ
   ·have := hg.free x aZ; refine ⟨?_, this.2⟩; rw [updI_eq]; split
    ·rfl
    ·exact this.1
   ·rename_i ho
    rcases List.mem_append.1 (sortZ_mem.1 aZ) with h | h
    ·have := hg.free x h; refine ⟨?_, this.2⟩; rw [updI_eq]; split
     ·rfl
     ·exact this.1
    ·simp at h; subst h; exact ⟨updI_same _ _ _, by simpa using ho⟩
 chg := fun x hx => by
  have aZ : (if x = no then false else T.changed x) = false := hx; by_cases e : x = no
  ·subst e; exact .inl (updI_same _ _ _)
  ·rw [if_neg e] at aZ; exact .inr ⟨updI_ne e, aZ⟩
theorem Evo.join {T : Tr} {no x y : Int} {my mx mn n1 n3 : Nd} (hg : GivS T) (hy : T.nodes y = some my) (hx : T.nodes x = some mx) (hn : T.nodes no = some mn) (mD : y ≠ x) (cX : no ≠ x) : Evo T ((((((T.mark y).mark x).setN y n1).dropN x).setN no n3).mark no) 0 := by
 have e1 := Evo.set (n := n1) hg hy
 have e2 : Evo ((T.setN y n1).mark y) (((T.setN y n1).mark y).mark x) 0 := Evo.mark e1.srt (by show updI T.nodes y (some n1) x = _; rw [updI_ne (Ne.symm mD)]; exact hx)
 have e3 := Evo.drop (no := x) (m := mx) (e1.trans e2).srt (by show updI T.nodes y (some n1) x = _; rw [updI_ne (Ne.symm mD)]; exact hx)
 have e123 := (e1.trans e2).trans e3
 obtain ⟨mn', tv⟩ : ∃ m, ((((T.setN y n1).mark y).mark x).dropN x).nodes no = some m := by
  show ∃ m, updI (updI T.nodes y (some n1)) x none no = some m; rw [updI_ne cX, updI_eq]; split
  ·exact ⟨_, rfl⟩
  ·exact ⟨_, hn⟩
 have e4 := Evo.set (n := n3) e123.srt tv
 exact e123.trans e4
theorem Evo.share {T : Tr} {no x y : Int} {my mx mn n1 n2 n3 : Nd} (hg : GivS T) (hy : T.nodes y = some my) (hx : T.nodes x = some mx) (hn : T.nodes no = some mn) (mD : y ≠ x) : Evo T ((((((T.mark y).mark x).setN y n1).setN x n2).setN no n3).mark no) 0 := by
 have e1 := Evo.set (n := n1) hg hy
 have e2 := Evo.set (no := x) (n := n2) (m := mx) e1.srt (by show updI T.nodes y (some n1) x = _; rw [updI_ne (Ne.symm mD)]; exact hx)
 have e12 := e1.trans e2
 obtain ⟨mn', tv⟩ : ∃ m, ((((T.setN y n1).mark y).setN x n2).mark x).nodes no = some m := by
  show ∃ m, updI (updI T.nodes y (some n1)) x (some n2) no = some m; rw [updI_eq]; split
  ·exact ⟨_, rfl⟩
  ·rw [updI_eq]; split
   ·exact ⟨_, rfl⟩
   ·exact ⟨_, hn⟩
 exact e12.trans (Evo.set (n := n3) e12.srt tv)
section
variable {w : World}
theorem entB_len {z : Nat} {es : Es} (h : EsOk z es) : es.length ≤ entB es := by
 have h' := h.one
 clear h
 induction es with
 | nil => simp
 | cons x r ih =>
   rw [entB_cons, List.length_cons]; have := ih (fun y hy => h' y (List.mem_cons_of_mem _ hy)); omega
theorem size_ok {p : Nat} {T : Tr} {nb : Int → Nat} {F : Nat → Prop} (h : TreeA w p T nb F) : sizeOk (T.size : Int) := by
 obtain ⟨mN, mC, mO, gv, kn, kc, ko, O⟩ := h.opn
 exact O.z
theorem split_at {α : Type} {l : List α} {i : Nat} {x : α} (h : l[i]? = some x) : ∃ p r, l = p ++ x :: r ∧ p.length = i := by
 have hi : i < l.length := by
  rcases Nat.lt_or_ge i l.length with h' | h'
  ·exact h'
  ·rw [List.getElem?_eq_none h'] at h; cases h
 refine ⟨l.take i, l.drop (i + 1), ?_, by rw [List.length_take]; omega⟩
 rw [List.getElem?_eq_getElem hi] at h
 rw [← oinj h, ← List.drop_eq_getElem_cons hi, List.take_append_drop]
theorem take_mid {α : Type} {p r : List α} {x : α} {i : Nat} (h : p.length = i) : (p ++ x :: r).take i = p := by subst h; simp
theorem drop_mid {α : Type} {p r : List α} {x : α} {i : Nat} (h : p.length = i) : (p ++ x :: r).drop (i + 1) = r := by subst h; simp
theorem set_mid {α : Type} {p r : List α} {x y : α} {i : Nat} (h : p.length = i) : (p ++ x :: r).set i y = p ++ y :: r := by subst h; simp
theorem full_leaf {z x : Nat} {N : Nodes} {E : Es} (hf : Full z N x) (hz : sizeOk (z : Int)) (hn : N (x : Int) = some (leafNd E)) : 1 ≤ E.length := by
 have := hf _ hn
 rw [leafNd_low] at this
 cases E with
 | nil => simp [sizeOk] at this hz; omega
 | cons => simp
theorem full_inn {z x c : Nat} {N : Nodes} {ps : List (Bytes × Nat)} (hf : Full z N x) (hz : sizeOk (z : Int)) (hn : N (x : Int) = some (innNd c ps)) : 3 ≤ ps.length := by
 have := hf _ hn
 rw [innNd_low] at this
 have ho : 8 ≤ orderE z := by have := hz.1; unfold orderE; omega
 omega
set_option maxHeartbeats 2000000 in
theorem even_all {p : Nat} {T : Tr} {nb : Int → Nat} {F : Nat → Prop} (h : TreeA w p T nb F) {no : Int} {H c a k : Nat} {ps : List (Bytes × Nat)} {lo : Bytes} {hi : Option Bytes} {ns : List Int} {es : Es} (M : Mid T.size H T.nodes no lo hi c ps ns es a) (p9 : ps ≠ []) (hk : k ≤ ps.length) (A5 : (c :: ps.map (·.2))[k]? = some a) (mY : ∀ n, T.nodes (a : Int) = some n → n.keys ≠ []) (hg : GivS T) (d8 : T.given.length ≤ 4294967296) :
  Ret Tryz.prog 47 [ptr p 0, I no, I (k : Int)] w fun v w' => v = .tuple #[] ∧ ∃ T' F' ns', TreeA w' p T' nb F' ∧ Bn T.size T'.nodes (H + 2) no lo hi ns' es ∧ Ev T.nodes T'.nodes (no :: ns) ns' ∧ Evo T T' 0 ∧ T'.count = T.count ∧ (∃ ps', T'.nodes no = some (innNd c ps') ∧ ps.length ≤ ps'.length + 1) ∧ Kp F w w' ∧ ∀ k, F' k → F k ∨ w.heap.size ≤ k := by
 have hz : sizeOk (T.size : Int) := size_ok h
 have gy := hz
 obtain ⟨z1, z2, -⟩ := gy
 have dl : 0 < ps.length := List.length_pos_iff.2 p9
 obtain ⟨⟨s, x⟩, tw⟩ : ∃ q, ps[k - 1]? = some q := ⟨_, List.getElem?_eq_getElem (by omega)⟩
 obtain ⟨pp, rr, rfl, ro⟩ := split_at tw
 obtain ⟨y, lo', af, n1, na, nbb, n2, e1, ea, eb, e2, iq, gM, qd, mD, ba, bb, nX, -, wL, qe, -⟩ := M.pair hz
 have hU : a = y ∨ a = x := by
  rcases Nat.eq_zero_or_pos k with e | e
  ·subst e; rw [ro] at qd; rw [A5] at qd; exact .inl (oinj qd)
  ·have h1 : (c :: (pp ++ (s, x) :: rr).map (·.2))[k]? = some x := by
    obtain ⟨j, rfl⟩ : ∃ j, k = j + 1 := ⟨k - 1, by omega⟩; rw [List.getElem?_cons_succ, List.getElem?_map]; rw [Nat.add_sub_cancel] at tw; rw [tw]; rfl
   rw [A5] at h1; exact .inr (oinj h1)
 obtain ⟨nz, lR⟩ : ∃ n, T.nodes (a : Int) = some n := by
  have : T.nodes (a : Int) ≠ none := by
   rcases hU with rfl | rfl
   ·exact Bn.some ba _ ba.mem
   ·exact Bn.some bb _ bb.mem
  exact Option.ne_none_iff_exists'.1 this
 have wM : (c :: (pp ++ (s, x) :: rr).map (·.2))[k - 1]? = some y := by rw [← ro]; exact qd
 have lS : (y : Int) ≠ (x : Int) := fun e => mD (by omega)
 have aO : ∀ d, (d = y ∨ d = x) → d ≠ a → Full T.size T.nodes d := fun d hd sA => by
  refine M.full d ?_ sA; rcases hd with rfl | rfl
  ·exact List.mem_of_getElem? qd
  ·simp
 cases H with
 | zero =>
   obtain ⟨fC, rfl, Bo, Bp, -⟩ := ba.leaf (by omega); obtain ⟨cX, rfl, Bq, pA, -⟩ := bb.leaf (by omega)
   have iM : 1 ≤ ea.length := by
    by_cases e : y = a
    ·subst e; have := mY _ fC; exact List.length_pos_iff.2 (fun e => this (by rw [e]; rfl))
    ·exact full_leaf (aO y (.inl rfl) e) hz fC
   have jV : 1 ≤ eb.length := by
    by_cases e : x = a
    ·subst e; have := mY _ cX; exact List.length_pos_iff.2 (fun e => this (by rw [e]; rfl))
    ·exact full_leaf (aO x (.inr rfl) e) hz cX
   refine Ret.mono (even_ret h (nz := nz) (ny := leafNd ea) (nx := leafNd eb) M.at_ hk A5 lR tw wM fC cX (X := fun T1 => ∃ ns', Bn T.size T1.nodes 2 no lo hi ns' es ∧ Ev T.nodes T1.nodes (no :: ns) ns' ∧ Evo T (T1.mark no) 0 ∧ T1.count = T.count ∧ ∃ ps', T1.nodes no = some (innNd c ps') ∧ (pp ++ (s, x) :: rr).length ≤ ps'.length + 1) (fun bL w1 h1 => ?_)) (fun v w' ⟨hv, hr⟩ => ⟨hv, ?_⟩)
   ·have rp : (leafNd ea).low T.size ∨ (leafNd eb).low T.size := by
     rcases hU with rfl | rfl
     ·rw [fC] at lR; cases lR; exact .inl bL
     ·rw [cX] at lR; cases lR; exact .inr bL
    have E7 := join_es Bo Bq ba.keys.1 bb.keys.1; have DJ := entB_len E7; have dY := entB_app ea eb; rw [if_pos (show (leafNd ea).leaf = true from rfl)]; refine Ret.mono (leaves_ret h1 (E := ea ++ eb) rfl M.at_ tw fC cX (Ne.symm qe) (Ne.symm wL) lS d8 (by omega) iM jV (by show T.size ≤ _; omega) (fun hb => ?_)) (fun v w' hv => ?_)
    ·obtain ⟨c1, c2, -⟩ := cut_ok hz E7 hb (by
      rw [leafNd_low, leafNd_low] at rp; unfold mostE
      omega)
     exact ⟨c1, c2⟩
    ·obtain ⟨rfl, T', F', nE, aS, i0, nY⟩ := hv; refine ⟨rfl, T', F', nE, ?_, aS, i0⟩; rcases nY with ⟨hb, rfl⟩ | ⟨hb, up', eu, rfl⟩
     ·rw [take_mid ro, drop_mid ro]; obtain ⟨ns2, b1, b2⟩ := fill_leaf1 M hz qd hU fC cX hb; exact ⟨_, b1, b2, Evo.join hg fC cX M.at_ lS (Ne.symm qe), rfl, pp ++ rr, updI_same _ _ _, by simp; omega⟩
     ·rw [set_mid ro]; obtain ⟨up2, jf, ns2, b1, b2⟩ := fill_leaf2 M hz qd hU fC cX hb rp; rw [eu] at jf; cases jf; exact ⟨_, b1, b2, Evo.share hg fC cX M.at_ lS, rfl, _, updI_same _ _ _, by simp⟩
   ·rcases hr with ⟨bL, hx⟩ | ⟨bL, T', F', nE, ⟨ns', b1, b2, b3, b4, b5⟩, aS, i0⟩
    ·refine ⟨T, F, no :: ns, h.ext hx, M.done hz (fun m hm => by rw [lR] at hm; cases hm; exact bL), Ev.refl M.nd, Evo.refl hg, rfl, ⟨_, M.at_, by omega⟩, hx.kp, fun k hk => .inl hk⟩
    ·exact ⟨_, F', ns', nE, b1, b2, b3, b4, b5, aS, i0⟩
 | succ H =>
   obtain ⟨ca, pa, nsa, fC, rfl, G2, E8, G3, -, Br, -⟩ := Bn.inner (by omega) ba; obtain ⟨cb, pb, nsb, cX, rfl, G4, E9, G5, -, Bs, -⟩ := Bn.inner (by omega) bb
   have iM : 1 ≤ pa.length := by
    by_cases e : y = a
    ·subst e; have := mY _ fC; exact List.length_pos_iff.2 (fun e => this (by rw [e]; rfl))
    ·have := full_inn (aO y (.inl rfl) e) hz fC; omega
   have jV : 1 ≤ pb.length := by
    by_cases e : x = a
    ·subst e; have := mY _ cX; exact List.length_pos_iff.2 (fun e => this (by rw [e]; rfl))
    ·have := full_inn (aO x (.inr rfl) e) hz cX; omega
   have A6 : orderE T.size ≤ 1000 ∧ 8 ≤ orderE T.size := by unfold orderE; omega
   refine Ret.mono (even_ret h (nz := nz) (ny := innNd ca pa) (nx := innNd cb pb) M.at_ hk A5 lR tw wM fC cX (X := fun T1 => ∃ ns', Bn T.size T1.nodes (H + 3) no lo hi ns' es ∧ Ev T.nodes T1.nodes (no :: ns) ns' ∧ Evo T (T1.mark no) 0 ∧ T1.count = T.count ∧ ∃ ps', T1.nodes no = some (innNd c ps') ∧ (pp ++ (s, x) :: rr).length ≤ ps'.length + 1) (fun bL w1 h1 => ?_)) (fun v w' ⟨hv, hr⟩ => ⟨hv, ?_⟩)
   ·rw [if_neg (by simp [innNd])]; refine Ret.mono (inner_ret h1 (P := pa ++ (s, cb) :: pb) rfl M.at_ tw fC cX (Ne.symm qe) (Ne.symm wL) lS d8 (by simp; omega) iM jV A6.2) (fun v w' hv => ?_); obtain ⟨rfl, T', F', nE, aS, i0, nY⟩ := hv; refine ⟨rfl, T', F', nE, ?_, aS, i0⟩; rcases nY with ⟨hb, rfl⟩ | ⟨hb, up', c2, eu, rfl⟩
    ·rw [take_mid ro, drop_mid ro]; obtain ⟨ns2, b1, b2⟩ := fill_inn1 M hz qd hU fC cX hb; exact ⟨_, b1, b2, Evo.join hg fC cX M.at_ lS (Ne.symm qe), rfl, pp ++ rr, updI_same _ _ _, by simp; omega⟩
    ·rw [set_mid ro]; obtain ⟨up2, c2', jf, ns2, b1, b2⟩ := fill_inn2 M hz qd hU fC cX hb; rw [eu] at jf; cases jf; rw [show ((pa ++ (s, cb) :: pb).length + 1) / 2 - 1 + 1 = ((pa ++ (s, cb) :: pb).length + 1) / 2 by have : 2 ≤ (pa ++ (s, cb) :: pb).length + 1 := (by simp; omega); omega]; exact ⟨_, b1, b2, Evo.share hg fC cX M.at_ lS, rfl, _, updI_same _ _ _, by simp⟩
   ·rcases hr with ⟨bL, hx⟩ | ⟨bL, T', F', nE, ⟨ns', b1, b2, b3, b4, b5⟩, aS, i0⟩
    ·refine ⟨T, F, no :: ns, h.ext hx, M.done hz (fun m hm => by rw [lR] at hm; cases hm; exact bL), Ev.refl M.nd, Evo.refl hg, rfl, ⟨_, M.at_, by omega⟩, hx.kp, fun k hk => .inl hk⟩
    ·exact ⟨_, F', ns', nE, b1, b2, b3, b4, b5, aS, i0⟩
end
def beN (n : Nat) : Nat → Bytes
 | 0 => []
 | k + 1 => UInt8.ofNat (n / 256 ^ k) :: beN n k
@[simp] theorem beN_length (n : Nat) : ∀ k, (beN n k).length = k
 | 0 => rfl
 | k + 1 => by simp [beN, beN_length n k]
def valB (l : Bytes) : Nat := l.foldl (fun a b => 256 * a + b.toNat) 0
theorem valB_acc (n : Nat) : ∀ k a, (beN n k).foldl (fun a b => 256 * a + b.toNat) a = a * 256 ^ k + n % 256 ^ k
 | 0, a => by simp [beN, Nat.mod_one]
 | k + 1, a => by
   show (beN n k).foldl (fun a b => 256 * a + b.toNat) (256 * a + (UInt8.ofNat (n / 256 ^ k)).toNat) = _; rw [valB_acc n k]; have h : (UInt8.ofNat (n / 256 ^ k)).toNat = n / 256 ^ k % 256 := by simp
   rw [h, Nat.pow_succ, Nat.mod_mul, Nat.add_mul]; have e1 : 256 * a * 256 ^ k = a * (256 ^ k * 256) := by rw [Nat.mul_comm 256 a, Nat.mul_assoc, Nat.mul_comm 256]
   have e2 : n / 256 ^ k % 256 * 256 ^ k = 256 ^ k * (n / 256 ^ k % 256) := Nat.mul_comm _ _; omega
theorem valB_beN {n k : Nat} (h : n < 256 ^ k) : valB (beN n k) = n := by
 unfold valB; rw [valB_acc, Nat.mod_eq_of_lt h]; omega
theorem valB_snoc (l : Bytes) (b : UInt8) : valB (l ++ [b]) = 256 * valB l + b.toNat := by simp [valB, List.foldl_append]
theorem valB_acc_lt : ∀ (l : Bytes) (a : Nat), l.foldl (fun a b => 256 * a + b.toNat) a < (a + 1) * 256 ^ l.length
 | [], a => by simp
 | b :: r, a => by
   have h1 := valB_acc_lt r (256 * a + b.toNat); have hb : b.toNat < 256 := b.toNat_lt; have h2 : (256 * a + b.toNat + 1) * 256 ^ r.length ≤ (256 * (a + 1)) * 256 ^ r.length := Nat.mul_le_mul_right _ (by omega)
   have h3 : (256 * (a + 1)) * 256 ^ r.length = (a + 1) * 256 ^ (b :: r).length := by
    rw [List.length_cons, Nat.pow_succ, Nat.mul_comm 256 (a + 1), Nat.mul_assoc, Nat.mul_comm 256]
   show r.foldl (fun a b => 256 * a + b.toNat) (256 * a + b.toNat) < _; omega
theorem valB_lt (l : Bytes) : valB l < 256 ^ l.length := by have := valB_acc_lt l 0; simpa [valB] using this
def entL (x : Bytes × Bytes) : Bytes := beN x.1.length 1 ++ (beN x.2.length 2 ++ (x.1 ++ x.2))
def entI (x : Bytes × Nat) : Bytes := beN x.1.length 1 ++ (x.1 ++ beN x.2 4)
def bodyL (es : Es) : Bytes := es.flatMap entL
def bodyI (ps : List (Bytes × Nat)) : Bytes := ps.flatMap entI
def rawN (n : Nd) : Bytes := if n.leaf then 1 :: (beN n.keys.length 2 ++ bodyL (n.keys.zip n.vals)) else 2 :: (beN n.keys.length 2 ++ (beN (n.kids.headD 0) 4 ++ bodyI (n.keys.zip n.kids.tail)))
def enc (z : Nat) (n : Nd) : Bytes := rawN n ++ List.replicate (z - (rawN n).length) 0
theorem zip_ps : ∀ ps : List (Bytes × Nat), (ps.map (·.1)).zip (ps.map (·.2)) = ps
 | [] => rfl
 | x :: r => by simp [zip_ps r]
theorem rawN_leaf (es : Es) : rawN (leafNd es) = 1 :: (beN es.length 2 ++ bodyL es) := by
 simp only [rawN, leafNd, if_true, zip_es, List.length_map]
theorem rawN_inn (c : Nat) (ps : List (Bytes × Nat)) : rawN (innNd c ps) = 2 :: (beN ps.length 2 ++ (beN c 4 ++ bodyI ps)) := by
 simp [rawN, innNd, zip_ps]
theorem bodyL_length : ∀ es : Es, (bodyL es).length = entB es
 | [] => rfl
 | x :: r => by
   have := bodyL_length r; simp [bodyL, entB, entL] at this ⊢; omega
theorem bodyI_length : ∀ ps : List (Bytes × Nat), (bodyI ps).length = sumL (ps.map (·.1)) 1 + 4 * ps.length
 | [] => rfl
 | x :: r => by
   have := bodyI_length r; simp [bodyI, entI, sumL_cons] at this ⊢; omega
theorem nd_cases {z : Nat} {n : Nd} (h : NdOk z n) : (∃ es, n = leafNd es) ∨ ∃ c ps, n = innNd c ps := by
 cases hl : n.leaf with
 | true =>
   have := h.2.2; rw [if_pos hl] at this
   exact .inl ⟨_, leaf_eq hl this.2.1 this.1⟩
 | false =>
   have := h.2.2; rw [if_neg (by rw [hl]; decide)] at this; obtain ⟨h1, h2, -, -⟩ := this
   cases hk : n.kids with
   | nil => rw [hk] at h2; simp at h2
   | cons c r =>
     rw [hk] at h2; refine .inr ⟨c, n.keys.zip r, inn_eq hl h1 ?_ ?_⟩
     ·rw [List.map_fst_zip]; simp at h2; omega
     ·rw [List.map_snd_zip, hk]; simp at h2; omega
theorem rawN_length {z : Nat} {n : Nd} (h : NdOk z n) : (rawN n).length = n.bytes := by
 rcases nd_cases h with ⟨es, rfl⟩ | ⟨c, ps, rfl⟩
 ·rw [rawN_leaf, leafNd_bytes]; simp [bodyL_length]; omega
 ·rw [rawN_inn]; simp [bodyI_length, Nd.bytes, innNd]; omega
theorem enc_length {z : Nat} {n : Nd} (h : NdOk z n) : (enc z n).length = z := by
 have h1 := rawN_length h
 have h2 := h.2.1
 unfold enc
 rw [List.length_append, List.length_replicate]; omega
def remL (z : Nat) (es : Es) (i : Nat) : Bytes := bodyL (es.drop i) ++ List.replicate (z - (3 + entB es)) 0
def remI (z c : Nat) (ps : List (Bytes × Nat)) (i : Nat) : Bytes := bodyI (ps.drop i) ++ List.replicate (z - (innNd c ps).bytes) 0
theorem remL_step {z : Nat} {es : Es} {i : Nat} {x : Bytes × Bytes} (h : es[i]? = some x) : remL z es i = beN x.1.length 1 ++ (beN x.2.length 2 ++ (x.1 ++ (x.2 ++ remL z es (i + 1)))) := by
 obtain ⟨hi, e⟩ := List.getElem?_eq_some_iff.1 h
 unfold remL
 rw [List.drop_eq_getElem_cons hi, e]
 simp [bodyL, entL]
theorem remI_step {z c : Nat} {ps : List (Bytes × Nat)} {i : Nat} {x : Bytes × Nat} (h : ps[i]? = some x) : remI z c ps i = beN x.1.length 1 ++ (x.1 ++ (beN x.2 4 ++ remI z c ps (i + 1))) := by
 obtain ⟨hi, e⟩ := List.getElem?_eq_some_iff.1 h
 unfold remI
 rw [List.drop_eq_getElem_cons hi, e]
 simp [bodyI, entI]
theorem enc_leaf (z : Nat) (es : Es) : enc z (leafNd es) = 1 :: (beN es.length 2 ++ remL z es 0) := by
 unfold enc remL
 rw [rawN_leaf]
 have : (1 :: (beN es.length 2 ++ bodyL es)).length = 3 + entB es := by simp [bodyL_length]; omega
 rw [this]; simp
theorem enc_inn {z : Nat} {c : Nat} {ps : List (Bytes × Nat)} (h : NdOk z (innNd c ps)) : enc z (innNd c ps) = 2 :: (beN ps.length 2 ++ (beN c 4 ++ remI z c ps 0)) := by
 unfold enc remI
 rw [rawN_length h, rawN_inn]
 simp
theorem beN_inj {a b k : Nat} (ha : a < 256 ^ k) (hb : b < 256 ^ k) (h : beN a k = beN b k) : a = b := by
 rw [← valB_beN ha, ← valB_beN hb, h]
theorem beN_append {a b k : Nat} {s t : Bytes} (h : beN a k ++ s = beN b k ++ t) : beN a k = beN b k ∧ s = t := List.append_inj h (by simp)
theorem bodyL_inj : ∀ {e f : Es} {s t : Bytes}, e.length = f.length → (∀ x ∈ e, x.1.length < 256 ∧ x.2.length < 65536) → (∀ x ∈ f, x.1.length < 256 ∧ x.2.length < 65536) → bodyL e ++ s = bodyL f ++ t → e = f
 | [], [], _, _, _, _, _, _ => rfl
 | (a, b) :: r, (c, d) :: q, s, t, hl, h1, h2, h => by
   have g1 := h1 _ (List.mem_cons_self ..); have g2 := h2 _ (List.mem_cons_self ..); have h' : beN a.length 1 ++ (beN b.length 2 ++ (a ++ (b ++ (bodyL r ++ s)))) = beN c.length 1 ++ (beN d.length 2 ++ (c ++ (d ++ (bodyL q ++ t)))) := by simpa [bodyL, entL] using h
   obtain ⟨e1, k1⟩ := beN_append h'; obtain ⟨e2, k2⟩ := beN_append k1; have l1 := beN_inj g1.1 g2.1 e1; have l2 := beN_inj g1.2 g2.2 e2; obtain ⟨a1, k3⟩ := List.append_inj k2 l1; obtain ⟨a2, k4⟩ := List.append_inj k3 l2; rw [a1, a2, bodyL_inj (by simpa using hl) (fun x hx => h1 x (List.mem_cons_of_mem _ hx)) (fun x hx => h2 x (List.mem_cons_of_mem _ hx)) k4]
theorem bodyI_inj : ∀ {e f : List (Bytes × Nat)} {s t : Bytes}, e.length = f.length → (∀ x ∈ e, x.1.length < 256 ∧ x.2 < 4294967296) → (∀ x ∈ f, x.1.length < 256 ∧ x.2 < 4294967296) → bodyI e ++ s = bodyI f ++ t → e = f
 | [], [], _, _, _, _, _, _ => rfl
 | (a, b) :: r, (c, d) :: q, s, t, hl, h1, h2, h => by
   have g1 := h1 _ (List.mem_cons_self ..); have g2 := h2 _ (List.mem_cons_self ..); have h' : beN a.length 1 ++ (a ++ (beN b 4 ++ (bodyI r ++ s))) = beN c.length 1 ++ (c ++ (beN d 4 ++ (bodyI q ++ t))) := by simpa [bodyI, entI] using h
   obtain ⟨e1, k1⟩ := beN_append h'; have l1 := beN_inj g1.1 g2.1 e1; obtain ⟨a1, k3⟩ := List.append_inj k1 l1; obtain ⟨e2, k4⟩ := beN_append k3; have l2 := beN_inj g1.2 g2.2 e2; rw [a1, l2, bodyI_inj (by simpa using hl) (fun x hx => h1 x (List.mem_cons_of_mem _ hx)) (fun x hx => h2 x (List.mem_cons_of_mem _ hx)) k4]
structure NdZ (z : Nat) (n : Nd) : Prop where
 ok : NdOk z n
 cs : ∀ c ∈ n.kids, c < 4294967296
theorem ndz_leaf {z : Nat} (hz : sizeOk (z : Int)) {es : Es} (h : NdZ z (leafNd es)) : es.length < 65536 ∧ ∀ x ∈ es, (1 ≤ x.1.length ∧ x.1.length ≤ 64) ∧ x.2.length < 4096 := by
 obtain ⟨z1, z2, -⟩ := hz
 obtain ⟨h1, h2⟩ := (leafNd_ok (by omega)).1 h.ok
 have := entB_len h1
 have hm : mostE z ≤ 1024 := by unfold mostE; omega
 refine ⟨by omega, fun x hx => ?_⟩
 have := h1.one x hx
 omega
theorem ndz_inn {z : Nat} (hz : sizeOk (z : Int)) {c : Nat} {ps : List (Bytes × Nat)} (h : NdZ z (innNd c ps)) : ps.length < 65536 ∧ c < 4294967296 ∧ ∀ x ∈ ps, (1 ≤ x.1.length ∧ x.1.length ≤ 64) ∧ x.2 < 4294967296 := by
 obtain ⟨z1, z2, -⟩ := hz
 obtain ⟨h1, h2, -⟩ := (innNd_ok (by omega)).1 h.ok
 have ho : orderE z ≤ 1000 := by unfold orderE; omega
 refine ⟨by omega, h.cs c (by simp [innNd]), fun x hx => ⟨h1.1 _ (List.mem_map.2 ⟨x, hx, rfl⟩), h.cs _ ?_⟩⟩
 simp only [innNd, List.mem_cons]
 exact .inr (List.mem_map.2 ⟨x, hx, rfl⟩)
theorem enc_inj {z : Nat} (hz : sizeOk (z : Int)) {n m : Nd} (hn : NdZ z n) (hm : NdZ z m) (h : enc z n = enc z m) : n = m := by
 rcases nd_cases hn.ok with ⟨e, rfl⟩ | ⟨c, e, rfl⟩ <;> rcases nd_cases hm.ok with ⟨f, rfl⟩ | ⟨d, f, rfl⟩
 ·rw [enc_leaf, enc_leaf] at h; obtain ⟨-, h⟩ := List.cons.inj h; obtain ⟨h1, h⟩ := beN_append h; obtain ⟨b1, b2⟩ := ndz_leaf hz hn; obtain ⟨b3, b4⟩ := ndz_leaf hz hm; have hl := beN_inj b1 b3 h1; unfold remL at h; rw [bodyL_inj hl (fun x hx => by have := b2 x hx; omega) (fun x hx => by have := b4 x hx; omega) h]
 ·rw [enc_leaf, enc_inn hm.ok] at h; simp at h
 ·rw [enc_leaf, enc_inn hn.ok] at h; simp at h
 ·rw [enc_inn hn.ok, enc_inn hm.ok] at h; obtain ⟨-, h⟩ := List.cons.inj h; obtain ⟨h1, h⟩ := beN_append h; obtain ⟨h2, h⟩ := beN_append h; obtain ⟨b1, c1, b2⟩ := ndz_inn hz hn; obtain ⟨b3, c3, b4⟩ := ndz_inn hz hm; have hl := beN_inj b1 b3 h1; have hc := beN_inj c1 c3 h2; subst hc; unfold remI at h; rw [bodyI_inj hl (fun x hx => by have := b2 x hx; omega) (fun x hx => by have := b4 x hx; omega) h]
end Go.Proofs.YtocnhaoilnojmaaGreat
namespace Go.Proofs.YtocnhaoilnojmaaGreat
set_option linter.all false
open Classical in
noncomputable def dec (s : Bytes) : Option Nd := if h : sizeOk (s.length : Int) ∧ ∃ n, NdZ s.length n ∧ enc s.length n = s then some h.2.choose else none
theorem dec_some {s : Bytes} {n : Nd} : dec s = some n ↔ sizeOk (s.length : Int) ∧ NdZ s.length n ∧ enc s.length n = s := by
 unfold dec
 constructor
 ·intro h; split at h
  ·rename_i hh
   have := hh.2.choose_spec; rw [oinj h] at this; exact ⟨hh.1, this⟩
  ·cases h
 ·rintro ⟨h1, h2, h3⟩; have hh : sizeOk (s.length : Int) ∧ ∃ n, NdZ s.length n ∧ enc s.length n = s := ⟨h1, n, h2, h3⟩; rw [dif_pos hh]; have := hh.2.choose_spec; rw [enc_inj h1 this.1 h2 (by rw [this.2, h3])]
theorem dec_enc {z : Nat} {n : Nd} (hz : sizeOk (z : Int)) (h : NdZ z n) : dec (enc z n) = some n := by
 have hl := enc_length h.ok
 exact dec_some.2 (by rw [hl]; exact ⟨hz, h, rfl⟩)
theorem dec_none {s : Bytes} : dec s = none ↔ ∀ n, sizeOk (s.length : Int) → NdZ s.length n → enc s.length n ≠ s := by
 constructor
 ·intro h n h1 h2 h3; rw [dec_some.2 ⟨h1, h2, h3⟩] at h; cases h
 ·intro h
  cases e : dec s with
  | none => rfl
  | some n =>
    obtain ⟨h1, h2, h3⟩ := dec_some.1 e; exact absurd h3 (h n h1 h2)
theorem NdZ.bd {z : Nat} (hz : sizeOk (z : Int)) {n : Nd} (h : NdZ z n) : n.Bd := by
 rcases nd_cases h.ok with ⟨es, rfl⟩ | ⟨c, ps, rfl⟩
 ·obtain ⟨h1, h2⟩ := ndz_leaf hz h; refine ⟨by simp [leafNd]; omega, by simp [leafNd]; omega, by simp [leafNd], fun k hk => ?_, fun v hv => ?_, h.cs⟩
  ·obtain ⟨x, hx, rfl⟩ := List.mem_map.1 hk; have := h2 x hx; omega
  ·obtain ⟨x, hx, rfl⟩ := List.mem_map.1 hv; have := h2 x hx; omega
 ·obtain ⟨h1, h2, h3⟩ := ndz_inn hz h; refine ⟨by simp [innNd]; omega, by simp [innNd], by simp [innNd]; omega, fun k hk => ?_, fun v hv => by simp [innNd] at hv, h.cs⟩; obtain ⟨x, hx, rfl⟩ := List.mem_map.1 hk; have := h3 x hx; omega
def tx (n : Nat) (r : Bytes) (bad : Bool) : Bytes × Bytes × Bool := if bad || decide (r.length < n) then ([], r, true) else (r.take n, r.drop n, false)
theorem tx_bad {n : Nat} {r : Bytes} {bad : Bool} (h : bad = true ∨ r.length < n) : tx n r bad = ([], r, true) := by
 unfold tx; rw [if_pos (by simpa using h)]
theorem tx_ok {n : Nat} {r : Bytes} (h : n ≤ r.length) : tx n r false = (r.take n, r.drop n, false) := by
 unfold tx; rw [if_neg (by simp; omega)]
theorem tx_app {n : Nat} {a r : Bytes} (h : a.length = n) : tx n (a ++ r) false = (a, r, false) := by
 rw [tx_ok (by rw [List.length_append]; omega), List.take_left' h, List.drop_left' h]
theorem tx_le {n : Nat} {r t r' : Bytes} {bad bad' : Bool} (e : tx n r bad = (t, r', bad')) : t.length ≤ n ∧ t.length ≤ r.length ∧ r'.length ≤ r.length := by
 unfold tx at e
 split at e
 ·cases e; simp
 ·cases e; simp; omega
theorem tx_ex (n : Nat) (r : Bytes) (bad : Bool) : ∃ t r' bad', tx n r bad = (t, r', bad') := ⟨_, _, _, rfl⟩
def Lg (z : Nat) (s : Bytes) (lf : Bool) (ks vs : List Bytes) (cs : List Nat) (c : Nat) (r : Bytes) (bad : Bool) : Prop :=
 (∀ es, NdZ z (leafNd es) → enc z (leafNd es) = s → lf = true ∧ bad = false ∧ ∃ i, i + c = es.length ∧ ks = (es.take i).map (·.1) ∧ vs = (es.take i).map (·.2) ∧ cs = [] ∧ r = remL z es i) ∧
 (∀ c0 ps, NdZ z (innNd c0 ps) → enc z (innNd c0 ps) = s → lf = false ∧ bad = false ∧ ∃ i, i + c = ps.length ∧ ks = (ps.take i).map (·.1) ∧ vs = [] ∧ cs = c0 :: (ps.take i).map (·.2) ∧ r = remI z c0 ps i)
theorem map_take_succ {α β : Type} {l : List α} {f : α → β} {i : Nat} {x : α} (h : l[i]? = some x) : (l.take (i + 1)).map f = (l.take i).map f ++ [f x] := by
 obtain ⟨hi, e⟩ := List.getElem?_eq_some_iff.1 h
 rw [List.take_succ_eq_append_getElem hi, e, List.map_append]; rfl
variable {z : Nat} {s : Bytes} {lf bad b1 b2 b3 b4 : Bool} {ks vs : List Bytes} {cs : List Nat} {c : Nat} {r t1 t2 t3 t4 r1 r2 r3 r4 : Bytes}
theorem lg_leaf (hz : sizeOk (z : Int)) (h : Lg z s true ks vs cs (c + 1) r bad) (e1 : tx 1 r bad = (t1, r1, b1)) (e2 : tx 2 r1 b1 = (t2, r2, b2)) (e3 : tx (valB t1) r2 b2 = (t3, r3, b3)) (e4 : tx (valB t2) r3 b3 = (t4, r4, b4)) : Lg z s true (ks ++ [t3]) (vs ++ [t4]) cs c r4 b4 := by
 refine ⟨fun es hn he => ?_, fun c0 ps hn he => ?_⟩
 ·obtain ⟨-, rfl, i, hi, rfl, rfl, rfl, rfl⟩ := h.1 es hn he; obtain ⟨-, n2⟩ := ndz_leaf hz hn; have cF : i < es.length := by omega
  have hx := List.getElem?_eq_getElem cF; have hb := n2 _ (List.mem_of_getElem? hx); rw [remL_step hx] at e1; rw [tx_app (by simp)] at e1; cases e1; rw [tx_app (by simp)] at e2; cases e2; rw [valB_beN (by omega), tx_app rfl] at e3; cases e3; rw [valB_beN (by omega), tx_app rfl] at e4; cases e4; exact ⟨rfl, rfl, i + 1, by omega, by rw [map_take_succ hx], by rw [map_take_succ hx], rfl, rfl⟩
 ·cases (h.2 c0 ps hn he).1
theorem lg_inn (hz : sizeOk (z : Int)) (h : Lg z s false ks vs cs (c + 1) r bad) (e1 : tx 1 r bad = (t1, r1, b1)) (e2 : tx (valB t1) r1 b1 = (t2, r2, b2)) (e3 : tx 4 r2 b2 = (t3, r3, b3)) : Lg z s false (ks ++ [t2]) vs (cs ++ [valB t3]) c r3 b3 := by
 refine ⟨fun es hn he => ?_, fun c0 ps hn he => ?_⟩
 ·cases (h.1 es hn he).1
 ·obtain ⟨-, rfl, i, hi, rfl, rfl, rfl, rfl⟩ := h.2 c0 ps hn he; obtain ⟨-, -, n2⟩ := ndz_inn hz hn; have cF : i < ps.length := by omega
  have hx := List.getElem?_eq_getElem cF; have hb := n2 _ (List.mem_of_getElem? hx); rw [remI_step hx] at e1; rw [tx_app (by simp)] at e1; cases e1; rw [valB_beN (by omega), tx_app rfl] at e2; cases e2; rw [tx_app (by simp)] at e3; cases e3; exact ⟨rfl, rfl, i + 1, by omega, by rw [map_take_succ hx], rfl, by rw [map_take_succ hx, valB_beN (by omega)]; rfl, rfl⟩
theorem lg_init (hz : sizeOk (z : Int)) (e1 : tx 1 s false = (t1, r1, b1)) (e2 : tx 2 r1 b1 = (t2, r2, b2)) (e3 : tx 4 r2 b2 = (t3, r3, b3)) : (valB t1 = 1 → Lg z s true [] [] [] (valB t2) r2 b2) ∧ (valB t1 ≠ 1 → Lg z s false [] [] [valB t3] (valB t2) r3 b3) := by
 have hl : ∀ es, NdZ z (leafNd es) → enc z (leafNd es) = s → t1 = [1] ∧ t2 = beN es.length 2 ∧ r2 = remL z es 0 ∧ b2 = false := fun es hn he => by
  rw [← he, enc_leaf, show (1 :: (beN es.length 2 ++ remL z es 0) : Bytes) = [1] ++ (beN es.length 2 ++ remL z es 0) from rfl, tx_app (by simp)] at e1; cases e1; rw [tx_app (by simp)] at e2; cases e2; exact ⟨rfl, rfl, rfl, rfl⟩
 have hi : ∀ c0 ps, NdZ z (innNd c0 ps) → enc z (innNd c0 ps) = s → t1 = [2] ∧ t2 = beN ps.length 2 ∧ t3 = beN c0 4 ∧ r3 = remI z c0 ps 0 ∧ b3 = false := fun c0 ps hn he => by
  rw [← he, enc_inn hn.ok, show (2 :: (beN ps.length 2 ++ (beN c0 4 ++ remI z c0 ps 0)) : Bytes) = [2] ++ (beN ps.length 2 ++ (beN c0 4 ++ remI z c0 ps 0)) from rfl, tx_app (by simp)] at e1; cases e1; rw [tx_app (by simp)] at e2; cases e2; rw [tx_app (by simp)] at e3; cases e3; exact ⟨rfl, rfl, rfl, rfl, rfl⟩
 refine ⟨fun h => ⟨fun es hn he => ?_, fun c0 ps hn he => ?_⟩, fun h => ⟨fun es hn he => ?_, fun c0 ps hn he => ?_⟩⟩
 ·obtain ⟨rfl, rfl, rfl, rfl⟩ := hl es hn he; have := (ndz_leaf hz hn).1; exact ⟨rfl, rfl, 0, by rw [valB_beN (by omega)]; omega, rfl, rfl, rfl, rfl⟩
 ·obtain ⟨rfl, -⟩ := hi c0 ps hn he; exact absurd h (by decide)
 ·obtain ⟨rfl, -⟩ := hl es hn he; exact absurd rfl h
 ·obtain ⟨rfl, rfl, rfl, rfl, rfl⟩ := hi c0 ps hn he; have h3 := ndz_inn hz hn; exact ⟨rfl, rfl, 0, by rw [valB_beN (by omega)]; omega, rfl, rfl, by rw [valB_beN (by omega)]; rfl, rfl⟩
theorem lg_end (hl : s.length = z) (h : Lg z s lf ks vs cs c r bad) (hc : c = 0 ∨ bad = true) {n : Nd} (hd : dec s = some n) : bad = false ∧ n = ⟨lf, ks, vs, cs⟩ := by
 subst hl
 obtain ⟨h1, h2, h3⟩ := dec_some.1 hd
 rcases nd_cases h2.ok with ⟨es, rfl⟩ | ⟨c0, ps, rfl⟩
 ·obtain ⟨rfl, hb, i, hi, rfl, rfl, rfl, -⟩ := h.1 es h2 h3; have : c = 0 := hc.elim id (fun e => by rw [e] at hb; cases hb); have : i = es.length := by omega
  subst this; rw [List.take_length]; exact ⟨hb, rfl⟩
 ·obtain ⟨rfl, hb, i, hi, rfl, rfl, rfl, -⟩ := h.2 c0 ps h2 h3; have : c = 0 := hc.elim id (fun e => by rw [e] at hb; cases hb); have : i = ps.length := by omega
  subst this; rw [List.take_length]; exact ⟨hb, rfl⟩
end Go.Proofs.YtocnhaoilnojmaaGreat
namespace Go.Proofs.YtocnhaoilnojmaaGreat
open Go Go.RowKit
set_option linter.all false
set_option maxRecDepth 100000
theorem pkeys_ret {l : List Bytes} {lv : Value} {w : World} (hR : Rd w lv 1 l.length (l.map S)) (hl : l.length ≤ 100000) :
  Ret Tryz.prog 132 [lv] w fun v w' => v = .bool (decide (keysOk l)) ∧ w' = w := by
 obtain ⟨a, cap, rfl, -⟩ := hR.shape
 have cu : ∀ {i : Nat} {s : Bytes}, l[i]? = some s → (s = [] ∨ 64 < s.length ∨ (0 < i ∧ ∃ p, l[i - 1]? = some p ∧ lt p s = false)) → ¬ keysOk l := by
  rintro i s hs h ⟨h1, h2⟩; have := h1 s (List.mem_of_getElem? hs); rcases h with rfl | h | ⟨hi, p, hp, ah⟩
  ·simp at this
  ·omega
  ·rw [h2.get (by omega) hp hs] at ah; cases ah
 have bh : ∀ {i : Nat} {s : Bytes}, keysOk (l.take i) → l[i]? = some s → (1 ≤ s.length ∧ s.length ≤ 64) → (i = 0 ∨ ∃ p, l[i - 1]? = some p ∧ lt p s = true) → keysOk (l.take (i + 1)) := by
  rintro i s ⟨h1, h2⟩ hs hl hp; refine ⟨fun k hk => ?_, rise_take_succ h2 hs hp⟩
  have hi : i < l.length := by
   rcases Nat.lt_or_ge i l.length with h' | h'
   ·exact h'
   ·rw [List.getElem?_eq_none h'] at hs; cases hs
  have e : l[i] = s := by rw [List.getElem?_eq_getElem hi] at hs; exact oinj hs
  rw [List.take_succ_eq_append_getElem hi, e] at hk; rcases List.mem_append.1 hk with hk | hk
  ·exact h1 k hk
  ·simp at hk; subst hk; exact hl
 refine ret_of_run (e := [(0, _)]) Tryz.func132 rfl Tryz.ntmps132 rfl rfl (qN rfl (zqa rfl (rEnd (run_seq (qN rfl (zqm rfl (qV (yln U23 rfl) (zqm rfl (rEnd (run_block (zqu (α := Nat) (0) (fun i => [(0, .slice a l.length cap), (5, .slice a l.length cap), (6, I (l.length : Int)), (7, I (i : Int))]) (fun i w' => w' = w ∧ i ≤ l.length ∧ keysOk (l.take i)) (fun i => l.length - i) ?hI ?hround)))))))))))
 case hI => exact ⟨rfl, Nat.zero_le _, by simp [keysOk, Rise]⟩
 case hround =>
  rintro i wi ⟨rfl, hi, fj⟩ ih
  try dsimp only
  refine qN rfl (qV (ylt rfl rfl) (rEnd (run_seq (run_if rfl (fun ah => ?_) (fun ah => ?_)))))
  ·have af : i < l.length := by omega
   obtain ⟨lb, lo, s, rfl, cn⟩ := rd_gets hR af; refine run_skip (run_seq (run_block (qN rfl (zqm rfl (qV (yis U23 ti9 rfl rfl (by omega)) (qV (yldc U9 rfl rfl (rd_str hR af cn)) (zqa rfl (zqa rfl (qM rfl (zqm rfl (qV (yeqS rfl rfl) (rVal_if (fun h1 => ?_) (fun h1 => ?_)))))))))))))
   ·refine zqm rfl (qS (qS (qS (qV (ypT rfl rfl) (zqm rfl (qS (qS (qS (qS (qS (qS (qS (qS ?_))))))))))))); refine qS (qS (qS (qV (ypT rfl rfl) (rEnd (run_true rfl (qN rfl (zqa rfl (rEnd (run_ret Tryz.func132 rfl ?_))))))))); exact ⟨_, rfl, by rw [decide_eq_false (cu cn (.inl h1))]; rfl, rfl⟩
   ·refine zqm rfl (zqm rfl (qV (ylnS U9 rfl) (qV (ygt rfl rfl) (rVal_if (fun h2 => ?_) (fun h2 => ?_)))))
    ·refine qV (ypF rfl rfl) (zqm rfl (qS (qS (qS (qS (qS (qS (qS (qS (qS (qS (qS (qV (ypT rfl rfl) ?_))))))))))))); refine rEnd (run_true rfl (qN rfl (zqa rfl (rEnd (run_ret Tryz.func132 rfl ?_))))); exact ⟨_, rfl, by rw [decide_eq_false (cu cn (.inr (.inl (by omega))))]; rfl, rfl⟩
    ·have l9 : 1 ≤ s.length ∧ s.length ≤ 64 := ⟨List.length_pos_iff.2 h1, by omega⟩; refine qV (ypF rfl rfl) (zqm rfl (zqm rfl (qV (ygt rfl rfl) (rVal_if (fun h3 => ?_) (fun h3 => ?_)))))
     ·have zQ : i - 1 < l.length := by omega
      obtain ⟨lb', lo', p, he, Bt⟩ := rd_gets hR zQ; cases he; refine zqm rfl (zqm rfl (zqm rfl (qV (ysb rfl rfl (by omega)) ?_))); rw [show ((i : Int) - 1) = ((i - 1 : Nat) : Int) by omega]; refine qV (yis U23 ti9 rfl rfl (by omega)) (qV (yldc U9 rfl rfl (rd_str hR zQ Bt)) (zqm rfl (qV (ygeS rfl rfl) (qV (ypT rfl rfl) (qV (ypF rfl rfl) (rEnd (run_cond rfl (fun hq => ?_) (fun hq => ?_))))))))
      ·refine qN rfl (zqa rfl (rEnd (run_ret Tryz.func132 rfl ?_))); have jW : lt p s = false := by simpa using hq
       exact ⟨_, rfl, by rw [decide_eq_false (cu cn (.inr (.inr ⟨by omega, p, Bt, jW⟩)))]; rfl, rfl⟩
      ·have jW : lt p s = true := by simpa using hq
       refine run_skip (run_inBlock (run_reg rfl (zqd rfl rfl (zqm rfl (rEnd ?_))))); exact (ih (i + 1) wi ⟨rfl, af, bh fj cn l9 (.inr ⟨p, Bt, jW⟩)⟩ (by omega)).qb
     ·refine zqm rfl (qS (qS (qS (qS (qS (qS (qS (qV (ypF rfl rfl) (qV (ypF rfl rfl) (rEnd (run_false rfl (run_skip (run_inBlock ?_))))))))))))); refine run_reg rfl (zqd rfl rfl (zqm rfl (rEnd ?_))); exact (ih (i + 1) wi ⟨rfl, af, bh fj cn l9 (.inl (by omega))⟩ (by omega)).qb
  ·have : i = l.length := by omega
   subst this; rw [List.take_length] at fj; refine run_exit rfl (qN rfl (zqa rfl (rEnd (run_ret Tryz.func132 rfl ?_)))); exact ⟨_, rfl, by rw [decide_eq_true fj]; rfl, rfl⟩
theorem pleaf_ret {n : Nd} {kv vv cv : Value} {w : World} (hR : NdR w n kv vv cv) (hb : n.Bd) (m : Nat) (hm : m ≤ 100000) :
  Ret Tryz.prog 133 [ndv n kv vv cv, I (m : Int)] w fun v w' => v = .bool (decide (leafOk n m)) ∧ Ext w w' := by
 obtain ⟨⟨lf, ks, vs, cs⟩, rfl⟩ : ∃ x, x = n := ⟨_, rfl⟩
 obtain ⟨hk, hv, hc⟩ := hR
 obtain ⟨b1, b2, b3, b4, b5, b6⟩ := hb
 dsimp only at hk hv hc b1 b2 b3 b4 b5 b6
 obtain ⟨ka, kc, rfl, -⟩ := hk.shape
 obtain ⟨va, vc, rfl, -⟩ := hv.shape
 obtain ⟨ca, cc, rfl, -⟩ := hc.shape
 refine ret_of_run (e := [(0, _), (1, _)]) Tryz.func133 rfl Tryz.ntmps133 rfl rfl (qN rfl (rValP rfl rfl (pbx rfl rfl) ?_))
 rintro _ w1 ⟨b, rfl, dL, aa, aj⟩
 have iK := aa
 have aC := hk.ext aa
 have iG := hv.ext aa
 have cw : ∀ {x : Bytes × Bytes}, x ∈ ks.zip vs → ¬ (x.2.length ≤ 4095 ∧ 3 + x.1.length + x.2.length ≤ m) → ¬ leafOk ⟨lf, ks, vs, cs⟩ m := fun hx h h2 => h (h2.2.2 _ hx)
 refine zqa rfl (rEnd (run_seq (qN rfl (qV (yfa fl84_2 rfl) (qV (yld U23 rfl rfl aj rfl) (qV (yln U23 rfl) (qV (yfa fl84_1 rfl) (qV (yld U23 rfl rfl aj rfl) (qV (yln U23 rfl) (qV (yne rfl rfl) (zqm rfl (rVal_if (fun h1 => ?_) (fun h1 => ?_)))))))))))))
 ·refine qS (qS (qS (qS (qV (ypT rfl rfl) (rEnd (run_true rfl (qN rfl (zqa rfl (rEnd (run_ret Tryz.func133 rfl ?_)))))))))); exact ⟨_, rfl, by rw [decide_eq_false (fun h : leafOk _ _ => h1 (by have := h.1; dsimp only at this; omega))]; rfl, aa⟩
 ·have eQ : vs.length = ks.length := by omega
  refine qV (yfa fl84_3 rfl) (qV (yld U82 rfl rfl aj rfl) (qV (yln U82 rfl) (qV (ygt rfl rfl) (qV (ypF rfl rfl) (rEnd (run_if rfl (fun h2 => ?_) (fun h2 => ?_)))))))
  ·refine qN rfl (zqa rfl (rEnd (run_ret Tryz.func133 rfl ?_))); exact ⟨_, rfl, by rw [decide_eq_false (fun h : leafOk _ _ => by have e : cs = [] := h.2.1; rw [e] at h2; simp at h2)]; rfl, aa⟩
  ·have ia : cs = [] := List.eq_nil_of_length_eq_zero (by omega); refine run_skip (run_seq (qN rfl (qV (yfa fl84_2 rfl) (qV (yld U23 rfl rfl aj rfl) (qV (yln U23 rfl) (zqm rfl (rEnd (run_block (zqu (α := Nat) (0) (fun i => [(1, I (m : Int)), (2, ptr b 0), (21, .slice va vs.length vc), (22, I (vs.length : Int)), (23, I (i : Int))]) (fun i w' => w' = w1 ∧ i ≤ vs.length ∧ ∀ x ∈ (ks.zip vs).take i, x.2.length ≤ 4095 ∧ 3 + x.1.length + x.2.length ≤ m) (fun i => vs.length - i) ?hI ?hround)))))))))
   case hI => exact ⟨rfl, Nat.zero_le _, by simp⟩
   case hround =>
    rintro i wi ⟨rfl, hi, bF⟩ ih
    try dsimp only
    refine qN rfl (qV (ylt rfl rfl) (rEnd (run_seq (run_if rfl (fun ah => ?_) (fun ah => ?_)))))
    ·have af : i < vs.length := by omega
     obtain ⟨lb, lo, s, rfl, cn⟩ := rd_gets iG af; obtain ⟨lb2, lo2, s2, rfl, dD⟩ := rd_gets aC (show i < ks.length by omega); have hz : (ks.zip vs)[i]? = some (s2, s) := by rw [List.getElem?_zip_eq_some]; exact ⟨dD, cn⟩
     have Ea := List.mem_of_getElem? hz; have l9 := b5 s (List.mem_of_getElem? cn); have G6 := b4 s2 (List.mem_of_getElem? dD); refine run_skip (run_seq (run_block (qN rfl (zqm rfl (qV (yis U23 ti9 rfl rfl (by omega)) (qV (yldc U9 rfl rfl (rd_str iG af cn)) (zqa rfl (zqa rfl (qM rfl (zqm rfl (qV (ylnS U9 rfl) (qV (ygt rfl rfl) (zqm rfl ?_))))))))))))); refine rVal_if (fun h3 => ?_) (fun h3 => ?_)
     ·refine qS (qS (qS (qS (qS (qS (qS (qS (qS (qS (qS (qS (qV (ypT rfl rfl) (rEnd ?_))))))))))))); refine run_true rfl (qN rfl (zqa rfl (rEnd (run_ret Tryz.func133 rfl ?_)))); exact ⟨_, rfl, by rw [decide_eq_false (cw Ea (fun h => by dsimp only at h; omega))]; rfl, aa⟩
     ·refine qV (yfa fl84_1 rfl) (qV (yld U23 rfl rfl aj rfl) (zqm rfl (qV (yis U23 ti9 rfl rfl (by omega)) (qV (yldc U9 rfl rfl (rd_str aC (by omega) dD)) (qV (ylnS U9 rfl) (zqd rfl rfl (zqm rfl (qV (ylnS U9 rfl) (zqd rfl rfl (zqm rfl (qV (ygt rfl rfl) (qV (ypF rfl rfl) (rEnd ?_))))))))))))); refine run_if rfl (fun h4 => ?_) (fun h4 => ?_)
      ·refine qN rfl (zqa rfl (rEnd (run_ret Tryz.func133 rfl ?_))); exact ⟨_, rfl, by rw [decide_eq_false (cw Ea (fun h => by dsimp only at h; omega))]; rfl, aa⟩
      ·refine run_skip (run_inBlock (run_reg rfl (zqd rfl rfl (zqm rfl (rEnd ((ih (i + 1) wi ⟨rfl, af, fun x hx => ?_⟩ (by omega)).qb)))))); have cF : i < (ks.zip vs).length := by rw [List.length_zip]; omega
       rw [List.take_succ_eq_append_getElem cF] at hx; rcases List.mem_append.1 hx with hx | hx
       ·exact bF x hx
       ·rw [List.getElem?_eq_getElem cF] at hz; rw [oinj hz] at hx; simp at hx; subst hx; dsimp only; omega
    ·have e : i = vs.length := by omega
     rw [List.take_of_length_le (by rw [List.length_zip]; omega)] at bF; refine run_exit rfl (qN rfl (zqa rfl (rEnd (run_ret Tryz.func133 rfl ?_)))); exact ⟨_, rfl, by rw [decide_eq_true (show leafOk ⟨lf, ks, vs, cs⟩ m from ⟨eQ, ia, bF⟩)]; rfl, aa⟩
structure Inv (T : Tr) (H : Nat) (ns : List Int) (es : Es) : Prop where
 std : (T.root = 0 ∧ H = 0 ∧ ns = [] ∧ es = []) ∨ (T.root ≠ 0 ∧ 1 ≤ H ∧ Bn T.size T.nodes H T.root [] none ns es ∧ ns.Nodup ∧ ∀ n, T.nodes T.root = some n → n.keys ≠ [])
 all : ∀ x, T.nodes x ≠ none → x ∈ ns
 cnt : T.count = es.length
 num : ∀ x, T.nodes x ≠ none → 1 ≤ x ∧ x ≤ 2147483647
 gnum : ∀ x ∈ T.given, 1 ≤ x ∧ x ≤ 2147483647
 giv : GivS T
 chg : ∀ x, T.nodes x ≠ none → T.changed x = false → T.old x = true
theorem rise_len : ∀ {l : List Int} {a b : Int}, l.Pairwise (· < ·) → (∀ x ∈ l, a ≤ x ∧ x ≤ b) → (l.length : Int) ≤ max 0 (b + 1 - a)
 | [], _, _, _, _ => by simp; omega
 | x :: r, a, b, h, hb => by
   obtain ⟨h1, h2⟩ := List.pairwise_cons.1 h; have := rise_len (a := x + 1) (b := b) h2 (fun y hy => ⟨by have := h1 y hy; omega, (hb y (List.mem_cons_of_mem _ hy)).2⟩); have hx := hb x (List.mem_cons_self ..); rw [List.length_cons]; omega
theorem Inv.gl {T : Tr} {H : Nat} {ns : List Int} {es : Es} (h : Inv T H ns es) : T.given.length ≤ 2147483647 := by
 have := rise_len h.giv.rise h.gnum
 omega
theorem inB_top (k : Bytes) : inB [] none k := ⟨nil_le k, fun u hu => by cases hu⟩
theorem Bn.pos {z h : Nat} {N : Nodes} {no : Int} {lo : Bytes} {hi : Option Bytes} {ns : List Int} {es : Es} (s : Bn z N h no lo hi ns es) : 1 ≤ h := by
 cases h with
 | zero => exact s.elim
 | succ h => omega
section
variable {w : World} {p : Nat} {T : Tr} {nb : Int → Nat} {F : Nat → Prop}
set_option maxHeartbeats 2000000 in
theorem leaf_ret (h : TreeA w p T nb F) {H : Nat} {ns : List Int} {es : Es} (hI : Inv T H ns es) (k : Bytes) :
  Ret Tryz.prog 74 [ptr p 0, S k] w fun v w' => Ext w w' ∧ ((T.root = 0 ∧ v = .pointer none) ∨ ∃ x E e1 e2, v = ptr (nb x) 0 ∧ T.nodes x = some (leafNd E) ∧ EsOk T.size E ∧ es = e1 ++ (E ++ e2) ∧ (∀ y ∈ e1, lt y.1 k = true) ∧ (∀ y ∈ e2, lt k y.1 = true)) := by
 have hz : sizeOk (T.size : Int) := size_ok h
 obtain ⟨z1, z2, -⟩ := id hz
 obtain ⟨mN, mC, mO, gv, kn, kc, ko, O⟩ := h.opn
 have a7 := Ext.drew0 w
 refine ret_of_run (e := [(0, _), (1, _)]) Tryz.func74 rfl Tryz.ntmps74 rfl rfl (qN rfl (zqa rfl (rEnd (run_seq (run_draw (fun w' => Ext w w') (by kernel_rfl) rfl (zqt 0 rfl (ymv rfl) a7 (zqt 1 rfl (ynk rfl) a7 (zqt 2 rfl (yfa fl74_5 rfl) a7 (qT 3 rfl (fun _ h=>yld U71 rfl rfl (h.blk O.blk) rfl) a7 (zqt 4 rfl (ymv rfl) a7 (zqt 5 rfl (ynk rfl) a7 (zqt 6 rfl (yfa fl74_1 rfl) a7 (qT 7 rfl (fun _ h=>yld U3 rfl rfl (h.blk O.blk) rfl) a7 ?_)))))))))))))
 refine qT 8 rfl (fun _ h=>ylk (k := T.root) (K := KZ) U71 (ky_int U3) ti81 rfl rfl (h.map O.nm.l)) a7 ?_
 rcases hI.std with ⟨hr, -, -, -⟩ | ⟨hr, hH, hB, bj, -⟩
 ·have gx : T.nodes T.root = none := by
   cases e : T.nodes T.root with
   | none => rfl
   | some n => have := hI.num T.root (by rw [e]; simp); omega
  rw [show (getL kn T.root).getD (.pointer none) = .pointer none by rw [O.ng T.root, gx]; rfl]; refine zqt 9 rfl (yas rfl) a7 (qE (run_seq (run_block (zqu (α := Unit) (()) (fun _ => [(0, ptr p 0), (1, S k), (4, .pointer none), (5, .pointer none)]) (fun _ w' => Ext w w') (fun _ => 0) ?hI ?hround))))
  case hI => exact a7
  case hround =>
   rintro ⟨⟩ w1 aa ih
   try dsimp only
   refine run_seq (qN rfl (zqm rfl (qV (ynepN U81 rfl rfl) (zqm rfl (qS (qS (qS (qS (qS (qV (ypF rfl rfl) (rEnd (run_false rfl (run_exit rfl ?_))))))))))))); refine qN rfl (zqm rfl (zqa rfl (rEnd (run_ret Tryz.func74 rfl ?_)))); exact ⟨_, rfl, aa, .inl ⟨hr, rfl⟩⟩
 ·have jg : (getL kn T.root).getD (.pointer none) = ptr (nb T.root) 0 := by
   rw [O.ng T.root]
   cases e : T.nodes T.root with
   | none => exact absurd e (Bn.some hB _ hB.mem)
   | some n => rfl
  rw [jg]; refine zqt 9 rfl (yas rfl) a7 (qE (run_seq (run_block (zqu (α := Nat × Int) ((H, T.root)) (fun x => [(0, ptr p 0), (1, S k), (4, .pointer none), (5, ptr (nb x.2) 0)]) (fun x w' => Ext w w' ∧ ∃ lo hi ns' e1 em e2, Bn T.size T.nodes x.1 x.2 lo hi ns' em ∧ ns'.Nodup ∧ inB lo hi k ∧ es = e1 ++ (em ++ e2) ∧ (∀ y ∈ e1, lt y.1 k = true) ∧ (∀ y ∈ e2, lt k y.1 = true)) (fun x => x.1) ?hI ?hround))))
  case hI => exact ⟨a7, [], none, ns, [], es, [], hB, bj, inB_top k, by simp, by simp, by simp⟩
  case hround =>
   rintro ⟨h', x⟩ wi ⟨cA, lo, hi, ns', e1, em, e2, dB, Bu, wN, gM, iP, fP⟩ ih; dsimp only at dB; have ii := h.ext cA; obtain ⟨mNi, mCi, mOi, gvi, kni, kci, koi, Oi⟩ := ii.opn; rcases Nat.eq_or_lt_of_le dB.pos with e | e
   ·subst e; obtain ⟨hn, rfl, bi, -, -⟩ := dB.leaf (by omega); obtain ⟨q, hq, hM, eY, -⟩ := ii.node hn; have aq := hM.blk; rw [hq] at aq
    try dsimp only
    refine run_seq (qN rfl (zqm rfl (qV (ynepN U81 rfl rfl) (zqm rfl (zqm rfl (qV (ynk rfl) (qV (yfa fl84_0 rfl) (qV (yld U4 rfl rfl aq rfl) (qV ((by first | exact yntd rfl | exact ynt rfl)) ?_))))))))); refine qV (ypT rfl rfl) (rEnd (run_false rfl (run_exit rfl (qN rfl (zqm rfl (zqa rfl (rEnd (run_ret Tryz.func74 rfl ?_)))))))); exact ⟨_, rfl, cA, .inr ⟨x, em, e1, e2, rfl, hn, bi, gM, iP, fP⟩⟩
   ·obtain ⟨h2, rfl⟩ : ∃ h2, h' = h2 + 2 := ⟨h' - 2, by omega⟩; obtain ⟨c, ps, ns1, hn, rfl, fj, -, -, -, a, lo', af, nm, em', f1, f2, ha, kD, nZ, o4, -, -, G7, lG, qY, -⟩ := inner_step hz dB Bu wN; obtain ⟨q, hq, hM, eY, -⟩ := ii.node hn; obtain ⟨qb, qk, qv, qc⟩ := q; dsimp only at hq; subst hq; have aq := hM.blk; have gL := hM.kids; dsimp only at aq gL; have kcl : (innNd c ps).kids.length = ps.length + 1 := by simp [innNd]
    rw [kcl] at gL; obtain ⟨gc, cc, rfl⟩ := some_of gL (by omega); have A7 := wayI_le (ps.map (·.1)) k; rw [List.length_map] at A7; have ve := hM.bd.cs a (List.mem_of_getElem? (show (innNd c ps).kids[_]? = some a from ha)); have dl : ps.length ≤ 100000 := by have := hM.bd.cl; omega
    have ir := Ext.drew0 wi; obtain ⟨na, G8⟩ : ∃ n, T.nodes (a : Int) = some n := Option.ne_none_iff_exists'.1 (Bn.some kD _ kD.mem)
    try dsimp only
    refine run_seq (qN rfl (zqm rfl (qV (ynepN U81 rfl rfl) (zqm rfl (zqm rfl (qV (ynk rfl) (qV (yfa fl84_0 rfl) (qV (yld U4 rfl rfl aq rfl) (qV ((by first | exact yntd rfl | exact ynt rfl)) ?_))))))))); refine qV (ypT rfl rfl) (rEnd (run_true rfl (run_skip (run_block (run_draw (fun w' => Ext wi w') (by kernel_rfl) rfl (zqt 0 rfl (ymv rfl) ir (zqt 1 rfl (ynk rfl) ir (zqt 2 rfl (yfa fl74_5 rfl) ir (qT 3 rfl (fun _ h=>(by first | exact yld U71 rfl rfl (h.blk Oi.blk) rfl | exact yld U71 rfl rfl (h.blk aq) rfl)) ir ?_))))))))); refine zqt 4 rfl (ymv rfl) ir (zqt 5 rfl (ynk rfl) ir (zqt 6 rfl (yfa fl84_3 rfl) ir (qT 7 rfl (fun _ h=>(by first | exact yld U82 rfl rfl (h.blk Oi.blk) rfl | exact yld U82 rfl rfl (h.blk aq) rfl)) ir ?_))); refine zqt 8 rfl (ymv rfl) ir (zqt 9 rfl (ymv rfl) ir (zqo 10 [.tmp 32, .tmp 33] rfl cf46 rfl (way_ret k (ir.blk aq) (hM.r.ext ir) hM.bd fj.2) ?_)); rintro _ w1 ⟨rfl, rfl⟩; refine ⟨ir, ?_⟩; have G9 : wayI (innNd c ps).keys k = wayI (ps.map (·.1)) k := rfl; rw [G9]; refine zqt 11 rfl (yis U82 ti89 rfl rfl (by omega)) ir (qT 12 rfl (fun _ hS => yldc U89 rfl rfl (rd_u32 ((gL.ext hS).rd) (by omega) ha)) ir (zqt 13 rfl (ycvSi64 rfl U89 U3 (by omega)) ir (qT 14 rfl (fun _ h=>ylk (k := (a : Int)) (K := KZ) U71 (ky_int U3) ti81 rfl rfl (h.map Oi.nm.l)) ir ?_))); rw [show (getL kni (a : Int)).getD (.pointer none) = ptr (nb a) 0 by rw [Oi.ng (a : Int), G8]; rfl]; refine zqt 15 rfl (yas rfl) ir (qE (run_inBlock ?_)); exact (ih (h2 + 1, (a : Int)) _ ⟨cA.trans ir, lo', af, nm, e1 ++ f1, em', f2 ++ e2, kD, nZ, o4, by rw [gM, G7]; simp, fun y hy => (List.mem_append.1 hy).elim (iP y) (lG y), fun y hy => (List.mem_append.1 hy).elim (qY y) (fP y)⟩ (by dsimp only; omega)).qb
end
end Go.Proofs.YtocnhaoilnojmaaGreat
namespace Go.Proofs.YtocnhaoilnojmaaGreat
open Go Go.RowKit Go.Shelf
set_option linter.all false
set_option maxRecDepth 100000
section
variable {w : World}
theorem rd_getI {w : World} {a : Option Addr} {cap : Nat} {l : List Int} {i : Nat} (h : Rd w (.slice a l.length cap) 1 l.length (l.map I)) (hi : i < l.length) : ∃ b off s, a = some ⟨b, off, none⟩ ∧ l[i]? = some s := by
 rcases h.2 with ⟨c, -, h0⟩ | ⟨b', off', cap', hv, hc⟩
 ·omega
 ·cases hv; exact ⟨b', off', _, rfl, List.getElem?_eq_getElem hi⟩
theorem rd_getU {w : World} {a : Option Addr} {cap : Nat} {l : List Nat} {i : Nat} (h : Rd w (.slice a l.length cap) 1 l.length (l.map u32v)) (hi : i < l.length) : ∃ b off s, a = some ⟨b, off, none⟩ ∧ l[i]? = some s := by
 rcases h.2 with ⟨c, -, h0⟩ | ⟨b', off', cap', hv, hc⟩
 ·omega
 ·cases hv; exact ⟨b', off', _, rfl, List.getElem?_eq_getElem hi⟩
theorem mem_take_succ {α : Type} {l : List α} {i : Nat} {s x : α} (h : l[i]? = some s) : x ∈ l.take (i + 1) ↔ x ∈ l.take i ∨ x = s := by
 obtain ⟨hi, e⟩ := List.getElem?_eq_some_iff.1 h
 rw [List.take_succ_eq_append_getElem hi, e, List.mem_append, List.mem_singleton]
theorem indexI_ret {l : List Int} {lv : Value} (x : Int) (hR : Rd w lv 1 l.length (l.map I)) (hl : l.length ≤ 4294967296) :
  Ret Tryz.prog 106 [lv, I x] w fun v w' => w' = w ∧ ∃ r : Int, v = I r ∧ (0 ≤ r ↔ x ∈ l) := by
 obtain ⟨a, cap, rfl, -⟩ := hR.shape
 refine ret_of_run (e := [(0, _), (1, _)]) Tryz.func106 rfl Tryz.ntmps106 rfl rfl (qN rfl (zqa rfl (rEnd (run_seq (qN rfl (zqm rfl (qV (yln U34 rfl) (zqm rfl (rEnd (run_block (zqu (α := Nat) (0) (fun i => [(0, .slice a l.length cap), (1, I x), (7, I (l.length : Int)), (8, I (i : Int))]) (fun i w' => w' = w ∧ i ≤ l.length ∧ x ∉ l.take i) (fun i => l.length - i) ?hI ?hround)))))))))))
 case hI => exact ⟨rfl, Nat.zero_le _, by simp⟩
 case hround =>
  rintro i wi ⟨rfl, hi, cw⟩ ih
  try dsimp only
  refine qN rfl (qV (ylt rfl rfl) (rEnd (run_seq (run_if rfl (fun ah => ?_) (fun ah => ?_)))))
  ·have af : i < l.length := by omega
   obtain ⟨lb, lo, s, rfl, cn⟩ := rd_getI hR af; refine run_skip (run_seq (run_block (qN rfl (zqm rfl (zqa rfl (qM rfl (zqm rfl (zqm rfl (zqm rfl (qV (yis U34 ti3 rfl rfl (by omega)) (qV (yldc U3 rfl rfl (rd_intT hR af cn)) (qV (yeq rfl rfl) (rEnd ?_))))))))))))); refine run_if rfl (fun he => ?_) (fun he => ?_)
   ·refine qN rfl (zqm rfl (zqa rfl (rEnd (run_ret Tryz.func106 rfl ?_)))); exact ⟨_, rfl, rfl, _, rfl, ⟨fun _ => by rw [he]; exact List.mem_of_getElem? cn, fun _ => by omega⟩⟩
   ·refine run_skip (run_inBlock (run_reg rfl (zqd rfl rfl (zqm rfl (rEnd ?_)))))
    exact (ih (i + 1) _ ⟨rfl, by omega, fun hh => by
     rcases (mem_take_succ cn).1 hh with h | h
     ·exact cw h
     ·exact he h⟩ (by omega)).qb
  ·have : i = l.length := by omega
   subst this; rw [List.take_length] at cw; refine run_exit rfl (qN rfl (zqa rfl (rEnd (run_ret Tryz.func106 rfl ?_)))); exact ⟨_, rfl, rfl, -1, rfl, ⟨fun h => by omega, fun h => absurd h cw⟩⟩
theorem containsI_ret {l : List Int} {lv : Value} (x : Int) (hR : Rd w lv 1 l.length (l.map I)) (hl : l.length ≤ 4294967296) :
  Ret Tryz.prog 80 [lv, I x] w fun v w' => w' = w ∧ v = .bool (decide (x ∈ l)) := by
 refine ret_of_run (e := [(0, _), (1, _)]) Tryz.func80 rfl Tryz.ntmps80 rfl rfl (qN rfl (zqa rfl (qM rfl (zqm rfl (zqm rfl (zqc [.tmp 5, .tmp 6] cf106 rfl (indexI_ret x hR hl) ?_))))))
 rintro _ w1 ⟨rfl, r, rfl, hr⟩
 refine qV (yge rfl rfl) (zqa rfl (rEnd (run_ret Tryz.func80 rfl ?_)))
 exact ⟨_, rfl, rfl, by simp only [resVal]; congr 1; exact decide_eq_decide.2 hr⟩
theorem indexU_ret {l : List Nat} {lv : Value} (x : Nat) (hx : x < 4294967296) (hb : ∀ y ∈ l, y < 4294967296) (hR : Rd w lv 1 l.length (l.map u32v)) (hl : l.length ≤ 4294967296) :
  Ret Tryz.prog 158 [lv, u32v x] w fun v w' => w' = w ∧ ∃ r : Int, v = I r ∧ (0 ≤ r ↔ x ∈ l) := by
 obtain ⟨a, cap, rfl, -⟩ := hR.shape
 refine ret_of_run (e := [(0, _), (1, _)]) Tryz.func158 rfl Tryz.ntmps158 rfl rfl (qN rfl (zqa rfl (rEnd (run_seq (qN rfl (zqm rfl (qV (yln U82 rfl) (zqm rfl (rEnd (run_block (zqu (α := Nat) (0) (fun i => [(0, .slice a l.length cap), (1, u32v x), (7, I (l.length : Int)), (8, I (i : Int))]) (fun i w' => w' = w ∧ i ≤ l.length ∧ x ∉ l.take i) (fun i => l.length - i) ?hI ?hround)))))))))))
 case hI => exact ⟨rfl, Nat.zero_le _, by simp⟩
 case hround =>
  rintro i wi ⟨rfl, hi, cw⟩ ih
  try dsimp only
  refine qN rfl (qV (ylt rfl rfl) (rEnd (run_seq (run_if rfl (fun ah => ?_) (fun ah => ?_)))))
  ·have af : i < l.length := by omega
   obtain ⟨lb, lo, s, rfl, cn⟩ := rd_getU hR af; refine run_skip (run_seq (run_block (qN rfl (zqm rfl (zqa rfl (qM rfl (zqm rfl (zqm rfl (zqm rfl (qV (yis U82 ti89 rfl rfl (by omega)) (qV (yldc U89 rfl rfl (rd_u32 hR af cn)) (qV (yeq rfl rfl) (rEnd ?_))))))))))))); refine run_if rfl (fun he => ?_) (fun he => ?_)
   ·refine qN rfl (zqm rfl (zqa rfl (rEnd (run_ret Tryz.func158 rfl ?_)))); exact ⟨_, rfl, rfl, _, rfl, ⟨fun _ => by rw [show x = s by omega]; exact List.mem_of_getElem? cn, fun _ => by omega⟩⟩
   ·refine run_skip (run_inBlock (run_reg rfl (zqd rfl rfl (zqm rfl (rEnd ?_)))))
    exact (ih (i + 1) _ ⟨rfl, by omega, fun hh => by
     rcases (mem_take_succ cn).1 hh with h | h
     ·exact cw h
     ·exact he (by omega)⟩ (by omega)).qb
  ·have : i = l.length := by omega
   subst this; rw [List.take_length] at cw; refine run_exit rfl (qN rfl (zqa rfl (rEnd (run_ret Tryz.func158 rfl ?_)))); exact ⟨_, rfl, rfl, -1, rfl, ⟨fun h => by omega, fun h => absurd h cw⟩⟩
theorem containsU_ret {l : List Nat} {lv : Value} (x : Nat) (hx : x < 4294967296) (hb : ∀ y ∈ l, y < 4294967296) (hR : Rd w lv 1 l.length (l.map u32v)) (hl : l.length ≤ 4294967296) :
  Ret Tryz.prog 134 [lv, u32v x] w fun v w' => w' = w ∧ v = .bool (decide (x ∈ l)) := by
 refine ret_of_run (e := [(0, _), (1, _)]) Tryz.func134 rfl Tryz.ntmps134 rfl rfl (qN rfl (zqa rfl (qM rfl (zqm rfl (zqm rfl (zqc [.tmp 5, .tmp 6] cf158 rfl (indexU_ret x hx hb hR hl) ?_))))))
 rintro _ w1 ⟨rfl, r, rfl, hr⟩
 refine qV (yge rfl rfl) (zqa rfl (rEnd (run_ret Tryz.func134 rfl ?_)))
 exact ⟨_, rfl, rfl, by simp only [resVal]; congr 1; exact decide_eq_decide.2 hr⟩
theorem clone_ret {l : List Int} {sv : Value} (hS : Sl w sv 3 1 l.length (l.map I)) (hl : l.length ≤ 4294967296) :
  Ret Tryz.prog 61 [sv] w fun v w' => Sl w' v 3 1 l.length (l.map I) ∧ Ext w w' ∧ ∀ g, v.ownBlock = some g → w.heap.size ≤ g := by
 refine ret_of_run (e := [(0, _)]) Tryz.func61 rfl Tryz.ntmps61 rfl rfl ?_
 rcases hS.shape with ⟨rfl, h0⟩ | ⟨g, cap, rfl, iL⟩
 ·refine qN rfl (zqa rfl (rEnd (run_seq (qN rfl (zqm rfl (qV (yeqsN U34 rfl rfl) (rEnd (run_true rfl (qN rfl (zqa rfl (rEnd (run_ret Tryz.func61 rfl (⟨_, rfl, ?_, Ext.refl _, fun g hg => by simp [resVal, Value.ownBlock] at hg⟩))))))))))))); have : l = [] := List.eq_nil_of_length_eq_zero h0; subst this; exact Sl.nil _ _ _
 ·refine qN rfl (zqa rfl (rEnd (run_seq (qN rfl (zqm rfl (qV (yeqsN U34 rfl rfl) (rEnd (run_false rfl (run_skip (qN rfl (rValP rfl rfl (pbs (parts := []) (cs := []) (zs := []) U34 ti3 rfl (by kernel_rfl) rfl rfl rfl (by decide)) ?_))))))))))); rintro _ w4 ⟨b4, rfl, ⟨zT, aX, bs⟩, fo⟩; refine zqm rfl (rValP rfl rfl (pap U34 ti3 rfl (by decide) rfl rfl fo (hS.ext aX).rd (by intro c hc; obtain ⟨z, -, rfl⟩ := List.mem_map.1 hc; rfl) (by omega) (Nat.le_trans (by omega : 0 + l.length ≤ 4294967296) (by decide))) ?_); rintro gv5 w5 ⟨bU, aY, iX, -⟩; refine zqa rfl (rEnd (run_ret Tryz.func61 rfl ?_)); have jT := aX.size; refine ⟨_, rfl, by simpa [resVal] using bU, aX.trans_new aY (fun i hi => ?_), fun g hg => ?_⟩
  ·have e : b4 = i := oinj hi; omega
  ·rcases iX g hg with e | e
   ·have e' : b4 = g := oinj e; omega
   ·omega
theorem sortI_none {p : Option Addr} {cap : Nat} :
  Ret Tryz.prog 62 [.slice p 0 cap] w fun v w' => v = .tuple #[] ∧ w' = w :=
 Calls.mono (AnyM.slices_Sort_int_none sortA p cap w) fun _ _ ⟨he, hw⟩ => ⟨_, he, rfl, hw⟩
theorem sortZ_ret {sv : Value} {l : List Int} (hS : Sl w sv 3 1 l.length (l.map I)) (hl : l.length ≤ 8589934592) :
  Ret Tryz.prog 62 [sv] w fun v w' => v = .tuple #[] ∧ Sl w' sv 3 1 (sortZ l).length ((sortZ l).map I) ∧ Kp (fun k => sv.ownBlock = some k) w w' := by
 have aM : (sortZ l).length = l.length := List.length_mergeSort _
 by_cases h0 : l = []
 ·subst h0; obtain ⟨a, cap, rfl, -⟩ := hS.rd.shape; refine Calls.mono (sortI_none (w := w) (p := a) (cap := cap)) ?_; rintro _ _ ⟨v, he, rfl, rfl⟩; have e0 : sortZ [] = [] := by simp [sortZ]
  exact ⟨_, he, rfl, by rw [e0]; exact hS, Kp.refl _ _⟩
 ·refine Calls.mono (sortI_ret hS (List.length_pos_iff.2 h0) hl) ?_; rintro _ _ ⟨v, he, rfl, Ga, hk⟩; exact ⟨_, he, rfl, by rw [aM]; exact Ga, hk⟩
end
section
variable {w : World} {p : Nat} {T : Tr} {nb : Int → Nat} {F : Nat → Prop}
theorem given_ret (h : TreeA w p T nb F) (d8 : T.given.length ≤ 4294967296) :
  Ret Tryz.prog 27 [ptr p 0] w fun v w' => Sl w' v 3 1 T.given.length (T.given.map I) ∧ Ext w w' ∧ ∀ g, v.ownBlock = some g → w.heap.size ≤ g := by
 obtain ⟨mN, mC, mO, gv, kn, kc, ko, O⟩ := h.opn
 refine ret_of_run (e := [(0, _)]) Tryz.func27 rfl Tryz.ntmps27 rfl rfl (qN rfl (zqa rfl (rEnd (run_seq (qN rfl (zqm rfl (qV (yeqpN U24 rfl rfl) (rEnd (run_false rfl (run_skip (qN rfl (zqm rfl (qV (ynk rfl) ?_)))))))))))))
 refine qV (yfa fl74_6 rfl) (qV (yld U34 rfl rfl O.blk rfl) (zqc [.tmp 8] cf61 rfl (clone_ret O.gs d8) ?_))
 rintro v w1 ⟨eI, aa, dK⟩
 refine zqa rfl (rEnd (run_ret Tryz.func27 rfl ?_))
 exact ⟨_, rfl, eI, aa, dK⟩
end
end Go.Proofs.YtocnhaoilnojmaaGreat
namespace Go.Proofs.YtocnhaoilnojmaaGreat
open Go Go.RowKit
set_option linter.all false
set_option maxRecDepth 100000
theorem most_ok {z : Nat} (hz : sizeOk (z : Int)) (w : World) : Ret Tryz.prog 34 [I (z : Int)] w fun v w' => v = .tuple #[I ((mostE z : Nat) : Int), I 0] ∧ w' = w := by
 have := most_ret (z : Int) w
 rw [if_pos hz, if_pos hz, Int.toNat_natCast] at this
 exact this
theorem order_ok {z : Nat} (hz : sizeOk (z : Int)) (w : World) : Ret Tryz.prog 35 [I (z : Int)] w fun v w' => v = .tuple #[I ((orderE z : Nat) : Int), I 0] ∧ w' = w := by
 have := order_ret (z : Int) w
 rw [if_pos hz, if_pos hz, Int.toNat_natCast] at this
 exact this
theorem check_ret {n : Nd} {kv vv cv : Value} {w : World} (hR : NdR w n kv vv cv) (hb : n.Bd) {z : Nat} (hz : sizeOk (z : Int)) :
  Ret Tryz.prog 107 [ndv n kv vv cv, I (z : Int)] w fun v w' => v = I (if NdOk z n then 0 else 1) ∧ Ext w w' := by
 obtain ⟨z1, z2, -⟩ := id hz
 have wO : mostE z ≤ 1100 := by unfold mostE; omega
 have Ip : orderE z ≤ 1100 := by unfold orderE; omega
 have pA := hb.bytes
 obtain ⟨⟨lf, ks, vs, cs⟩, rfl⟩ : ∃ x, x = n := ⟨_, rfl⟩
 obtain ⟨hk, hv, hc⟩ := id hR
 dsimp only at hk hv hc
 obtain ⟨ka, kc, rfl, -⟩ := hk.shape
 obtain ⟨va, vc, rfl, -⟩ := hv.shape
 obtain ⟨ca, cc, rfl, -⟩ := hc.shape
 have b1 := hb.kl
 have b2 := hb.vl
 have b3 := hb.cl
 dsimp only at b1 b2 b3
 refine ret_of_run (e := [(0, _), (1, _)]) Tryz.func107 rfl Tryz.ntmps107 rfl rfl (qN rfl (rValP rfl rfl (pbx rfl rfl) ?_))
 rintro _ w1 ⟨b, rfl, dL, aa, aj⟩
 refine zqa rfl (qM rfl (zqm rfl (zqc [.tmp 11] cf34 rfl (most_ok hz _) ?_)))
 rintro _ w1 ⟨rfl, rfl⟩
 refine zqm rfl (qV (yex rfl rfl) (qV (yex rfl rfl) (zqa rfl (zqa rfl (rEnd (run_seq (qN rfl (zqm rfl (qV (yne rfl rfl) (rEnd (run_if rfl (fun h0 => ?_) (fun h0 => ?_))))))))))))
 ·exact absurd rfl h0
 ·refine run_skip (qN rfl (zqm rfl (zqc [.tmp 19] cf35 rfl (order_ok hz _) ?_))); rintro _ w1 ⟨rfl, rfl⟩; refine zqm rfl (qV (yex rfl rfl) (qV (yex rfl rfl) (zqa rfl (zqa rfl (rEnd (run_seq (run_cut (fun e' w' => ∃ B : Bool, e' = [(2, ptr b 0), (4, I 0), (5, I ((mostE z : Nat) : Int)), (7, I ((orderE z : Nat) : Int)), (9, .bool B)] ∧ (B = true ↔ keysOk ks ∧ Nd.bytes ⟨lf, ks, vs, cs⟩ ≤ z) ∧ Ext w1 w') ?hk (fun hk => ?dG))))))))
  case hk =>
   rintro e' w3 ⟨B, rfl, hB, ai⟩; have aN := ai.blk aj; have au := aa.trans ai; refine run_seq (run_cut (fun e' w' => ∃ B' : Bool, e' = [(4, I 0), (9, .bool B')] ∧ (B' = true ↔ NdOk z ⟨lf, ks, vs, cs⟩) ∧ Ext w3 w') ?eR (fun eR => ?iu))
   case eR =>
    rintro e' w4 ⟨B', rfl, jN, aX⟩; refine run_seq (qN rfl (zqm rfl (qV ((by first | exact yntd rfl | exact ynt rfl)) ?_))); refine rEnd (run_cond rfl (fun hh => ?_) (fun hh => ?_))
    ·refine qN rfl (zqa rfl (rEnd (run_ret Tryz.func107 rfl ?_))); have : B' = false := by cases B' <;> simp_all
     exact ⟨_, rfl, by rw [if_neg (fun h => by rw [jN.2 h] at this; cases this)]; rfl, au.trans aX⟩
    ·refine run_skip (qN rfl (zqa rfl (rEnd (run_ret Tryz.func107 rfl ?_)))); have : B' = true := by cases B' <;> simp_all
     exact ⟨_, rfl, by rw [if_pos (jN.1 this)]; rfl, au.trans aX⟩
   case iu =>
    refine run_block (qN rfl (qV (yfa fl84_0 rfl) (qV (yld U4 rfl rfl aN rfl) (zqa rfl (rEnd (run_cond rfl (fun hl => ?_) (fun hl => ?_)))))))
    ·refine run_reg rfl (zqm rfl (zqm rfl (rVal_bool (fun bN => ?_) (fun bN => ?_))))
     ·refine qV (yldA U84 rfl ti84 rfl (Blk.cells (n := 4) aN (news := [_, _, _, _]) rfl) rfl) (zqm rfl (zqc [.tmp 67, .tmp 68] cf133 rfl (pleaf_ret (hR.ext au) hb _ (by omega)) ?_)); rintro _ w4 ⟨rfl, aX⟩; refine qV (ypT rfl rfl) (zqa rfl (rEnd (run_inBlock ((eR _ _ ⟨_, rfl, ?_, aX⟩).qb)))); have iH : lf = true := hl; rw [decide_eq_true_iff]; unfold NdOk; dsimp only; rw [if_pos iH]; exact ⟨fun h => ⟨(hB.1 bN).1, (hB.1 bN).2, h⟩, fun h => h.2.2⟩
     ·refine qS (qS (qS (qV (ypF rfl rfl) (zqa rfl (rEnd (run_inBlock ((eR _ _ ⟨_, rfl, ⟨fun h => Bool.noConfusion h, fun h => ?_⟩, Ext.refl _⟩).qb))))))); rw [hB.2 ⟨h.1, h.2.1⟩] at bN; cases bN
    ·have iH : ¬ lf = true := by rw [show lf = false from hl]; decide
     have cw : (¬ (keysOk ks ∧ Nd.bytes ⟨lf, ks, vs, cs⟩ ≤ z) ∨ ¬ vs = [] ∨ ¬ cs.length = ks.length + 1 ∨ ¬ cs.length ≤ orderE z ∨ 0 ∈ cs) → (false = true ↔ NdOk z ⟨lf, ks, vs, cs⟩) := fun h => ⟨fun h => Bool.noConfusion h, fun ⟨h1, h2, h3⟩ => by
      rw [if_neg iH] at h3; obtain ⟨h4, h5, h6, h7⟩ := h3; dsimp only at h4 h5 h6 h7; rcases h with h | h | h | h | h
      ·exact absurd ⟨h1, h2⟩ h
      ·exact absurd h4 h
      ·exact absurd h5 h
      ·exact absurd h6 h
      ·exact absurd rfl (h7 0 h)⟩
     refine run_reg rfl (zqm rfl (zqm rfl (rVal_bool (fun bN => ?_) (fun bN => ?_))))
     ·refine qV (yfa fl84_2 rfl) (qV (yld U23 rfl rfl aN rfl) (qV (yln U23 rfl) (qV (yeq rfl rfl) (rVal_if (fun h1 => ?_) (fun h1 => ?_)))))
      ·refine qV (ypT rfl rfl) (zqm rfl (qV (yfa fl84_3 rfl) (qV (yld U82 rfl rfl aN rfl) (qV (yln U82 rfl) (qV (yfa fl84_1 rfl) (qV (yld U23 rfl rfl aN rfl) (qV (yln U23 rfl) (zqd rfl rfl (qV (yeq rfl rfl) (rVal_if (fun h2 => ?_) (fun h2 => ?_)))))))))))
       ·refine qV (ypT rfl rfl) (zqm rfl (qV (yfa fl84_3 rfl) (qV (yld U82 rfl rfl aN rfl) (qV (yln U82 rfl) (zqm rfl (qV (yle rfl rfl) (rVal_if (fun h3 => ?_) (fun h3 => ?_))))))))
        ·refine qV (ypT rfl rfl) (zqm rfl (qV (yfa fl84_3 rfl) (qV (yld U82 rfl rfl aN rfl) (zqc [.tmp 58, .const (Value.int .u32 0)] cf134 rfl (containsU_ret (l := cs) 0 (by omega) hb.cs (hc.ext au) (by omega)) ?_)))); rintro _ w4 ⟨rfl, rfl⟩; refine qV ((by first | exact yntd rfl | exact ynt rfl)) ?_; refine qV (ypT rfl rfl) (zqa rfl (rEnd (Run.qb (e := [(4, _), (9, _)]) ?_))); refine run_inBlock ((eR _ _ ⟨_, rfl, ?_, Ext.refl _⟩).qb); by_cases A8 : 0 ∈ cs
         ·have := cw (.inr (.inr (.inr (.inr A8))))
          simpa [A8] using this
         ·simp only [A8, decide_false, Bool.not_false, not_false_eq_true, decide_true, true_iff]; unfold NdOk; dsimp only; rw [if_neg iH]; refine ⟨(hB.1 bN).1, (hB.1 bN).2, ?_⟩; unfold innerOk; dsimp only; exact ⟨List.eq_nil_of_length_eq_zero (by omega), by omega, by omega, fun c r5 e => A8 (e ▸ r5)⟩
        ·refine qV (ypT rfl rfl) (zqm rfl (qS (qS (qS (qS (qV (ypF rfl rfl) (zqa rfl (rEnd (Run.qb (e := [(4, _), (9, _)]) ?_))))))))); refine run_inBlock ?_; exact (eR _ _ ⟨_, rfl, cw (.inr (.inr (.inr (.inl (by omega))))), Ext.refl _⟩).qb
       ·refine qV (ypT rfl rfl) (zqm rfl (qS (qS (qS (qS (qS (qV (ypF rfl rfl) (zqm rfl (qS (qS (qS (qS (qV (ypF rfl rfl) ?_))))))))))))); refine zqa rfl (rEnd (Run.qb (e := [(4, _), (9, _)]) ?_)); refine run_inBlock ?_; exact (eR _ _ ⟨_, rfl, cw (.inr (.inr (.inl (by omega)))), Ext.refl _⟩).qb
      ·refine qV (ypT rfl rfl) (zqm rfl (qS (qS (qS (qS (qS (qS (qS (qS (qV (ypF rfl rfl) (zqm rfl (qS (qS ?_))))))))))))); refine qS (qS (qS (qV (ypF rfl rfl) (zqm rfl (qS (qS (qS (qS (qV (ypF rfl rfl) (zqa rfl (rEnd (Run.qb (e := [(4, _), (9, _)]) ?_)))))))))))); refine run_inBlock ?_; exact (eR _ _ ⟨_, rfl, cw (.inr (.inl (fun e => h1 (by rw [e]; rfl)))), Ext.refl _⟩).qb
     ·refine qS (qS (qS (qS (qV (ypF rfl rfl) (zqm rfl (qS (qS (qS (qS (qS (qS (qS (qS ?_))))))))))))); refine qV (ypF rfl rfl) (zqm rfl (qS (qS (qS (qS (qS (qV (ypF rfl rfl) (zqm rfl (qS (qS (qS (qS (qV (ypF rfl rfl) ?_))))))))))))); refine zqa rfl (rEnd (Run.qb (e := [(4, _), (9, _)]) ?_)); refine run_inBlock ?_; exact (eR _ _ ⟨_, rfl, cw (.inl (fun h => by rw [hB.2 h] at bN; cases bN)), Ext.refl _⟩).qb
  case dG =>
   refine run_reg rfl (qV (yfa fl84_1 rfl) (qV (yld U23 rfl rfl aj rfl) (zqc [.tmp 24] cf132 rfl (pkeys_ret (hR.ext aa).keys b1) ?_))); rintro _ w1 ⟨rfl, rfl⟩; refine zqm rfl (rVal_if (fun h1 => ?_) (fun h1 => ?_))
   ·refine qV (yldA U84 rfl ti84 rfl (Blk.cells (n := 4) aj (news := [_, _, _, _]) rfl) rfl) (zqc [.tmp 27] cf70 rfl (bytes_ret _ _ _ _ _ (hR.ext aa) hb) ?_); rintro _ w3 ⟨rfl, ai⟩; refine zqm rfl (qV (yle rfl rfl) (qV (ypT rfl rfl) (zqa rfl (rEnd (Run.qb (e := [(2, _), (4, _), (5, _), (7, _), (9, _)]) ?_))))); refine (hk _ _ ⟨_, rfl, ?_, ai⟩).qb; rw [decide_eq_true_iff]; exact ⟨fun h => ⟨h1, by omega⟩, fun h => by have := h.2; omega⟩
   ·refine qS (qS (qS (qS (qV (ypF rfl rfl) (zqa rfl (rEnd (Run.qb (e := [(2, _), (4, _), (5, _), (7, _), (9, _)]) ?_))))))); exact (hk _ _ ⟨_, rfl, ⟨fun h => Bool.noConfusion h, fun h => absurd h.1 h1⟩, Ext.refl _⟩).qb

end Go.Proofs.YtocnhaoilnojmaaGreat
namespace Go.Proofs.YtocnhaoilnojmaaGreat
open Go Go.Proofs Go.Shelf
set_option linter.all false
def repA_ren : Go.Shelf.Ren := ⟨fun | 105 => 111 | 212 => 136 | 99 => 137 | 165 => 138 | 166 => 110 | 170 => 112 | 169 => 113 | 263 => 160 | 264 => 161 | 206 => 162 | 240 => 135 | 241 => 163 | 276 => 159 | 277 => 168 | n => n, fun | 9 => 9 | 3 => 3 | 4 => 4 | 20 => 20 | 0 => 0 | 46 => 118 | 109 => 178 | 5 => 5 | 72 => 152 | 76 => 156 | 51 => 89 | 146 => 199 | 53 => 175 | 148 => 201 | 70 => 150 | 37 => 123 | 75 => 155 | 127 => 180 | 164 => 197 | 80 => 160 | n => n, fun | n => n⟩
theorem repA : Go.Proofs.Lays.n105 Tryz.prog repA_ren := {
  mixed := by kernel_rfl
  f99 := Tryz.func137.trans (congrArg some (by kernel_rfl))
  f105 := Tryz.func111.trans (congrArg some (by kernel_rfl))
  f165 := Tryz.func138.trans (congrArg some (by kernel_rfl))
  f166 := Tryz.func110.trans (congrArg some (by kernel_rfl))
  f169 := Tryz.func113.trans (congrArg some (by kernel_rfl))
  f170 := Tryz.func112.trans (congrArg some (by kernel_rfl))
  f206 := Tryz.func162.trans (congrArg some (by kernel_rfl))
  f212 := Tryz.func136.trans (congrArg some (by kernel_rfl))
  f240 := Tryz.func135.trans (congrArg some (by kernel_rfl))
  f241 := Tryz.func163.trans (congrArg some (by kernel_rfl))
  f263 := Tryz.func160.trans (congrArg some (by kernel_rfl))
  f264 := Tryz.func161.trans (congrArg some (by kernel_rfl))
  f276 := Tryz.func159.trans (congrArg some (by kernel_rfl))
  f277 := Tryz.func168.trans (congrArg some (by kernel_rfl))
  t0 := Tryz.underlying0
  a0 := Tryz.isAgg0
  z0 := Tryz.sizeOf0
  v0 := Tryz.zeroValue0
  t3 := Tryz.underlying3
  a3 := Tryz.isAgg3
  z3 := Tryz.sizeOf3
  v3 := Tryz.zeroValue3
  t4 := Tryz.underlying4
  a4 := Tryz.isAgg4
  z4 := Tryz.sizeOf4
  v4 := Tryz.zeroValue4
  t5 := Tryz.underlying5
  a5 := Tryz.isAgg5
  z5 := Tryz.sizeOf5
  v5 := Tryz.zeroValue5
  t9 := Tryz.underlying9
  a9 := Tryz.isAgg9
  z9 := Tryz.sizeOf9
  v9 := Tryz.zeroValue9
  t20 := Tryz.underlying20
  a20 := Tryz.isAgg20
  z20 := Tryz.sizeOf20
  v20 := Tryz.zeroValue20
  t37 := Tryz.underlying123
  a37 := Tryz.isAgg123
  z37 := Tryz.sizeOf123
  v37 := Tryz.zeroValue123
  t46 := Tryz.underlying118
  a46 := Tryz.isAgg118
  z46 := Tryz.sizeOf118
  v46 := Tryz.zeroValue118
  t51 := Tryz.underlying89
  a51 := Tryz.isAgg89
  z51 := Tryz.sizeOf89
  v51 := Tryz.zeroValue89
  t53 := Tryz.underlying175
  a53 := Tryz.isAgg175
  z53 := Tryz.sizeOf175
  v53 := Tryz.zeroValue175
  t70 := Tryz.underlying150
  a70 := Tryz.isAgg150
  z70 := Tryz.sizeOf150
  v70 := Tryz.zeroValue150
  t72 := Tryz.underlying152
  a72 := Tryz.isAgg152
  z72 := Tryz.sizeOf152
  v72 := Tryz.zeroValue152
  t75 := Tryz.underlying155
  a75 := Tryz.isAgg155
  z75 := Tryz.sizeOf155
  v75 := Tryz.zeroValue155
  t76 := Tryz.underlying156
  a76 := Tryz.isAgg156
  z76 := Tryz.sizeOf156
  v76 := Tryz.zeroValue156
  t109 := Tryz.underlying178
  a109 := Tryz.isAgg178
  z109 := Tryz.sizeOf178
  v109 := Tryz.zeroValue178
  t127 := Tryz.underlying180
  a127 := Tryz.isAgg180
  z127 := Tryz.sizeOf180
  v127 := Tryz.zeroValue180
  t146 := Tryz.underlying199
  a146 := Tryz.isAgg199
  z146 := Tryz.sizeOf199
  v146 := Tryz.zeroValue199
  t148 := Tryz.underlying201
  a148 := Tryz.isAgg201
  z148 := Tryz.sizeOf201
  v148 := Tryz.zeroValue201
  t164 := Tryz.underlying197
  a164 := Tryz.isAgg197
  z164 := Tryz.sizeOf197
  v164 := Tryz.zeroValue197 }
end Go.Proofs.YtocnhaoilnojmaaGreat
namespace Go.Proofs.YtocnhaoilnojmaaGreat
open Go Go.RowKit
set_option linter.all false
set_option maxRecDepth 100000
def keyOk (k : Bytes) : Prop := 1 ≤ k.length ∧ k.length ≤ 64
instance (k : Bytes) : Decidable (keyOk k) := by unfold keyOk; infer_instance
def getR (es : Es) (k : Bytes) : Bytes × Int := if keyOk k then (match getE es k with | some v => (v, 0) | none => ([], 6)) else ([], 1)
theorem getE_some {es : Es} {k v : Bytes} (h : hasE es k) (hv : (es.map (·.2))[posE es k]? = some v) : getE es k = some v := by
 unfold getE; rw [if_pos h, ← hv, List.getElem?_map]
theorem getE_none {es : Es} {k : Bytes} (h : ¬ hasE es k) : getE es k = none := by unfold getE; rw [if_neg h]
theorem Ch.first {S : Int → Bytes → Option Bytes → List Int → Es → Prop} {lo : Bytes} {hi : Option Bytes} {c : Nat} {ps : List (Bytes × Nat)} {ns : List Int} {es : Es} (h : Ch S lo hi c ps ns es) : ∃ u n e, S (c : Int) lo u n e := by
 cases ps with
 | nil => exact ⟨_, _, _, h⟩
 | cons q r => obtain ⟨n1, n2, e1, e2, -, -, h1, -⟩ := h; exact ⟨_, _, _, h1⟩
section
variable {w : World} {p : Nat} {T : Tr} {nb : Int → Nat} {F : Nat → Prop}
set_option maxHeartbeats 1000000 in
theorem get_ret (h : TreeA w p T nb F) {H : Nat} {ns : List Int} {es : Es} (hI : Inv T H ns es) (k : Bytes) :
  Ret Tryz.prog 42 [ptr p 0, S k] w fun v w' => v = .tuple #[S (getR es k).1, I (getR es k).2] ∧ Ext w w' := by
 refine ret_of_run (e := [(0, _), (1, _)]) Tryz.func42 rfl Tryz.ntmps42 rfl rfl (qN rfl (zqa rfl (zqa rfl (rEnd (run_seq (run_block (qN rfl (zqm rfl (qV (yeqpN U24 rfl rfl) (zqa rfl (rEnd (run_false rfl (qN rfl ?_)))))))))))))
 refine zqm rfl (zqc [.tmp 13] cf66 rfl (key_ret k _) ?_)
 rintro _ w1 ⟨rfl, rfl⟩
 refine qV ((by first | exact yntd rfl | exact ynt rfl)) ?_
 refine zqa rfl (rEnd (run_cond rfl (fun hk => ?_) (fun hk => ?_)))
 ·refine qN rfl (zqa rfl (zqa rfl (rEnd (run_ret Tryz.func42 rfl ?_)))); have aS : ¬ keyOk k := of_decide_eq_true hk; refine ⟨_, rfl, ?_, Ext.refl _⟩; unfold getR; rw [if_neg aS]; rfl
 ·have aS : keyOk k := Decidable.not_not.1 (of_decide_eq_false hk); refine run_skip (run_inBlock (run_seq (qN rfl (zqm rfl (zqm rfl (zqc [.tmp 16, .tmp 17] cf74 rfl (leaf_ret h hI k) ?_)))))); rintro v1 w1 ⟨aa, iG⟩; rcases iG with ⟨hr, rfl⟩ | ⟨x, E, e1, e2, rfl, hn, bi, gM, iP, fP⟩
  ·refine zqa rfl (qM rfl (zqm rfl (qV (ynepN U81 rfl rfl) (rEnd (run_false rfl (run_skip (qN rfl (zqa rfl (zqa rfl (rEnd (run_ret Tryz.func42 rfl ?_))))))))))); rcases hI.std with ⟨-, -, -, rfl⟩ | ⟨jP, -⟩
   ·refine ⟨_, rfl, ?_, aa⟩; unfold getR; rw [if_pos aS]
    rfl
   ·exact absurd hr jP
  ·obtain ⟨q, hq, hM, -, -⟩ := (h.ext aa).node hn; obtain ⟨qb, qk, qv, qc⟩ := q; dsimp only at hq; subst hq; have hB := hM.blk; have hV := hM.vals; dsimp only at hB hV; have k8 : getE es k = getE E k := by rw [gM, getE_mid iP fP]
   have dr : E.length ≤ 100000 := by have := hM.bd.kl; simpa [leafNd] using this
   have hp : pos (leafNd E).keys k = posE E k := rfl; refine zqa rfl (qM rfl (zqm rfl (qV (ynepN U81 rfl rfl) (rEnd (run_true rfl (qN rfl (zqm rfl (qV (ynk rfl) (qV (yfa fl84_1 rfl) (qV (yld U23 rfl rfl hB rfl) (zqm rfl (zqc [.tmp 25, .tmp 26] cf44 rfl (bsearch_ret (leafNd E).keys k qk _ hM.r.keys (by simp [leafNd]; omega) bi.rise) ?_)))))))))))); rintro _ w2 ⟨rfl, rfl⟩; rw [hp]; refine zqm rfl (qV (yex rfl rfl) (qV (yex rfl rfl) (zqa rfl (zqa rfl (rEnd (Run.qb (e := [(4, _), (5, _), (6, _), (7, _), (8, _)]) ?_)))))); refine qN rfl (zqm rfl (rEnd (run_cond rfl (fun hf => ?_) (fun hf => ?_))))
   ·have bc : hasE E k := of_decide_eq_true hf; have ah := hasE_lt bc; have eQ : (leafNd E).vals.length = E.length := by simp [leafNd]
    rw [eQ] at hV; obtain ⟨gv, cv, rfl⟩ := some_of hV (by omega); obtain ⟨v, hv⟩ : ∃ v, (E.map (·.2))[posE E k]? = some v := ⟨_, List.getElem?_eq_getElem (by simpa using ah)⟩; refine qN rfl (zqm rfl (qV (ynk rfl) (qV (yfa fl84_2 rfl) (qV (yld U23 rfl rfl hB rfl) (zqm rfl (qV (yis U23 ti9 rfl rfl (by omega)) (qV (yldc U9 rfl rfl (rd_str (hV.rd) ah hv)) (zqa rfl (zqa rfl (rEnd (run_ret Tryz.func42 rfl (⟨_, rfl, ?_, aa⟩)))))))))))); unfold getR; rw [if_pos aS, k8, getE_some bc hv]
    rfl
   ·have bc : ¬ hasE E k := of_decide_eq_false hf; refine run_skip (qN rfl (zqa rfl (zqa rfl (rEnd (run_ret Tryz.func42 rfl (⟨_, rfl, ?_, aa⟩)))))); unfold getR; rw [if_pos aS, k8, getE_none bc]
    rfl
set_option maxHeartbeats 1000000 in
theorem depth_ret (h : TreeA w p T nb F) {H : Nat} {ns : List Int} {es : Es} (hI : Inv T H ns es) (hH : H ≤ 1000000) :
  Ret Tryz.prog 20 [ptr p 0] w fun v w' => v = I (H : Int) ∧ w' = w := by
 have hz : sizeOk (T.size : Int) := size_ok h
 obtain ⟨z1, z2, -⟩ := id hz
 obtain ⟨mN, mC, mO, gv, kn, kc, ko, O⟩ := h.opn
 refine ret_of_run (e := [(0, _)]) Tryz.func20 rfl Tryz.ntmps20 rfl rfl (qN rfl (zqa rfl (rEnd (run_seq (qN rfl (zqm rfl (qV (yeqpN U24 rfl rfl) (rEnd (run_false rfl (run_skip (qN rfl (zqa rfl (rEnd ?_)))))))))))))
 refine run_seq (qN rfl (zqm rfl (qV (ynk rfl) (qV (yfa fl74_1 rfl) (qV (yld U3 rfl rfl O.blk rfl) (zqa rfl (rEnd (run_block (zqu (α := Nat × Int × Int) ((H, T.root, 0)) (fun x => [(0, ptr p 0), (2, I 0), (3, I x.2.2), (4, I x.2.1)]) (fun x w' => w' = w ∧ x.1 ≤ H ∧ x.2.2 = H - x.1 ∧ ((x.1 = 0 ∧ x.2.1 = 0) ∨ ∃ lo hi ns' em, Bn T.size T.nodes x.1 x.2.1 lo hi ns' em)) (fun x => x.1) ?hI ?hround)))))))))
 case hI =>
  refine ⟨rfl, Nat.le_refl _, by simp, ?_⟩; rcases hI.std with ⟨a, b, -⟩ | ⟨-, -, hB, -⟩
  ·exact .inl ⟨b, a⟩
  ·exact .inr ⟨_, _, _, _, hB⟩
 case hround =>
  rintro ⟨h', x, d⟩ _ ⟨rfl, dr, hd, hc⟩ ih; dsimp only at dr hd hc
  try dsimp only
  refine run_seq (qN rfl (zqm rfl (qV (yne rfl rfl) (rEnd (run_if rfl (fun hx => ?_) (fun hx => ?_))))))
  ·rcases hc with ⟨-, e⟩ | ⟨lo, hi, ns', em, dB⟩
   ·exact absurd e hx
   have ib := dB.pos; rcases Nat.eq_or_lt_of_le ib with e | e
   ·subst e; obtain ⟨hn, -⟩ := dB.leaf (by omega); obtain ⟨q, hq, hM, eY, -⟩ := h.node hn; have aq := hM.blk; rw [hq] at aq; refine run_skip (run_seq (run_block (qN rfl (zqm rfl (qV (ynk rfl) (qV (yfa fl74_5 rfl) (qV ((by first | exact yld U71 rfl rfl O.blk rfl | exact yld U71 rfl rfl aq rfl)) ?_))))))); refine zqm rfl (qV (ylk (k := x) (K := KZ) U71 (ky_int U3) ti81 rfl rfl O.nm.l) ?_); rw [show (getL kn x).getD (.pointer none) = ptr (nb x) 0 by rw [O.ng x, hn]; rfl]; refine zqa rfl (qM rfl (zqa rfl (qM rfl (zqm rfl (qV (ynk rfl) (qV (yfa fl84_0 rfl) (qV ((by first | exact yld U4 rfl rfl O.blk rfl | exact yld U4 rfl rfl aq rfl)) ?_))))))); refine qV ((by first | exact yntd rfl | exact ynt rfl)) ?_; refine rEnd (run_false rfl (run_skip (run_inBlock (run_reg rfl (zqm rfl (zqd rfl rfl (zqa rfl (rEnd ?_)))))))); exact (ih (0, 0, d + 1) _ ⟨rfl, Nat.zero_le _, by dsimp only; omega, .inl ⟨rfl, rfl⟩⟩ (by dsimp only; omega)).qb
   ·obtain ⟨h2, rfl⟩ : ∃ h2, h' = h2 + 2 := ⟨h' - 2, by omega⟩; obtain ⟨c, ps, ns1, hn, rfl, -, -, -, -, -, iQ⟩ := Bn.inner (by omega) dB; obtain ⟨u, n1, e1, Gb⟩ := iQ.first; obtain ⟨q, hq, hM, eY, -⟩ := h.node hn; obtain ⟨qb, qk, qv, qc⟩ := q; dsimp only at hq; subst hq; have aq := hM.blk; have gL := hM.kids; dsimp only at aq gL; have kcl : (innNd c ps).kids.length = ps.length + 1 := by simp [innNd]
    rw [kcl] at gL; obtain ⟨gc, cc, rfl⟩ := some_of gL (by omega); have cG := hM.bd.cs c (by simp [innNd]); refine run_skip (run_seq (run_block (qN rfl (zqm rfl (qV (ynk rfl) (qV (yfa fl74_5 rfl) (qV ((by first | exact yld U71 rfl rfl O.blk rfl | exact yld U71 rfl rfl aq rfl)) ?_))))))); refine zqm rfl (qV (ylk (k := x) (K := KZ) U71 (ky_int U3) ti81 rfl rfl O.nm.l) ?_); rw [show (getL kn x).getD (.pointer none) = ptr (nb x) 0 by rw [O.ng x, hn]; rfl]; refine zqa rfl (qM rfl (zqa rfl (qM rfl (zqm rfl (qV (ynk rfl) (qV (yfa fl84_0 rfl) (qV ((by first | exact yld U4 rfl rfl O.blk rfl | exact yld U4 rfl rfl aq rfl)) ?_))))))); refine qV ((by first | exact yntd rfl | exact ynt rfl)) ?_; refine rEnd (run_true rfl (run_reg rfl (zqm rfl (qV (ynk rfl) (qV (yfa fl84_3 rfl) (qV ((by first | exact yld U82 rfl rfl O.blk rfl | exact yld U82 rfl rfl aq rfl)) ?_)))))); refine qV (yis U82 ti89 rfl rfl (by omega)) (qV (yldc U89 rfl rfl (rd_u32 (s := c) (gL.rd) (by omega) rfl)) (qV (ycvSi64 rfl U89 U3 (by omega)) (zqa rfl (rEnd (run_inBlock (run_reg rfl (zqm rfl (zqd rfl rfl (zqa rfl (rEnd ?_)))))))))); exact (ih (h2 + 1, (c : Int), d + 1) _ ⟨rfl, by dsimp only; omega, by dsimp only; omega, .inr ⟨_, _, _, _, Gb⟩⟩ (by dsimp only; omega)).qb
  ·rcases hc with ⟨e, -⟩ | ⟨lo, hi, ns', em, dB⟩
   ·subst e; refine run_exit rfl (qN rfl (zqm rfl (zqa rfl (rEnd (run_ret Tryz.func20 rfl ?_))))); exact ⟨_, rfl, by simp [resVal]; omega, rfl⟩
   ·exfalso; have := hI.num x (Bn.some dB _ dB.mem); omega
theorem need_ret (h : TreeA w p T nb F) {H : Nat} {ns : List Int} {es : Es} (hI : Inv T H ns es) (hH : H ≤ 1000000) :
  Ret Tryz.prog 25 [ptr p 0] w fun v w' => v = I ((H + 1 : Nat) : Int) ∧ w' = w := by
 refine ret_of_run (e := [(0, _)]) Tryz.func25 rfl Tryz.ntmps25 rfl rfl (qN rfl (zqa rfl (rEnd (run_seq (qN rfl (zqm rfl (qV (yeqpN U24 rfl rfl) (rEnd (run_false rfl (run_skip (qN rfl (zqm rfl (zqc [.tmp 5] cf20 rfl (depth_ret h hI hH) ?_)))))))))))))
 rintro _ w1 ⟨rfl, rfl⟩
 refine zqd rfl rfl (zqa rfl (rEnd (run_ret Tryz.func25 rfl ?_)))
 exact ⟨_, rfl, by simp [resVal], rfl⟩
end
end Go.Proofs.YtocnhaoilnojmaaGreat
