/- Texts TrFc, TrFd, TrFe, TrFf, TrL, TrG2, TrHa, TrHb, PgP, PgQ, PgL, PgA, TrHc, TrGv, PgB, ShR, TrHd, one behind the other (what the statement TreeShape does not use is left out). -/
import Derived.Test.YtocnhaoilnojmaaGreatTSp1
import Derived.Test.YtocnhaoilnojmaaGreatTSp3
import Derived.Test.YtocnhaoilnojmaaGreatTSp2
import Derived.Shelf.SortM.SortNone
import Derived.Shelf.Strings.Repeat
import Derived.Test.YtocnhaoilnojmaaGreatProg
namespace Go.Proofs.YtocnhaoilnojmaaGreat
open Go Go.RowKit
set_option linter.all false
set_option maxRecDepth 100000
section
variable {w : World}
theorem Tr.setN2 (T : Tr) (no : Int) (n m : Nd) : (T.setN no n).setN no m = T.setN no m := by
 unfold Tr.setN
 congr 1
 funext x
 by_cases e : x = no <;> simp [updI, e]
theorem Tr.setN_ne (T : Tr) {x no : Int} (n : Nd) (h : x ≠ no) : (T.setN no n).nodes x = T.nodes x := updI_ne h
theorem Tr.setN_same (T : Tr) (no : Int) (n : Nd) : (T.setN no n).nodes no = some n := updI_same _ _ _
set_option maxHeartbeats 2000000 in
theorem leaves_ret {p : Nat} {T : Tr} {nb : Int → Nat} {F : Nat → Prop} (h : TreeA w p T nb F) {no : Int} {c x y : Nat} {ps : List (Bytes × Nat)} {up : Bytes} {i : Nat} {E1 E2 E : Es} (hE : E1 ++ E2 = E) (hn : T.nodes no = some (innNd c ps)) (hi : ps[i]? = some (up, x)) (h1 : T.nodes (y : Int) = some (leafNd E1)) (h2 : T.nodes (x : Int) = some (leafNd E2))
  (cV : no ≠ (x : Int)) (fX : no ≠ (y : Int)) (nT : (y : Int) ≠ (x : Int)) (de : T.given.length ≤ 4294967296) (aP : E.length ≤ 100000) (d9 : 1 ≤ E1.length) (rM : 1 ≤ E2.length) (dP : T.size ≤ 1000000) (rP : T.size < 3 + entB E → 1 ≤ halfOf (sizes E) ∧ halfOf (sizes E) < E.length) :
  Ret Tryz.prog 104 [ptr p 0, .agg #[ptr (nb no) 0, I (i : Int), ptr (nb y) 0, ptr (nb x) 0]] w fun v w' => v = .tuple #[] ∧ ∃ T' F', TreeA w' p T' nb F' ∧ Kp F w w' ∧ (∀ k, F' k → F k ∨ w.heap.size ≤ k) ∧
   ((3 + entB E ≤ T.size ∧ T' = (((T.setN y (leafNd E)).dropN x).setN no (innNd c (ps.take i ++ ps.drop (i + 1))))) ∨
    (T.size < 3 + entB E ∧ ∃ up', (E[halfOf (sizes E)]?).map (·.1) = some up' ∧ T' = (((T.setN y (leafNd (E.take (halfOf (sizes E))))).setN x (leafNd (E.drop (halfOf (sizes E))))).setN no (innNd c (ps.set i (up', x)))))) := by
 have dL : maxLen = 9223372036854775807 := rfl
 obtain ⟨qy, sX, gt, j0, uH⟩ := h.nodeF h1
 obtain ⟨qx, uI, md, uJ, -⟩ := h.node h2
 have x6 := h.two h1 h2 nT gt sX md uI
 have fi := h.lt
 obtain ⟨yb, yk, yv, yq⟩ := qy
 obtain ⟨xb, xk, xv, xc⟩ := qx
 dsimp only at sX uI
 subst sX
 subst uI
 have fL := gt.blk
 have kX := gt.keys
 have rQ := gt.vals
 have cW := md.blk
 have mL := md.keys
 have x7 := md.vals
 dsimp only at fL kX rQ cW mL x7
 have uw : E.length = E1.length + E2.length := by rw [← hE]; simp
 have k1 : (leafNd E1).keys.length = E1.length := by simp [leafNd]
 have k2 : (leafNd E2).keys.length = E2.length := by simp [leafNd]
 have k3 : (leafNd E1).vals.length = E1.length := by simp [leafNd]
 have k4 : (leafNd E2).vals.length = E2.length := by simp [leafNd]
 rw [k1] at kX
 rw [k2] at mL
 rw [k3] at rQ
 rw [k4] at x7
 obtain ⟨gyk, cyk, rfl⟩ := some_of kX (by omega)
 obtain ⟨gxk, cxk, rfl⟩ := some_of mL (by omega)
 obtain ⟨gyv, cyv, rfl⟩ := some_of rQ (by omega)
 obtain ⟨gxv, cxv, rfl⟩ := some_of x7 (by omega)
 obtain ⟨Q, hQ⟩ : ∃ Q : Nat → Prop, (fun k => k = gyk ∨ k = gyv ∨ k = nb y) = Q := ⟨_, rfl⟩
 have ci : Q (nb y) := by rw [← hQ]; exact .inr (.inr rfl)
 have aX : Q gyk := by rw [← hQ]; exact .inl rfl
 have da : Q gyv := by rw [← hQ]; exact .inr (.inl rfl)
 have dB : ∀ k, Q k → Pl.fp ⟨nb y, .slice (some ⟨gyk, 0, none⟩) E1.length cyk, .slice (some ⟨gyv, 0, none⟩) E1.length cyv, yq⟩ k := by
  rw [← hQ]; rintro k (rfl | rfl | rfl)
  ·exact .inr (.inl rfl)
  ·exact .inr (.inr (.inl rfl))
  ·exact .inl rfl
 have dU : ∀ k, Pl.fp ⟨nb x, .slice (some ⟨gxk, 0, none⟩) E2.length cxk, .slice (some ⟨gxv, 0, none⟩) E2.length cxv, xc⟩ k → ¬ Q k := fun k hk hq => x6 k (dB k hq) hk
 have d1 := gt.d1
 have d2 := (gt.d2 gyk rfl).1
 have n1 : gyk ≠ nb y := fun e => d1.1 (by rw [← e]; rfl)
 have n2 : gyv ≠ nb y := fun e => d1.2.1 (by rw [← e]; rfl)
 have n3 : gyv ≠ gyk := fun e => d2 (by rw [e]; rfl)
 have x1 : gxk ≠ gyk := fun e => dU gxk (.inr (.inl rfl)) (by rw [e]; exact aX)
 have x2 : gxv ≠ gyk := fun e => dU gxv (.inr (.inr (.inl rfl))) (by rw [e]; exact aX)
 have x3 : gxv ≠ gyv := fun e => dU gxv (.inr (.inr (.inl rfl))) (by rw [e]; exact da)
 refine ret_of_run (e := [(0, _), (1, _)]) Tryz.func104 rfl Tryz.ntmps104 rfl rfl (qN rfl (rValP rfl rfl (pbx (cs := [ptr (nb no) 0, I (i : Int), ptr (nb y) 0, ptr (nb x) 0]) rfl rfl) ?_))
 rintro _ w1 ⟨b, rfl, hb, aa, ai⟩
 refine rEnd (run_seq ?_)
 have rO := ai.lt
 have dJ : ¬ Q b := fun e => by have := fi b (j0 b (dB b e)).1; omega
 have aE := Ext.drew0 w1
 have aI : Ext w w1.drew := aa.trans aE
 refine run_cut (fun e' w' => ∃ yk' yv', e' = [(0, ptr p 0), (3, ptr b 0)] ∧ Kp Q w1 w' ∧ NdM w' (leafNd E) ⟨nb y, yk', yv', yq⟩ ∧ (∀ k, Pl.fp ⟨nb y, yk', yv', yq⟩ k → Pl.fp ⟨nb y, .slice (some ⟨gyk, 0, none⟩) E1.length cyk, .slice (some ⟨gyv, 0, none⟩) E1.length cyv, yq⟩ k ∨ w1.heap.size ≤ k)) ?hk (fun hk => ?dN)
 case hk =>
  rintro _ w3 ⟨yk', yv', rfl, aw, sT, uK⟩; have eI := aa.size; have jK := aw.size; obtain ⟨F3, h3, uL⟩ := uH w3 (leafNd E) ⟨nb y, yk', yv', yq⟩ rfl sT ((aa.kp).trans (aw.mono' dB)) (fun k hk => (uK k hk).elim .inl (fun e => .inr (fun f => by have := fi k f; omega))); have oM : ∀ k, F3 k → F k ∨ w1.heap.size ≤ k := fun k hk => (uL k hk).elim .inl (fun e => (uK k e).elim (fun f => .inl (j0 k f).1) .inr); have db : Kp F w w3 := (aa.kp).trans (aw.mono' (fun k hk => (j0 k (dB k hk)).1)); have aG := aw.blk ai dJ; have CG : ¬ F3 b := fun e => (oM b e).elim (fun f => by have := fi b f; omega) (fun f => by omega); obtain ⟨mN, mC, mO, gv, kn, kc, ko, O3⟩ := h3.opn; have rR := sT.blk; dsimp only at rR; have ax := Ext.drew0 w3; refine run_seq (run_seq (run_draw (fun w' => Ext w3 w') (by kernel_rfl) rfl (zqt 0 rfl (yfa fl146_2 rfl) ax (qT 1 rfl (fun _ h=>(by first | exact yld U81 rfl rfl (h.blk aG) rfl | exact yld U81 rfl rfl (h.blk rR) rfl | exact yld U81 rfl rfl (h.blk O3.blk) rfl)) ax ?_)))); refine zqt 2 rfl (ynk rfl) ax (qT 3 rfl (fun _ hS => (by first | exact yldA U84 rfl ti84 rfl (Blk.cells (n := 4) (hS.blk aG) (news := [_, _, _, _]) rfl) rfl | exact yldA U84 rfl ti84 rfl (Blk.cells (n := 4) (hS.blk rR) (news := [_, _, _, _]) rfl) rfl | exact yldA U84 rfl ti84 rfl (Blk.cells (n := 4) (hS.blk O3.blk) (news := [_, _, _, _]) rfl) rfl)) ax ?_); refine zqt 5 rfl (ymv rfl) ax (zqt 6 rfl (ynk rfl) ax (zqt 7 rfl (yfa fl74_0 rfl) ax (qT 8 rfl (fun _ h=>(by first | exact yld U3 rfl rfl (h.blk aG) rfl | exact yld U3 rfl rfl (h.blk rR) rfl | exact yld U3 rfl rfl (h.blk O3.blk) rfl)) ax ?_))); refine zqo 4 [.tmp 37] rfl cf70 rfl (bytes_ret (leafNd E) yk' yv' yq _ (sT.r.ext ax) sT.bd) ?_; rintro _ w4 ⟨rfl, aC⟩; refine ⟨ax.trans aC, ?_⟩; rw [leafNd_bytes]; refine zqt 9 rfl (yle rfl rfl) (ax.trans aC) (qE ?_); have eL : Ext w3 w4 := ax.trans aC; have h4 := h3.ext eL; have aW := eL.blk aG; have yd : NdM w4 (leafNd E) ⟨nb y, yk', yv', yq⟩ := sT.kp eL (fun _ _ => id); have jq := eL.size; have nU : (T.setN y (leafNd E)).nodes no = some (innNd c ps) := by rw [Tr.setN_ne T _ fX]; exact hn
  have cN : ∀ k, F3 k → w.heap.size ≤ k ∨ F k := fun k hk => (oM k hk).elim .inr (fun e => .inl (by omega)); have jQ : Kp F w w4 := db.trans eL.kp; have Bu := jQ.size; refine run_if rfl (fun dt => ?_) (fun dt => ?_)
  ·refine qN rfl (zqm rfl (qV (yldA U146 rfl ti146 rfl (Blk.cells (n := 4) aW (news := [_, _, _, _]) rfl) rfl) (zqc [.tmp 44, .tmp 45] cf131 rfl (gone_ret h4 nU hi cV de) ?_))); rintro _ w5 ⟨rfl, F5, me, bh, jr⟩; refine rEnd (run_ret Tryz.func104 rfl (⟨_, rfl, rfl, _, F5, me, jQ.trans_new bh (fun k hk => cN k hk), fun k hk => ?_, .inl ⟨by have dt : ((3 + entB E : Nat) : Int) ≤ (T.size : Int) := dt; omega, rfl⟩⟩)); rcases jr k hk with e | e
   ·exact (cN k e).symm
   ·exact .inr (by omega)
  ·have ob : T.size < 3 + entB E := by have dt : ¬ ((3 + entB E : Nat) : Int) ≤ (T.size : Int) := dt; omega
   obtain ⟨o5, jn⟩ := rP ob; obtain ⟨m, hm⟩ : ∃ m, halfOf (sizes E) = m := ⟨_, rfl⟩; have CH : nb x ≠ nb y := fun e => x6 (nb y) (.inl rfl) (.inl e.symm); have ye := eL.blk (aw.blk (aa.blk cW) (dU _ (.inl rfl))); have aM := Ext.drew0 w4; have fI : b ≠ nb y := fun e => dJ (by rw [e]; exact ci); have CI : b ≠ nb x := fun e => by have := cW.lt; omega
   refine run_skip (run_seq (run_draw (fun w' => Kp (fun k => k = nb y ∨ k = nb x) w4 w') (by kernel_rfl) rfl (zqt 0 rfl (yfa fl146_3 rfl) (aM.kp) (qT 1 rfl (fun _ h=>yld U81 rfl rfl (h.blk aW (fun e => e.elim fI CI)) rfl) (aM.kp) (zqt 2 rfl (yfa fl146_2 rfl) (aM.kp) (qT 3 rfl (fun _ h=>yld U81 rfl rfl (h.blk aW (fun e => e.elim fI CI)) rfl) (aM.kp) (zqo 4 [.tmp 50] rfl cf71 rfl (cut_ret (q := ⟨nb y, yk', yv', yq⟩) (yd.kp aM (fun _ _ => id)) o5 jn) ?_))))))); rintro _ w5 ⟨kv2, vv2, q5, rfl, uM, yf, mK, mF, mG, bh, yg, yh, mM, oN⟩; refine ⟨aM.kp.trans (bh.mono' (fun _ e => .inl e)), ?_⟩; refine zqt 5 rfl (ynk rfl) (aM.kp.trans (bh.mono' (fun _ e => .inl e))) (qO 6 (nEffP (i := 6) rfl rfl (zstA (news := [.bool true, kv2, vv2, .slice none 0 0]) ti84 rfl rfl (by have a1 := oneV_sl mF; have a2 := oneV_sl mG; show (oneV _ && (oneV kv2 && (oneV vv2 && (oneV _ && true)))) = true; rw [a1, a2]; rfl) rfl (bh.blk (aM.blk ye) (fun e => CH e)) (by simp)) ?_)); rintro w6 ⟨bD, bX⟩; refine ⟨(aM.kp.trans (bh.mono' (fun _ e => .inl e))).trans (bX.mono' (fun _ e => .inr e)), ?_⟩; refine qE ?_; have oO : Kp (fun k => k = nb y ∨ k = nb x) w4 w6 := (aM.kp.trans (bh.mono' (fun _ e => .inl e))).trans (bX.mono' (fun _ e => .inr e)); have HN : w4.heap.size ≤ w4.drew.heap.size := aM.size; have kW := bh.size; have nS := bX.size; obtain ⟨q4, HO, eM, yi, uN⟩ := h4.nodeF (n := leafNd E) (no := (y : Int)) (Tr.setN_same T y _); have eq4 : q4 = ⟨nb y, yk', yv', yq⟩ := eM.uniq yd HO; subst eq4; have Bv := h4.lt
   obtain ⟨F5, h5, jr⟩ := uN w5 _ q5 uM mK (aM.kp.trans (bh.mono' (fun k e => .inl e))) (fun k hk => by
    rcases hk with e | e | e | e
    ·exact .inl (.inl (by rw [e, uM]))
    ·exact .inr (fun f => by have := yg k e; have := Bv k f; omega)
    ·exact .inr (fun f => by have := yh k e; have := Bv k f; omega)
    ·exact .inl (.inr (.inr (.inr (by rw [yf] at e; exact e)))))
   rw [Tr.setN2] at h5
   have dV : ∀ k, F5 k → F3 k ∨ w4.heap.size ≤ k := fun k hk => by
    rcases jr k hk with e | e | e | e | e
    ·exact .inl e
    ·exact .inl (by rw [e, uM]; exact (yi _ (.inl rfl)).1)
    ·exact .inr (by have := yg k e; omega)
    ·exact .inr (by have := yh k e; omega)
    ·exact .inl (yi k (.inr (.inr (.inr (by rw [yf] at e; exact e))))).1
   have oP : NdM w6 (leafNd (E.drop (halfOf (sizes E)))) ⟨nb x, kv2, vv2, .slice none 0 0⟩ := by
    have HP : nb x < w4.heap.size := ye.lt; have e1 : (leafNd (E.drop (halfOf (sizes E)))).keys.length = (E.drop (halfOf (sizes E))).length := by simp [leafNd]
    have e2 : (leafNd (E.drop (halfOf (sizes E)))).vals.length = (E.drop (halfOf (sizes E))).length := by simp [leafNd]
    have bj := sT.bd; refine ⟨bD, by rw [e1]; exact mF.kp bX (fun g hg e => by have := (mM g hg).1; omega), by rw [e2]; exact mG.kp bX (fun g hg e => by have := (oN g hg).1; omega), Sl.nil _ _ _, ⟨by rw [e1]; simp; omega, by rw [e2]; simp; omega, by simp [leafNd], fun k hk => bj.ks k (by simp only [leafNd, List.map_drop] at hk ⊢; exact List.mem_of_mem_drop hk), fun k hk => bj.vs k (by simp only [leafNd, List.map_drop] at hk ⊢; exact List.mem_of_mem_drop hk), fun k hk => by simp [leafNd] at hk⟩, ⟨fun e => ?_, fun e => ?_, fun e => by cases e⟩, fun k hk => ⟨(mM k hk).2.2, fun e => by cases e⟩, fun k hk e => by cases e⟩
    ·have := (mM _ e).1; have e : w4.drew.heap.size ≤ nb x := this; omega
    ·have := (oN _ e).1; have e : w4.drew.heap.size ≤ nb x := this; omega
   obtain ⟨q6, rH, gK, rS, uO⟩ := h5.nodeF (n := leafNd E2) (no := (x : Int)) (by rw [Tr.setN_ne T _ (Ne.symm nT)]; exact h2)
   obtain ⟨F6, h6, uE⟩ := uO w6 _ ⟨nb x, kv2, vv2, .slice none 0 0⟩ rH.symm oP (bX.mono' (fun k e => .inl (by rw [rH]; exact e))) (fun k hk => by
    rcases hk with e | e | e | e
    ·exact .inl (.inl (by rw [rH]; exact e))
    ·exact .inr (fun f => (jr k f).elim (fun f => by have := (mM k e).1; have := Bv k f; omega) (mM k e).2.1)
    ·exact .inr (fun f => (jr k f).elim (fun f => by have := (oN k e).1; have := Bv k f; omega) (oN k e).2)
    ·cases e)
   have rT : ∀ k, F6 k → F3 k ∨ w4.heap.size ≤ k := fun k hk => by
    rcases uE k hk with e | e | e | e | e
    ·exact dV k e
    ·exact dV k (rS k (.inl (by rw [rH]; exact e))).1
    ·exact .inr (by have := (mM k e).1; omega)
    ·exact .inr (by have := (oN k e).1; omega)
    ·cases e
   have CJ : ¬ F6 b := fun e => (rT b e).elim CG (fun f => by omega); have oQ := oO.blk aW (fun e => e.elim fI CI); have sY : ((T.setN y (leafNd (E.take (halfOf (sizes E))))).setN x (leafNd (E.drop (halfOf (sizes E))))).nodes no = some (innNd c ps) := by rw [Tr.setN_ne _ _ cV, Tr.setN_ne _ _ fX]; exact hn
   obtain ⟨q7, nR, f4, uP, uQ⟩ := h6.nodeF sY; have yj := h6.two (Tr.setN_same _ x _) sY (Ne.symm cV) oP rfl f4 nR; obtain ⟨pb, pk, pv, pc⟩ := q7; dsimp only at nR; subst nR; have mP := f4.blk; have uR := f4.keys; dsimp only at mP uR
   have cE : i < ps.length := by
    rcases Nat.lt_or_ge i ps.length with h | h
    ·exact h
    ·rw [List.getElem?_eq_none h] at hi; cases hi
   have kp1 : (innNd c ps).keys.length = ps.length := by simp [innNd]
   have Ga : ps.length ≤ 100000 := by have := f4.bd.kl; omega
   obtain ⟨gpk, cpk, rfl⟩ := some_of uR (by omega); obtain ⟨g2, c2, rfl⟩ := some_of oP.keys (by simp [leafNd]; omega); have yl : ((E.drop (halfOf (sizes E))).map (·.1))[0]? = some (E[halfOf (sizes E)]).1 := by simp [List.getElem?_drop, jn]
   have Kr : 1 ≤ (leafNd (E.drop (halfOf (sizes E)))).keys.length := by simp [leafNd]; omega
   have sO : gpk ≠ b := fun e => CJ (by rw [← e]; exact (uP gpk (.inr (.inl rfl))).1); have x8 : gpk ≠ nb no := fun e => f4.d1.1 (by rw [← e]; rfl); have lx : gpk ≠ nb x := fun e => yj (nb x) (.inl rfl) (.inr (.inl (by rw [← e]; rfl))); have CK : g2 ≠ gpk := fun e => yj gpk (.inr (.inl (by rw [← e]; rfl))) (.inr (.inl rfl)); have aS := Ext.drew0 w6; refine run_draw (fun w' => Kp (fun k => k = gpk) w6 w') (by kernel_rfl) rfl (zqt 0 rfl (yfa fl146_0 rfl) (aS.kp) (qT 1 rfl (fun _ h=>(by first | exact yld U81 rfl rfl (h.blk oQ sO.symm) rfl | exact yld U81 rfl rfl (h.blk bD lx.symm) rfl | exact yld U81 rfl rfl (h.blk mP x8.symm) rfl)) (aS.kp) ?_)); refine zqt 2 rfl (ynk rfl) (aS.kp) (zqt 3 rfl (yfa fl84_1 rfl) (aS.kp) (qT 4 rfl (fun _ h=>(by first | exact yld U23 rfl rfl (h.blk oQ sO.symm) rfl | exact yld U23 rfl rfl (h.blk bD lx.symm) rfl | exact yld U23 rfl rfl (h.blk mP x8.symm) rfl)) (aS.kp) ?_)); refine zqt 5 rfl (yfa fl146_1 rfl) (aS.kp) (qT 6 rfl (fun _ h=>(by first | exact yld U3 rfl rfl (h.blk oQ sO.symm) rfl | exact yld U3 rfl rfl (h.blk bD lx.symm) rfl | exact yld U3 rfl rfl (h.blk mP x8.symm) rfl)) (aS.kp) ?_); refine zqt 7 rfl (yfa fl146_3 rfl) (aS.kp) (qT 8 rfl (fun _ h=>(by first | exact yld U81 rfl rfl (h.blk oQ sO.symm) rfl | exact yld U81 rfl rfl (h.blk bD lx.symm) rfl | exact yld U81 rfl rfl (h.blk mP x8.symm) rfl)) (aS.kp) ?_); refine zqt 9 rfl (ynk rfl) (aS.kp) (zqt 10 rfl (yfa fl84_1 rfl) (aS.kp) (qT 11 rfl (fun _ h=>(by first | exact yld U23 rfl rfl (h.blk oQ sO.symm) rfl | exact yld U23 rfl rfl (h.blk bD lx.symm) rfl | exact yld U23 rfl rfl (h.blk mP x8.symm) rfl)) (aS.kp) ?_)); refine zqt 12 rfl (yis U23 ti9 rfl rfl (by omega)) (aS.kp) (qT 13 rfl (fun _ hS => yldc U9 rfl rfl (rd_str ((oP.keys.kp hS (fun g hg e => CK (by have e1 : g2 = g := oinj hg; omega))).rd) (by simp [leafNd]; omega) yl)) (aS.kp) ?_); refine zqt 14 rfl (yis U23 ti9 rfl rfl (by omega)) (aS.kp) (qO 15 (nEffP (i := 15) rfl rfl (zstSl ti9 rfl rfl rfl (uR.ext aS) (by simp [innNd]; omega)) ?_)); rintro w7 ⟨cX, bg⟩; refine ⟨aS.kp.trans bg, ?_⟩; refine qE (Run.qb (e := []) ?_); refine run_end Tryz.func104 rfl ?_; have dW : Kp (fun k => k = gpk) w6 w7 := aS.kp.trans bg
   have CL : NdM w7 (innNd c (ps.set i ((E[halfOf (sizes E)]).1, x))) ⟨nb no, .slice (some ⟨gpk, 0, none⟩) (innNd c ps).keys.length cpk, pv, pc⟩ := by
    have e0 : (innNd c (ps.set i ((E[halfOf (sizes E)]).1, x))).keys.length = (innNd c ps).keys.length := by simp [innNd]
    have e1 : (innNd c (ps.set i ((E[halfOf (sizes E)]).1, x))).keys = (innNd c ps).keys.set i (E[halfOf (sizes E)]).1 := by simp [innNd, List.map_set]
    have e2 : (innNd c (ps.set i ((E[halfOf (sizes E)]).1, x))).kids = (innNd c ps).kids := by
     simp only [innNd, List.map_set]
     congr 1
     have hx : (ps.map (·.2))[i]? = some x := by rw [List.getElem?_map, hi]; rfl
     apply List.ext_getElem?; intro j; by_cases ej : i = j
     ·subst ej; rw [List.getElem?_set_self (by simpa using cE), hx]
     ·rw [List.getElem?_set_ne ej]
    have bj := f4.bd; refine ⟨dW.blk mP x8.symm, ?_, ?_, ?_, ⟨by rw [e0]; exact bj.kl, bj.vl, by rw [e2]; exact bj.cl, fun k hk => ?_, bj.vs, by rw [e2]; exact bj.cs⟩, f4.d1, f4.d2, f4.d3⟩
    ·rw [e0, e1, List.map_set]; rw [Nat.zero_add, Nat.mul_one] at cX; exact cX
    ·exact f4.vals.kp dW (fun g hg e => (f4.d2 gpk rfl).1 (by rw [← e]; exact hg))
    ·rw [e2]; exact f4.kids.kp dW (fun g hg e => (f4.d2 gpk rfl).2 (by rw [← e]; exact hg))
    ·rw [e1] at hk; rcases List.mem_or_eq_of_mem_set hk with e | e
     ·exact bj.ks k e
     ·exact oP.bd.ks k (by
       rw [e]
       exact List.mem_of_getElem? yl)
   obtain ⟨F7, h7, rN⟩ := uQ w7 _ ⟨nb no, .slice (some ⟨gpk, 0, none⟩) (innNd c ps).keys.length cpk, pv, pc⟩ rfl CL (dW.mono' (fun k e => .inr (.inl (by rw [e]; rfl)))) (fun k hk => .inl hk); have oR : ∀ k, F3 k ∨ w4.heap.size ≤ k → F k ∨ w.heap.size ≤ k := fun k hk => hk.elim (fun e => (cN k e).symm) (fun e => .inr (by omega)); refine ⟨_, rfl, rfl, _, F7, h7, ?_, fun k hk => ?_, .inr ⟨ob, (E[halfOf (sizes E)]).1, by simp [jn], rfl⟩⟩
   ·have a := jQ.trans_new oO (fun k hk => by
     rcases hk with e | e
     ·exact .inr (by rw [e]; exact (j0 _ (.inl rfl)).1)
     ·exact .inr (by rw [e]; exact (uJ _ (.inl rfl)).1))
    exact a.trans_new dW (fun k hk => by rw [hk]; exact (oR _ (rT _ (uP gpk (.inr (.inl rfl))).1)).symm)
   ·rcases rN k hk with e | e
    ·exact oR k (rT k e)
    ·exact oR k (rT k (uP k e).1)
 case dN =>
  have ao : ∀ kv' vv' wf, Sl wf kv' 9 1 (E1.length + E2.length) ((leafNd E1).keys.map S ++ (leafNd E2).keys.map S) → (∀ g, kv'.ownBlock = some g → g = gyk ∨ w1.heap.size ≤ g) → Sl wf vv' 9 1 (E1.length + E2.length) ((leafNd E1).vals.map S ++ (leafNd E2).vals.map S) → (∀ g, vv'.ownBlock = some g → g = gyv ∨ w1.heap.size ≤ g) → (∀ g, kv'.ownBlock = some g → vv'.ownBlock ≠ some g) → Blk wf (nb y) [.bool true, kv', vv', yq] 84 → Kp Q w1 wf →
    NdM wf (leafNd E) ⟨nb y, kv', vv', yq⟩ ∧ ∀ k, Pl.fp ⟨nb y, kv', vv', yq⟩ k → Pl.fp ⟨nb y, .slice (some ⟨gyk, 0, none⟩) E1.length cyk, .slice (some ⟨gyv, 0, none⟩) E1.length cyv, yq⟩ k ∨ w1.heap.size ≤ k := by
   intro kv' vv' wf hA sV hB sW fk iX mH; have uS : ∀ k, yq.ownBlock = some k → k < w.heap.size ∧ k ≠ gyk ∧ k ≠ gyv ∧ k ≠ nb y := fun k hk => ⟨gt.kids.lt hk, fun e => (gt.d2 gyk rfl).2 (by rw [← e]; exact hk), fun e => gt.d3 gyv rfl (by rw [← e]; exact hk), fun e => d1.2.2 (by rw [← e]; exact hk)⟩; have HQ : nb y < w.heap.size := fL.lt; have eI := aa.size; refine ⟨⟨iX, ?_, ?_, ?_, ?_, ⟨fun e => ?_, fun e => ?_, d1.2.2⟩, fun k hk => ⟨fk k hk, fun e => ?_⟩, fun k hk e => ?_⟩, fun k hk => ?_⟩
   ·have e : (leafNd E).keys.length = E1.length + E2.length := by simp [leafNd, uw]
    rw [e]; have e2 : (leafNd E).keys.map S = (leafNd E1).keys.map S ++ (leafNd E2).keys.map S := by simp [leafNd, ← hE]
    rw [e2]; exact hA
   ·have e : (leafNd E).vals.length = E1.length + E2.length := by simp [leafNd, uw]
    rw [e]; have e2 : (leafNd E).vals.map S = (leafNd E1).vals.map S ++ (leafNd E2).vals.map S := by simp [leafNd, ← hE]
    rw [e2]; exact hB
   ·exact (gt.kids.ext aa).kp mH (fun g hg hq => by
     rw [← hQ] at hq; obtain ⟨-, a1, a2, a3⟩ := uS g hg; rcases hq with e | e | e
     ·exact a1 e
     ·exact a2 e
     ·exact a3 e)
   ·have b1 := gt.bd; have b2 := md.bd; refine ⟨by simp [leafNd]; omega, by simp [leafNd]; omega, by simp [leafNd], fun k hk => ?_, fun k hk => ?_, fun k hk => by simp [leafNd] at hk⟩
    ·simp only [leafNd, ← hE, List.map_append, List.mem_append] at hk; exact hk.elim (b1.ks k) (b2.ks k)
    ·simp only [leafNd, ← hE, List.map_append, List.mem_append] at hk; exact hk.elim (b1.vs k) (b2.vs k)
   ·rcases sV _ e with e | e
    ·exact n1 e.symm
    ·have e : w1.heap.size ≤ nb y := e; omega
   ·rcases sW _ e with e | e
    ·exact n2 e.symm
    ·have e : w1.heap.size ≤ nb y := e; omega
   ·obtain ⟨a0, a1, a2, a3⟩ := uS k e; rcases sV k hk with f | f
    ·exact a1 f
    ·omega
   ·obtain ⟨a0, a1, a2, a3⟩ := uS k e; rcases sW k hk with f | f
    ·exact a2 f
    ·omega
   ·rcases hk with hk | hk | hk | hk
    ·exact .inl (.inl hk)
    ·rcases sV k hk with f | f
     ·exact .inl (.inr (.inl (by rw [f]; rfl)))
     ·exact .inr f
    ·rcases sW k hk with f | f
     ·exact .inl (.inr (.inr (.inl (by rw [f]; rfl))))
     ·exact .inr f
    ·exact .inl (.inr (.inr (.inr hk)))
  have eN : ∀ {l : List Bytes}, ∀ c' ∈ l.map S, c'.oneCell' = true := fun c' hc => by obtain ⟨z, -, rfl⟩ := List.mem_map.1 hc; rfl
  refine run_draw (fun w' => Kp Q w1 w') (by kernel_rfl) rfl (zqt 0 rfl (yfa fl146_2 rfl) (aE.kp) (qT 1 rfl (fun _ hS => (by first | exact yld U81 rfl rfl (hS.blk ai dJ) rfl | exact yld U81 rfl rfl (hS.blk (aa.blk cW) (dU _ (.inl rfl))) rfl)) (aE.kp) ?_)); refine zqt 2 rfl (yfa fl146_2 rfl) (aE.kp) (qT 3 rfl (fun _ hS => (by first | exact yld U81 rfl rfl (hS.blk ai dJ) rfl | exact yld U81 rfl rfl (hS.blk (aa.blk cW) (dU _ (.inl rfl))) rfl)) (aE.kp) ?_); refine zqt 4 rfl (yfa fl146_2 rfl) (aE.kp) (qT 5 rfl (fun _ hS => (by first | exact yld U81 rfl rfl (hS.blk ai dJ) rfl | exact yld U81 rfl rfl (hS.blk (aa.blk cW) (dU _ (.inl rfl))) rfl)) (aE.kp) ?_); refine zqt 6 rfl (ynk rfl) (aE.kp) (zqt 7 rfl (yfa fl84_1 rfl) (aE.kp) (zqt 9 rfl (yfa fl146_3 rfl) (aE.kp) (qT 10 rfl (fun _ hS => (by first | exact yld U81 rfl rfl (hS.blk ai dJ) rfl | exact yld U81 rfl rfl (hS.blk (aa.blk cW) (dU _ (.inl rfl))) rfl)) (aE.kp) ?_))); refine zqt 11 rfl (ynk rfl) (aE.kp) (zqt 12 rfl (yfa fl84_1 rfl) (aE.kp) (qT 13 rfl (fun _ hS => (by first | exact yld U23 rfl rfl (hS.blk ai dJ) rfl | exact yld U23 rfl rfl (hS.blk (aa.blk cW) (dU _ (.inl rfl))) rfl)) (aE.kp) ?_)); refine zqt 15 rfl (yfa fl146_2 rfl) (aE.kp) (qT 16 rfl (fun _ hS => (by first | exact yld U81 rfl rfl (hS.blk ai dJ) rfl | exact yld U81 rfl rfl (hS.blk (aa.blk cW) (dU _ (.inl rfl))) rfl)) (aE.kp) ?_); refine zqt 17 rfl (ynk rfl) (aE.kp) (zqt 18 rfl (yfa fl84_2 rfl) (aE.kp) (zqt 20 rfl (yfa fl146_3 rfl) (aE.kp) (qT 21 rfl (fun _ hS => (by first | exact yld U81 rfl rfl (hS.blk ai dJ) rfl | exact yld U81 rfl rfl (hS.blk (aa.blk cW) (dU _ (.inl rfl))) rfl)) (aE.kp) ?_))); refine zqt 22 rfl (ynk rfl) (aE.kp) (zqt 23 rfl (yfa fl84_2 rfl) (aE.kp) (qT 24 rfl (fun _ hS => (by first | exact yld U23 rfl rfl (hS.blk ai dJ) rfl | exact yld U23 rfl rfl (hS.blk (aa.blk cW) (dU _ (.inl rfl))) rfl)) (aE.kp) ?_)); refine hTwo (i := 8) (j := 19) (by kernel_rfl) ?_ ?_
  ·refine nVal (i := 8) rfl rfl rfl (yld U23 rfl rfl (aI.blk fL) rfl) (aE.kp) (hTwo (i := 14) (j := 19) (by kernel_rfl) ?_ ?_)
   ·refine nValP (i := 14) rfl rfl rfl (pap U23 ti9 rfl (by decide) rfl rfl (kX.ext aI) (mL.ext aI).rd eN (by omega) (by omega)) ?_; rintro kv14 w14 ⟨cI, ac, dx, -⟩; refine ⟨aE.kp.trans (ac.mono' (fun _ e => by cases e; exact aX)), ?_⟩; refine qO 19 (nVal (i := 19) rfl rfl rfl (yld U23 rfl rfl (ac.blk (aI.blk fL) (fun e => n1 (oinj e))) rfl) ((aE.kp.trans (ac.mono' (fun _ e => by cases e; exact aX)))) ?_); refine qO 25 (nValP (i := 25) rfl rfl rfl (pap U23 ti9 rfl (by decide) rfl rfl ((rQ.ext aI).kp ac (fun g hg e => n3 (by cases hg; exact (oinj e).symm))) ((x7.ext aI).kp ac (fun g hg e => x2 (by cases hg; exact (oinj e).symm))).rd eN (by omega) (by omega)) ?_); rintro vv25 w25 ⟨jR, bT, oS, -⟩; refine ⟨(aE.kp.trans (ac.mono' (fun _ e => by cases e; exact aX))).trans (bT.mono' (fun _ e => by cases e; exact da)), ?_⟩; refine zqt 26 rfl (ynk rfl) ((aE.kp.trans (ac.mono' (fun _ e => by cases e; exact aX))).trans (bT.mono' (fun _ e => by cases e; exact da))) ?_; refine zqt 27 rfl (yfa fl84_1 rfl) ((aE.kp.trans (ac.mono' (fun _ e => by cases e; exact aX))).trans (bT.mono' (fun _ e => by cases e; exact da))) ?_; have cR : Kp Q w1 w25 := ((aE.kp.trans (ac.mono' (fun _ e => by cases e; exact aX))).trans (bT.mono' (fun _ e => by cases e; exact da))); have ar := bT.blk (ac.blk (aI.blk fL) (fun e => n1 (oinj e))) (fun e => n2 (oinj e)); refine qO 28 (nEffP (i := 28) rfl rfl (zst ti23 rfl rfl (oneV_sl cI) ar (by simp)) ?_); rintro w26 ⟨oT, aL⟩; refine ⟨cR.trans (aL.mono' (fun _ e => by rw [e]; exact ci)), ?_⟩; refine zqt 29 rfl (ynk rfl) (cR.trans (aL.mono' (fun _ e => by rw [e]; exact ci))) ?_; refine zqt 30 rfl (yfa fl84_2 rfl) (cR.trans (aL.mono' (fun _ e => by rw [e]; exact ci))) ?_; refine qO 31 (nEffP (i := 31) rfl rfl (zst ti23 rfl rfl (oneV_sl jR) oT (by simp)) ?_); rintro w27 ⟨gI, bO⟩; refine ⟨(cR.trans (aL.mono' (fun _ e => by rw [e]; exact ci))).trans (bO.mono' (fun _ e => by rw [e]; exact ci)), ?_⟩; refine qE (Run.qb (e := [(0, _), (3, _)]) ?_); have aT : Kp Q w1 w27 := (cR.trans (aL.mono' (fun _ e => by rw [e]; exact ci))).trans (bO.mono' (fun _ e => by rw [e]; exact ci)); have gH : Kp (fun k => k = nb y) w25 w27 := aL.trans bO; have z1 := aI.size; have z2 := aE.size; have z3 := ac.size; have l1 := kX.lt (g := gyk) rfl; have l2 := rQ.lt (g := gyv) rfl; have l3 : nb y < w.heap.size := fL.lt; have oU : ∀ g, kv14.ownBlock = some g → g < w14.heap.size := fun g hg => cI.lt hg; have mf : ∀ g, kv14.ownBlock = some g → g = gyk ∨ w1.heap.size ≤ g := fun g hg => (dx g hg).elim (fun e => .inl (oinj e).symm) (fun e => .inr (by omega)); have bU : ∀ g, vv25.ownBlock = some g → g = gyv ∨ w14.heap.size ≤ g := fun g hg => (oS g hg).elim (fun e => .inl (oinj e).symm) .inr; have hA := (cI.kp bT (fun g hg e => by have e : gyv = g := oinj e; have := mf g hg; omega)).kp gH (fun g hg e => by have := mf g hg; omega); have hB := jR.kp gH (fun g hg e => by have := bU g hg; omega); obtain ⟨r1, r2⟩ := ao _ _ _ hA mf hB (fun g hg => (bU g hg).elim .inl (fun e => .inr (by omega))) (fun g hg e => by have := mf g hg; have := bU g e; have := oU g hg; omega) gI aT
    exact (hk _ _ ⟨_, _, rfl, aT, r1, r2⟩).qb
   ·refine nVal (i := 19) rfl rfl rfl (yld U23 rfl rfl (aI.blk fL) rfl) (aE.kp) (qO 14 (nValP (i := 14) rfl rfl rfl (pap U23 ti9 rfl (by decide) rfl rfl (kX.ext aI) (mL.ext aI).rd eN (by omega) (by omega)) ?_)); rintro kv14 w14 ⟨cI, ac, dx, -⟩; refine ⟨aE.kp.trans (ac.mono' (fun _ e => by cases e; exact aX)), ?_⟩; refine qO 25 (nValP (i := 25) rfl rfl rfl (pap U23 ti9 rfl (by decide) rfl rfl ((rQ.ext aI).kp ac (fun g hg e => n3 (by cases hg; exact (oinj e).symm))) ((x7.ext aI).kp ac (fun g hg e => x2 (by cases hg; exact (oinj e).symm))).rd eN (by omega) (by omega)) ?_); rintro vv25 w25 ⟨jR, bT, oS, -⟩; refine ⟨(aE.kp.trans (ac.mono' (fun _ e => by cases e; exact aX))).trans (bT.mono' (fun _ e => by cases e; exact da)), ?_⟩; refine zqt 26 rfl (ynk rfl) ((aE.kp.trans (ac.mono' (fun _ e => by cases e; exact aX))).trans (bT.mono' (fun _ e => by cases e; exact da))) ?_; refine zqt 27 rfl (yfa fl84_1 rfl) ((aE.kp.trans (ac.mono' (fun _ e => by cases e; exact aX))).trans (bT.mono' (fun _ e => by cases e; exact da))) ?_; have cR : Kp Q w1 w25 := ((aE.kp.trans (ac.mono' (fun _ e => by cases e; exact aX))).trans (bT.mono' (fun _ e => by cases e; exact da))); have ar := bT.blk (ac.blk (aI.blk fL) (fun e => n1 (oinj e))) (fun e => n2 (oinj e)); refine qO 28 (nEffP (i := 28) rfl rfl (zst ti23 rfl rfl (oneV_sl cI) ar (by simp)) ?_); rintro w26 ⟨oT, aL⟩; refine ⟨cR.trans (aL.mono' (fun _ e => by rw [e]; exact ci)), ?_⟩; refine zqt 29 rfl (ynk rfl) (cR.trans (aL.mono' (fun _ e => by rw [e]; exact ci))) ?_; refine zqt 30 rfl (yfa fl84_2 rfl) (cR.trans (aL.mono' (fun _ e => by rw [e]; exact ci))) ?_; refine qO 31 (nEffP (i := 31) rfl rfl (zst ti23 rfl rfl (oneV_sl jR) oT (by simp)) ?_); rintro w27 ⟨gI, bO⟩; refine ⟨(cR.trans (aL.mono' (fun _ e => by rw [e]; exact ci))).trans (bO.mono' (fun _ e => by rw [e]; exact ci)), ?_⟩; refine qE (Run.qb (e := [(0, _), (3, _)]) ?_); have aT : Kp Q w1 w27 := (cR.trans (aL.mono' (fun _ e => by rw [e]; exact ci))).trans (bO.mono' (fun _ e => by rw [e]; exact ci)); have gH : Kp (fun k => k = nb y) w25 w27 := aL.trans bO; have z1 := aI.size; have z2 := aE.size; have z3 := ac.size; have l1 := kX.lt (g := gyk) rfl; have l2 := rQ.lt (g := gyv) rfl; have l3 : nb y < w.heap.size := fL.lt; have oU : ∀ g, kv14.ownBlock = some g → g < w14.heap.size := fun g hg => cI.lt hg; have mf : ∀ g, kv14.ownBlock = some g → g = gyk ∨ w1.heap.size ≤ g := fun g hg => (dx g hg).elim (fun e => .inl (oinj e).symm) (fun e => .inr (by omega)); have bU : ∀ g, vv25.ownBlock = some g → g = gyv ∨ w14.heap.size ≤ g := fun g hg => (oS g hg).elim (fun e => .inl (oinj e).symm) .inr; have hA := (cI.kp bT (fun g hg e => by have e : gyv = g := oinj e; have := mf g hg; omega)).kp gH (fun g hg e => by have := mf g hg; omega); have hB := jR.kp gH (fun g hg e => by have := bU g hg; omega); obtain ⟨r1, r2⟩ := ao _ _ _ hA mf hB (fun g hg => (bU g hg).elim .inl (fun e => .inr (by omega))) (fun g hg e => by have := mf g hg; have := bU g e; have := oU g hg; omega) gI aT; exact (hk _ _ ⟨_, _, rfl, aT, r1, r2⟩).qb
  ·refine nVal (i := 19) rfl rfl rfl (yld U23 rfl rfl (aI.blk fL) rfl) (aE.kp) (qO 8 (nVal (i := 8) rfl rfl rfl (yld U23 rfl rfl (aI.blk fL) rfl) (aE.kp) (qO 14 (nValP (i := 14) rfl rfl rfl (pap U23 ti9 rfl (by decide) rfl rfl (kX.ext aI) (mL.ext aI).rd eN (by omega) (by omega)) ?_)))); rintro kv14 w14 ⟨cI, ac, dx, -⟩; refine ⟨aE.kp.trans (ac.mono' (fun _ e => by cases e; exact aX)), ?_⟩; refine qO 25 (nValP (i := 25) rfl rfl rfl (pap U23 ti9 rfl (by decide) rfl rfl ((rQ.ext aI).kp ac (fun g hg e => n3 (by cases hg; exact (oinj e).symm))) ((x7.ext aI).kp ac (fun g hg e => x2 (by cases hg; exact (oinj e).symm))).rd eN (by omega) (by omega)) ?_); rintro vv25 w25 ⟨jR, bT, oS, -⟩; refine ⟨(aE.kp.trans (ac.mono' (fun _ e => by cases e; exact aX))).trans (bT.mono' (fun _ e => by cases e; exact da)), ?_⟩; refine zqt 26 rfl (ynk rfl) ((aE.kp.trans (ac.mono' (fun _ e => by cases e; exact aX))).trans (bT.mono' (fun _ e => by cases e; exact da))) ?_; refine zqt 27 rfl (yfa fl84_1 rfl) ((aE.kp.trans (ac.mono' (fun _ e => by cases e; exact aX))).trans (bT.mono' (fun _ e => by cases e; exact da))) ?_; have cR : Kp Q w1 w25 := ((aE.kp.trans (ac.mono' (fun _ e => by cases e; exact aX))).trans (bT.mono' (fun _ e => by cases e; exact da))); have ar := bT.blk (ac.blk (aI.blk fL) (fun e => n1 (oinj e))) (fun e => n2 (oinj e)); refine qO 28 (nEffP (i := 28) rfl rfl (zst ti23 rfl rfl (oneV_sl cI) ar (by simp)) ?_); rintro w26 ⟨oT, aL⟩; refine ⟨cR.trans (aL.mono' (fun _ e => by rw [e]; exact ci)), ?_⟩; refine zqt 29 rfl (ynk rfl) (cR.trans (aL.mono' (fun _ e => by rw [e]; exact ci))) ?_; refine zqt 30 rfl (yfa fl84_2 rfl) (cR.trans (aL.mono' (fun _ e => by rw [e]; exact ci))) ?_; refine qO 31 (nEffP (i := 31) rfl rfl (zst ti23 rfl rfl (oneV_sl jR) oT (by simp)) ?_); rintro w27 ⟨gI, bO⟩; refine ⟨(cR.trans (aL.mono' (fun _ e => by rw [e]; exact ci))).trans (bO.mono' (fun _ e => by rw [e]; exact ci)), ?_⟩; refine qE (Run.qb (e := [(0, _), (3, _)]) ?_); have aT : Kp Q w1 w27 := (cR.trans (aL.mono' (fun _ e => by rw [e]; exact ci))).trans (bO.mono' (fun _ e => by rw [e]; exact ci)); have gH : Kp (fun k => k = nb y) w25 w27 := aL.trans bO; have z1 := aI.size; have z2 := aE.size; have z3 := ac.size; have l1 := kX.lt (g := gyk) rfl; have l2 := rQ.lt (g := gyv) rfl; have l3 : nb y < w.heap.size := fL.lt; have oU : ∀ g, kv14.ownBlock = some g → g < w14.heap.size := fun g hg => cI.lt hg; have mf : ∀ g, kv14.ownBlock = some g → g = gyk ∨ w1.heap.size ≤ g := fun g hg => (dx g hg).elim (fun e => .inl (oinj e).symm) (fun e => .inr (by omega)); have bU : ∀ g, vv25.ownBlock = some g → g = gyv ∨ w14.heap.size ≤ g := fun g hg => (oS g hg).elim (fun e => .inl (oinj e).symm) .inr; have hA := (cI.kp bT (fun g hg e => by have e : gyv = g := oinj e; have := mf g hg; omega)).kp gH (fun g hg e => by have := mf g hg; omega); have hB := jR.kp gH (fun g hg e => by have := bU g hg; omega); obtain ⟨r1, r2⟩ := ao _ _ _ hA mf hB (fun g hg => (bU g hg).elim .inl (fun e => .inr (by omega))) (fun g hg e => by have := mf g hg; have := bU g e; have := oU g hg; omega) gI aT
   exact (hk _ _ ⟨_, _, rfl, aT, r1, r2⟩).qb
end
section
variable {w : World}
theorem Tr.setN_comm (T : Tr) {a b : Int} (n m : Nd) (h : a ≠ b) : (T.setN a n).setN b m = (T.setN b m).setN a n := by
 unfold Tr.setN
 congr 1
 funext z
 by_cases e : z = a
 ·subst e; simp [updI, h]
 ·by_cases e2 : z = b
  ·subst e2; simp [updI, e]
  ·simp [updI, e, e2]
set_option maxHeartbeats 2000000 in
theorem inner_ret {p : Nat} {T : Tr} {nb : Int → Nat} {F : Nat → Prop} (h : TreeA w p T nb F) {no : Int} {c x y ca cb : Nat} {ps pa pb P : List (Bytes × Nat)} {up : Bytes} {i : Nat} (hP : pa ++ (up, cb) :: pb = P) (hn : T.nodes no = some (innNd c ps)) (hi : ps[i]? = some (up, x)) (h1 : T.nodes (y : Int) = some (innNd ca pa)) (h2 : T.nodes (x : Int) = some (innNd cb pb))
  (cV : no ≠ (x : Int)) (fX : no ≠ (y : Int)) (nT : (y : Int) ≠ (x : Int)) (de : T.given.length ≤ 4294967296) (aP : P.length + 1 ≤ 100000) (d9 : 1 ≤ pa.length) (rM : 1 ≤ pb.length) (ho : 8 ≤ orderE T.size) :
  Ret Tryz.prog 105 [ptr p 0, .agg #[ptr (nb no) 0, I (i : Int), ptr (nb y) 0, ptr (nb x) 0]] w fun v w' => v = .tuple #[] ∧ ∃ T' F', TreeA w' p T' nb F' ∧ Kp F w w' ∧ (∀ k, F' k → F k ∨ w.heap.size ≤ k) ∧
   ((P.length + 1 ≤ orderE T.size ∧ T' = (((T.setN y (innNd ca P)).dropN x).setN no (innNd c (ps.take i ++ ps.drop (i + 1))))) ∨
    (orderE T.size < P.length + 1 ∧ ∃ up' c2, P[(P.length + 1) / 2 - 1]? = some (up', c2) ∧ T' = (((T.setN y (innNd ca (P.take ((P.length + 1) / 2 - 1)))).setN x (innNd c2 (P.drop ((P.length + 1) / 2 - 1 + 1)))).setN no (innNd c (ps.set i (up', x)))))) := by
 have dL : maxLen = 9223372036854775807 := rfl
 obtain ⟨qy, sX, gt, j0, uH⟩ := h.nodeF h1
 obtain ⟨qx, uI, md, uJ, -⟩ := h.node h2
 obtain ⟨qn, jS, j8, uT, -⟩ := h.node hn
 have x6 := h.two h1 h2 nT gt sX md uI
 have CM := h.two h1 hn (Ne.symm fX) gt sX j8 jS
 have fi := h.lt
 obtain ⟨yb, yk, yv, yq⟩ := qy
 obtain ⟨xb, xk, xv, xc⟩ := qx
 obtain ⟨nb', nk, nv, nc⟩ := qn
 dsimp only at sX uI jS
 subst sX
 subst uI
 subst jS
 have fL := gt.blk
 have kX := gt.keys
 have x9 := gt.kids
 have cW := md.blk
 have mL := md.keys
 have ym := md.kids
 have ar := j8.blk
 have Bw := j8.keys
 dsimp only at fL kX x9 cW mL ym ar Bw
 have uw : P.length = pa.length + 1 + pb.length := by rw [← hP]; simp; omega
 have k1 : (innNd ca pa).keys.length = pa.length := by simp [innNd]
 have k2 : (innNd cb pb).keys.length = pb.length := by simp [innNd]
 have k3 : (innNd ca pa).kids.length = pa.length + 1 := by simp [innNd]
 have k4 : (innNd cb pb).kids.length = pb.length + 1 := by simp [innNd]
 have k5 : (innNd c ps).keys.length = ps.length := by simp [innNd]
 have cE : i < ps.length := by
  rcases Nat.lt_or_ge i ps.length with h | h
  ·exact h
  ·rw [List.getElem?_eq_none h] at hi; cases hi
 have eF : (innNd c ps).keys[i]? = some up := by simp [innNd, hi]
 have dv : ps.length ≤ 100000 := by have := j8.bd.kl; omega
 rw [k1] at kX
 rw [k2] at mL
 rw [k3] at x9
 rw [k4] at ym
 rw [k5] at Bw
 obtain ⟨gyk, cyk, rfl⟩ := some_of kX (by omega)
 obtain ⟨gxk, cxk, rfl⟩ := some_of mL (by omega)
 obtain ⟨gyc, cyc, rfl⟩ := some_of x9 (by omega)
 obtain ⟨gxc, cxc, rfl⟩ := some_of ym (by omega)
 obtain ⟨gnk, cnk, rfl⟩ := some_of Bw (by omega)
 obtain ⟨Q, hQ⟩ : ∃ Q : Nat → Prop, (fun k => k = gyk ∨ k = gyc ∨ k = nb y) = Q := ⟨_, rfl⟩
 have ci : Q (nb y) := by rw [← hQ]; exact .inr (.inr rfl)
 have aX : Q gyk := by rw [← hQ]; exact .inl rfl
 have da : Q gyc := by rw [← hQ]; exact .inr (.inl rfl)
 have dB : ∀ k, Q k → Pl.fp ⟨nb y, .slice (some ⟨gyk, 0, none⟩) pa.length cyk, yv, .slice (some ⟨gyc, 0, none⟩) (pa.length + 1) cyc⟩ k := by
  rw [← hQ]; rintro k (rfl | rfl | rfl)
  ·exact .inr (.inl rfl)
  ·exact .inr (.inr (.inr rfl))
  ·exact .inl rfl
 have dU : ∀ k, Pl.fp ⟨nb x, .slice (some ⟨gxk, 0, none⟩) pb.length cxk, xv, .slice (some ⟨gxc, 0, none⟩) (pb.length + 1) cxc⟩ k → ¬ Q k := fun k hk hq => x6 k (dB k hq) hk
 have eu : ∀ k, Pl.fp ⟨nb no, .slice (some ⟨gnk, 0, none⟩) ps.length cnk, nv, nc⟩ k → ¬ Q k := fun k hk hq => CM k (dB k hq) hk
 have d1 := gt.d1
 have d2 := (gt.d2 gyk rfl).2
 have n1 : gyk ≠ nb y := fun e => d1.1 (by rw [← e]; rfl)
 have n2 : gyc ≠ nb y := fun e => d1.2.2 (by rw [← e]; rfl)
 have n3 : gyc ≠ gyk := fun e => d2 (by rw [e]; rfl)
 have x1 : gxk ≠ gyk := fun e => dU gxk (.inr (.inl rfl)) (by rw [e]; exact aX)
 have x2 : gxc ≠ gyk := fun e => dU gxc (.inr (.inr (.inr rfl))) (by rw [e]; exact aX)
 have x3 : gxc ≠ gyc := fun e => dU gxc (.inr (.inr (.inr rfl))) (by rw [e]; exact da)
 have l1 := kX.lt (g := gyk) rfl
 have l2 := x9.lt (g := gyc) rfl
 have l3 : nb y < w.heap.size := fL.lt
 have l4 := mL.lt (g := gxk) rfl
 have l5 := ym.lt (g := gxc) rfl
 refine ret_of_run (e := [(0, _), (1, _)]) Tryz.func105 rfl Tryz.ntmps105 rfl rfl (qN rfl (rValP rfl rfl (pbx (cs := [ptr (nb no) 0, I (i : Int), ptr (nb y) 0, ptr (nb x) 0]) rfl rfl) ?_))
 rintro _ w1 ⟨b, rfl, hb, aa, ai⟩
 refine rEnd (run_seq ?_)
 have eI := aa.size
 have rO := ai.lt
 have dJ : ¬ Q b := fun e => by have := fi b (j0 b (dB b e)).1; omega
 have aE := Ext.drew0 w1
 have HN := aE.size
 have aI : Ext w w1.drew := aa.trans aE
 have eN : ∀ {l : List Bytes}, ∀ c' ∈ l.map S, c'.oneCell' = true := fun c' hc => by obtain ⟨z, -, rfl⟩ := List.mem_map.1 hc; rfl
 have eK : ∀ {l : List Nat}, ∀ c' ∈ l.map u32v, c'.oneCell' = true := fun c' hc => by obtain ⟨z, -, rfl⟩ := List.mem_map.1 hc; rfl
 refine run_cut (fun e' w' => ∃ kv', e' = [(0, ptr p 0), (3, ptr b 0)] ∧ Kp Q w1 w' ∧ Blk w' (nb y) [.bool false, kv', yv, .slice (some ⟨gyc, 0, none⟩) (pa.length + 1) cyc] 84 ∧ Sl w' kv' 9 1 (pa.length + 1 + pb.length) ((innNd ca pa).keys.map S ++ [S up] ++ (innNd cb pb).keys.map S) ∧ (∀ g, kv'.ownBlock = some g → g = gyk ∨ w1.heap.size ≤ g) ∧ Sl w' (.slice (some ⟨gyc, 0, none⟩) (pa.length + 1) cyc) 89 1 (pa.length + 1) ((innNd ca pa).kids.map u32v)) ?hk (fun hk => ?dN)
 case hk =>
  rintro _ w3 ⟨kv', rfl, aw, yn, bs, gu, rJ⟩; have aG := aw.blk ai dJ; have rU := aw.blk (aa.blk cW) (dU _ (.inl rfl)); have CN := (ym.ext aa).kp aw (fun g hg e => dU g (.inr (.inr (.inr hg))) e); have ax := Ext.drew0 w3; have jK := aw.size; have HR := ax.size; refine run_seq (run_draw (fun w' => Kp Q w3 w') (by kernel_rfl) rfl (zqt 0 rfl (yfa fl146_2 rfl) (ax.kp) (qT 1 rfl (fun _ hS => (by first | exact yld U81 rfl rfl (hS.blk aG dJ) rfl | exact yld U81 rfl rfl (hS.blk rU (dU _ (.inl rfl))) rfl)) (ax.kp) ?_))); refine zqt 2 rfl (yfa fl146_2 rfl) (ax.kp) (qT 3 rfl (fun _ hS => (by first | exact yld U81 rfl rfl (hS.blk aG dJ) rfl | exact yld U81 rfl rfl (hS.blk rU (dU _ (.inl rfl))) rfl)) (ax.kp) ?_); refine zqt 4 rfl (ynk rfl) (ax.kp) (zqt 5 rfl (yfa fl84_3 rfl) (ax.kp) (zqt 7 rfl (yfa fl146_3 rfl) (ax.kp) (qT 8 rfl (fun _ hS => (by first | exact yld U81 rfl rfl (hS.blk aG dJ) rfl | exact yld U81 rfl rfl (hS.blk rU (dU _ (.inl rfl))) rfl)) (ax.kp) ?_))); refine zqt 9 rfl (ynk rfl) (ax.kp) (zqt 10 rfl (yfa fl84_3 rfl) (ax.kp) (qT 11 rfl (fun _ hS => (by first | exact yld U82 rfl rfl (hS.blk aG dJ) rfl | exact yld U82 rfl rfl (hS.blk rU (dU _ (.inl rfl))) rfl)) (ax.kp) ?_)); refine qO 6 (nVal (i := 6) rfl rfl rfl (yld U82 rfl rfl (ax.blk yn) rfl) (ax.kp) (qO 12 (nValP (i := 12) rfl rfl rfl (pap U82 ti89 rfl (by decide) rfl rfl (rJ.ext ax) (CN.ext ax).rd eK (by omega) (by omega)) ?_))); rintro cv12 w4 ⟨gq, az, CO, -⟩; refine ⟨ax.kp.trans (az.mono' (fun _ e => by cases e; exact da)), ?_⟩; refine zqt 13 rfl (ynk rfl) (ax.kp.trans (az.mono' (fun _ e => by cases e; exact da))) ?_; refine zqt 14 rfl (yfa fl84_3 rfl) (ax.kp.trans (az.mono' (fun _ e => by cases e; exact da))) ?_; have jq := az.size; have CP := az.blk (ax.blk yn) (fun e => n2 (oinj e)); refine qO 15 (nEffP (i := 15) rfl rfl (zst ti82 rfl rfl (oneV_sl gq) CP (by simp)) ?_); rintro w5 ⟨bx, bh⟩; refine ⟨(ax.kp.trans (az.mono' (fun _ e => by cases e; exact da))).trans (bh.mono' (fun _ e => by rw [e]; exact ci)), ?_⟩; have dI : Kp Q w3 w5 := (ax.kp.trans (az.mono' (fun _ e => by cases e; exact da))).trans (bh.mono' (fun _ e => by rw [e]; exact ci)); have bI : Kp Q w1 w5 := aw.trans dI; have kW := bh.size; have yo : ∀ g, cv12.ownBlock = some g → g = gyc ∨ w3.heap.size ≤ g := fun g hg => (CO g hg).elim (fun e => .inl (oinj e).symm) (fun e => .inr (by omega)); have uU : ∀ g, kv'.ownBlock = some g → g < w3.heap.size := fun g hg => bs.lt hg; have cf := ((bs.ext ax).kp az (fun g hg e => by have e1 : gyc = g := oinj e; have := gu g hg; omega)).kp bh (fun g hg e => by have := gu g hg; omega); have xd := gq.kp bh (fun g hg e => by have := yo g hg; omega); have CQ : ∀ k, yv.ownBlock = some k → k < w.heap.size ∧ k ≠ gyk ∧ k ≠ gyc ∧ k ≠ nb y := fun k hk => ⟨gt.vals.lt hk, fun e => (gt.d2 gyk rfl).1 (by rw [← e]; exact hk), fun e => gt.d3 k hk (by rw [e]; rfl), fun e => d1.2.1 (by rw [← e]; exact hk)⟩
  have mK : NdM w5 (innNd ca P) ⟨nb y, kv', yv, cv12⟩ := by
   have b1 := gt.bd; have b2 := md.bd; have b3 := j8.bd; have e1 : (innNd ca P).keys.length = pa.length + 1 + pb.length := by simp [innNd]; omega
   have e2 : (innNd ca P).kids.length = pa.length + 1 + (pb.length + 1) := by simp [innNd]; omega
   have e3 : (innNd ca P).keys.map S = (innNd ca pa).keys.map S ++ [S up] ++ (innNd cb pb).keys.map S := by simp [innNd, ← hP]
   have e4 : (innNd ca P).kids.map u32v = (innNd ca pa).kids.map u32v ++ (innNd cb pb).kids.map u32v := by simp [innNd, ← hP]
   refine ⟨bx, by rw [e1, e3]; exact cf, ?_, by rw [e2, e4]; exact xd, ⟨by omega, by simp [innNd], by omega, fun k hk => ?_, fun k hk => by simp [innNd] at hk, fun k hk => ?_⟩, ⟨fun e => ?_, d1.2.1, fun e => ?_⟩, fun k hk => ⟨fun e => ?_, fun e => ?_⟩, fun k hk e => ?_⟩
   ·exact (gt.vals.ext aa).kp bI (fun g hg hq => by
     rw [← hQ] at hq; obtain ⟨-, a1, a2, a3⟩ := CQ g hg; rcases hq with e | e | e
     ·exact a1 e
     ·exact a2 e
     ·exact a3 e)
   ·simp only [innNd, ← hP, List.map_append, List.map_cons, List.mem_append, List.mem_cons] at hk; rcases hk with e | e | e
    ·exact b1.ks k e
    ·rw [e]; exact b3.ks up (List.mem_of_getElem? eF)
    ·exact b2.ks k e
   ·simp only [innNd, ← hP, List.map_append, List.map_cons, List.mem_append, List.mem_cons] at hk; rcases hk with e | e | e | e
    ·exact b1.cs k (by rw [e]; exact List.mem_cons_self)
    ·exact b1.cs k (List.mem_cons_of_mem _ e)
    ·exact b2.cs k (by rw [e]; exact List.mem_cons_self)
    ·exact b2.cs k (List.mem_cons_of_mem _ e)
   ·rcases gu _ e with e | e
    ·exact n1 e.symm
    ·have e : w1.heap.size ≤ nb y := e; omega
   ·rcases yo _ e with e | e
    ·exact n2 e.symm
    ·have e : w3.heap.size ≤ nb y := e; omega
   ·obtain ⟨a0, a1, a2, a3⟩ := CQ k e; have := gu k hk; omega
   ·have a := gu k hk; have a' := yo k e; have := uU k hk; omega
   ·obtain ⟨a0, a1, a2, a3⟩ := CQ k hk; have := yo k e; omega
  have yr : ∀ k, Pl.fp ⟨nb y, kv', yv, cv12⟩ k → Pl.fp ⟨nb y, .slice (some ⟨gyk, 0, none⟩) pa.length cyk, yv, .slice (some ⟨gyc, 0, none⟩) (pa.length + 1) cyc⟩ k ∨ w1.heap.size ≤ k := fun k hk => by
   rcases hk with hk | hk | hk | hk
   ·exact .inl (.inl hk)
   ·rcases gu k hk with f | f
    ·exact .inl (.inr (.inl (by rw [f]; rfl)))
    ·exact .inr f
   ·exact .inl (.inr (.inr (.inl hk)))
   ·rcases yo k hk with f | f
    ·exact .inl (.inr (.inr (.inr (by rw [f]; rfl))))
    ·exact .inr (by omega)
  obtain ⟨F5, h5, dV⟩ := uH w5 (innNd ca P) ⟨nb y, kv', yv, cv12⟩ rfl mK ((aa.kp).trans (bI.mono' dB)) (fun k hk => (yr k hk).elim .inl (fun e => .inr (fun f => by have := fi k f; omega))); have jr : ∀ k, F5 k → F k ∨ w1.heap.size ≤ k := fun k hk => (dV k hk).elim .inl (fun e => (yr k e).elim (fun f => .inl (j0 k f).1) .inr); have jT : Kp F w w5 := (aa.kp).trans (bI.mono' (fun k hk => (j0 k (dB k hk)).1)); have rV := bI.blk ai dJ; have HS : ¬ F5 b := fun e => (jr b e).elim (fun f => by have := fi b f; omega) (fun f => by omega); obtain ⟨mN, mC, mO, gv, kn, kc, ko, O5⟩ := h5.opn; have a8 := Ext.drew0 w5; have e2 : (innNd ca P).kids.length = pa.length + 1 + (pb.length + 1) := by simp [innNd]; omega
  have gW : cv12 = .slice (match cv12 with | .slice a _ _ => a | _ => none) (pa.length + 1 + (pb.length + 1)) (match cv12 with | .slice _ _ c => c | _ => 0) := by
   obtain ⟨g, cp, rfl⟩ := some_of xd (by omega)
   rfl
  obtain ⟨gcc, ccc, rfl⟩ := some_of xd (by omega); refine qE (run_seq (run_seq (run_draw (fun w' => Ext w5 w') (by kernel_rfl) rfl (zqt 0 rfl (yfa fl146_2 rfl) a8 (qT 1 rfl (fun _ h=>(by first | exact yld U81 rfl rfl (h.blk rV) rfl | exact yld U81 rfl rfl (h.blk bx) rfl | exact yld U81 rfl rfl (h.blk O5.blk) rfl)) a8 ?_))))); refine zqt 2 rfl (ynk rfl) a8 (zqt 3 rfl (yfa fl84_3 rfl) a8 (qT 4 rfl (fun _ h=>(by first | exact yld U82 rfl rfl (h.blk rV) rfl | exact yld U82 rfl rfl (h.blk bx) rfl | exact yld U82 rfl rfl (h.blk O5.blk) rfl)) a8 ?_)); refine zqt 5 rfl (yln U82 rfl) a8 (zqt 6 rfl (ymv rfl) a8 (zqt 7 rfl (ynk rfl) a8 (zqt 8 rfl (yfa fl74_3 rfl) a8 (qT 9 rfl (fun _ h=>(by first | exact yld U3 rfl rfl (h.blk rV) rfl | exact yld U3 rfl rfl (h.blk bx) rfl | exact yld U3 rfl rfl (h.blk O5.blk) rfl)) a8 ?_)))); refine zqt 10 rfl (yle rfl rfl) a8 (qE (Run.qb (e := [(0, _), (3, _), (55, _)]) ?_)); have aV : Ext w5 w5.drew := a8; have h6 := h5.ext a8; have mQ := a8.blk rV; have Bx : NdM w5.drew (innNd ca P) ⟨nb y, kv', yv, .slice (some ⟨gcc, 0, none⟩) (pa.length + 1 + (pb.length + 1)) ccc⟩ := mK.kp a8 (fun _ _ => id); have sY : (T.setN y (innNd ca P)).nodes no = some (innNd c ps) := by rw [Tr.setN_ne T _ fX]; exact hn
  have cN : ∀ k, F5 k → w.heap.size ≤ k ∨ F k := fun k hk => (jr k hk).elim .inr (fun e => .inl (by omega)); have i7 : Kp F w w5.drew := jT.trans a8.kp; have Bu := i7.size; refine run_if rfl (fun dt => ?_) (fun dt => ?_)
  ·refine qN rfl (zqm rfl (qV (yldA U146 rfl ti146 rfl (Blk.cells (n := 4) mQ (news := [_, _, _, _]) rfl) rfl) (zqc [.tmp 56, .tmp 57] cf131 rfl (gone_ret h6 sY hi cV de) ?_))); rintro _ w7 ⟨rfl, F7, ys, bg, rN⟩; refine rEnd (run_ret Tryz.func105 rfl (⟨_, rfl, rfl, _, F7, ys, i7.trans_new bg (fun k hk => cN k hk), fun k hk => ?_, .inl ⟨by have dt : ((pa.length + 1 + (pb.length + 1) : Nat) : Int) ≤ (orderE T.size : Int) := dt; omega, rfl⟩⟩)); rcases rN k hk with e | e
   ·exact (cN k e).symm
   ·exact .inr (by omega)
  ·have ob : orderE T.size < P.length + 1 := by have dt : ¬ ((pa.length + 1 + (pb.length + 1) : Nat) : Int) ≤ (orderE T.size : Int) := dt; omega
   refine run_skip ?_; have yt : 8 ≤ P.length := by omega
   obtain ⟨m, hm⟩ : ∃ m, (P.length + 1) / 2 - 1 = m := ⟨_, rfl⟩; have HT : m < P.length := by omega
   obtain ⟨⟨up', c2⟩, hu⟩ : ∃ q, P[m]? = some q := ⟨_, List.getElem?_eq_getElem HT⟩; have uV : NdM w5.drew (innNd c ps) ⟨nb no, .slice (some ⟨gnk, 0, none⟩) ps.length cnk, nv, nc⟩ := ((j8.kp aa (fun _ _ => id)).kp bI eu).kp a8 (fun _ _ => id); have CR : NdM w5.drew (innNd cb pb) ⟨nb x, .slice (some ⟨gxk, 0, none⟩) pb.length cxk, xv, .slice (some ⟨gxc, 0, none⟩) (pb.length + 1) cxc⟩ := ((md.kp aa (fun _ _ => id)).kp bI dU).kp a8 (fun _ _ => id); have apxn := h.two h2 hn (Ne.symm cV) md rfl j8 rfl; have a1 : nb no ≠ nb y := fun e => eu (nb no) (.inl rfl) (by rw [e]; exact ci); have a2 : nb no ≠ gnk := fun e => j8.d1.1 (by rw [e]; rfl); have a3 : nb no ≠ nb x := fun e => apxn (nb x) (.inl rfl) (.inl e.symm); have a4 : gnk ≠ nb y := fun e => eu gnk (.inr (.inl rfl)) (by rw [e]; exact ci); have a5 : gnk ≠ nb x := fun e => apxn (nb x) (.inl rfl) (.inr (.inl (by rw [← e]; rfl))); have a6 : nb x ≠ nb y := fun e => dU (nb x) (.inl rfl) (by rw [e]; exact ci); have l6 : gnk < w.heap.size := j8.lt gnk (.inr (.inl rfl)); have l7 : nb no < w.heap.size := j8.lt _ (.inl rfl); have l8 : nb x < w.heap.size := md.lt _ (.inl rfl); have mR := uV.blk; have uW := uV.keys; have yu := CR.blk; dsimp only at mR uW yu; rw [k5] at uW; have aS : Ext w5.drew w5.drew.drew := Ext.drew0 _; have HU := a8.size; have HV := aS.size
   have oV : ¬ (nb no = nb y ∨ nb no = gnk ∨ nb no = nb x) := by
    rintro (e | e | e)
    ·exact a1 e
    ·exact a2 e
    ·exact a3 e
   refine run_draw (fun w' => Kp (fun k => k = nb y ∨ k = gnk ∨ k = nb x) w5.drew w') (by kernel_rfl) rfl (zqt 0 rfl (yfa fl146_0 rfl) (aS.kp) (qT 1 rfl (fun _ hS => (by first | exact yld U81 rfl rfl (hS.blk mQ (fun e => by omega)) rfl | exact yld U81 rfl rfl (hS.blk mR oV) rfl)) (aS.kp) ?_)); refine zqt 2 rfl (ynk rfl) (aS.kp) (zqt 3 rfl (yfa fl84_1 rfl) (aS.kp) (qT 4 rfl (fun _ hS => (by first | exact yld U23 rfl rfl (hS.blk mQ (fun e => by omega)) rfl | exact yld U23 rfl rfl (hS.blk mR oV) rfl)) (aS.kp) ?_)); refine zqt 5 rfl (yfa fl146_1 rfl) (aS.kp) (qT 6 rfl (fun _ hS => (by first | exact yld U3 rfl rfl (hS.blk mQ (fun e => by omega)) rfl | exact yld U3 rfl rfl (hS.blk mR oV) rfl)) (aS.kp) ?_); refine zqt 7 rfl (yfa fl146_3 rfl) (aS.kp) (qT 8 rfl (fun _ hS => (by first | exact yld U81 rfl rfl (hS.blk mQ (fun e => by omega)) rfl | exact yld U81 rfl rfl (hS.blk mR oV) rfl)) (aS.kp) ?_); refine zqt 9 rfl (yfa fl146_2 rfl) (aS.kp) (qT 10 rfl (fun _ hS => (by first | exact yld U81 rfl rfl (hS.blk mQ (fun e => by omega)) rfl | exact yld U81 rfl rfl (hS.blk mR oV) rfl)) (aS.kp) ?_); refine zqo 11 [.tmp 70] rfl cf73 rfl (part_ret (q := ⟨nb y, kv', yv, .slice (some ⟨gcc, 0, none⟩) (pa.length + 1 + (pb.length + 1)) ccc⟩) (Bx.kp aS (fun _ _ => id)) (by omega) hm hu) ?_; rintro _ w7 ⟨kv2, cv2, q7, rfl, uX, yw, CL, yx, yy, bg, yz, yA, ly, mS⟩; refine ⟨aS.kp.trans (bg.mono' (fun _ e => .inl e)), ?_⟩; refine zqt 12 rfl (ymv rfl) (aS.kp.trans (bg.mono' (fun _ e => .inl e))) (zqt 13 rfl (yex rfl rfl) (aS.kp.trans (bg.mono' (fun _ e => .inl e))) (zqt 14 rfl (yex rfl rfl) (aS.kp.trans (bg.mono' (fun _ e => .inl e))) (zqt 15 rfl (yis U23 ti9 rfl rfl (by omega)) (aS.kp.trans (bg.mono' (fun _ e => .inl e))) (qO 16 (nEffP (i := 16) rfl rfl (zstSl ti9 rfl rfl rfl ((uW.ext aS).kp bg (fun g hg e => a4 (by have e1 : gnk = g := oinj hg; rw [e1]; exact e))) (by simp [innNd]; omega)) ?_))))); rintro w8 ⟨dO, bc⟩; refine ⟨(aS.kp.trans (bg.mono' (fun _ e => .inl e))).trans (bc.mono' (fun _ e => .inr (.inl e))), ?_⟩; refine zqt 17 rfl (ynk rfl) ((aS.kp.trans (bg.mono' (fun _ e => .inl e))).trans (bc.mono' (fun _ e => .inr (.inl e)))) ?_; have CS := bc.blk (bg.blk (aS.blk yu) a6) a5.symm; refine qO 18 (nEffP (i := 18) rfl rfl (zstA (news := [.bool false, kv2, .slice none 0 0, cv2]) ti84 rfl rfl (by have a1 := oneV_sl yx; have a2 := oneV_sl yy; show (oneV _ && (oneV kv2 && (oneV _ && (oneV cv2 && true)))) = true; rw [a1, a2]; rfl) rfl CS (by simp)) ?_); rintro w9 ⟨cZ, aB⟩; refine ⟨((aS.kp.trans (bg.mono' (fun _ e => .inl e))).trans (bc.mono' (fun _ e => .inr (.inl e)))).trans (aB.mono' (fun _ e => .inr (.inr e))), ?_⟩; refine qE (run_end Tryz.func105 rfl ?_); have uY : Kp (fun k => k = nb y ∨ k = gnk ∨ k = nb x) w5.drew w9 := ((aS.kp.trans (bg.mono' (fun _ e => .inl e))).trans (bc.mono' (fun _ e => .inr (.inl e)))).trans (aB.mono' (fun _ e => .inr (.inr e))); have kV := bg.size; have mI := bc.size; obtain ⟨q6, rH, gK, rS, uO⟩ := h6.nodeF (n := innNd ca P) (no := (y : Int)) (Tr.setN_same T y _)
   have eq6 := gK.uniq Bx rH; subst eq6; have By := h6.lt
   obtain ⟨F7, h7, rN⟩ := uO w7 _ q7 uX CL (aS.kp.trans (bg.mono' (fun k e => .inl e))) (fun k hk => by
    rcases hk with e | e | e | e
    ·exact .inl (.inl (by rw [e, uX]))
    ·exact .inr (fun f => by have := yz k e; have := By k f; omega)
    ·exact .inl (.inr (.inr (.inl (by rw [yw] at e; exact e))))
    ·exact .inr (fun f => by have := yA k e; have := By k f; omega))
   rw [Tr.setN2] at h7
   have yB : ∀ k, F7 k → F5 k ∨ w5.drew.heap.size ≤ k := fun k hk => by
    rcases rN k hk with e | e | e | e | e
    ·exact .inl e
    ·exact .inl (by rw [e, uX]; exact (rS _ (.inl rfl)).1)
    ·exact .inr (by have := yz k e; omega)
    ·exact .inl (rS k (.inr (.inr (.inl (by rw [yw] at e; exact e))))).1
    ·exact .inr (by have := yA k e; omega)
   have i8 : NdM w7 (innNd c ps) ⟨nb no, .slice (some ⟨gnk, 0, none⟩) ps.length cnk, nv, nc⟩ := (uV.kp aS (fun _ _ => id)).kp bg (fun k hk e => eu k hk (by rw [e]; exact ci))
   have yC : NdM w8 (innNd c (ps.set i (up', x))) ⟨nb no, .slice (some ⟨gnk, 0, none⟩) ps.length cnk, nv, nc⟩ := by
    have e0 : (innNd c (ps.set i (up', x))).keys.length = ps.length := by simp [innNd]
    have e1 : (innNd c (ps.set i (up', x))).keys = (innNd c ps).keys.set i up' := by simp [innNd, List.map_set]
    have e2 : (innNd c (ps.set i (up', x))).kids = (innNd c ps).kids := by
     simp only [innNd, List.map_set]
     congr 1
     have hx : (ps.map (·.2))[i]? = some x := by rw [List.getElem?_map, hi]; rfl
     apply List.ext_getElem?; intro j; by_cases ej : i = j
     ·subst ej; rw [List.getElem?_set_self (by simpa using cE), hx]
     ·rw [List.getElem?_set_ne ej]
    have bj := i8.bd; have Bz := Bx.bd; refine ⟨bc.blk i8.blk a2, ?_, ?_, ?_, ⟨by rw [e0]; exact dv, bj.vl, by rw [e2]; exact bj.cl, fun k hk => ?_, bj.vs, by rw [e2]; exact bj.cs⟩, i8.d1, i8.d2, i8.d3⟩
    ·rw [e0, e1, List.map_set]; rw [Nat.zero_add, Nat.mul_one] at dO; exact dO
    ·exact i8.vals.kp bc (fun g hg e => (i8.d2 gnk rfl).1 (by rw [← e]; exact hg))
    ·rw [e2]; exact i8.kids.kp bc (fun g hg e => (i8.d2 gnk rfl).2 (by rw [← e]; exact hg))
    ·rw [e1] at hk; rcases List.mem_or_eq_of_mem_set hk with e | e
     ·exact bj.ks k e
     ·exact Bz.ks k (by
       rw [e]; show up' ∈ P.map (·.1)
       exact List.mem_map.2 ⟨(up', c2), List.mem_of_getElem? hu, rfl⟩)
   obtain ⟨qn7, CT, yD, yE, uQ⟩ := h7.nodeF (n := innNd c ps) (no := no) (by rw [Tr.setN_ne T _ fX]; exact hn); have eqn := yD.uniq i8 CT; subst eqn; obtain ⟨F8, h8, yF⟩ := uQ w8 _ _ rfl yC (bc.mono' (fun k e => .inr (.inl (by rw [e]; rfl)))) (fun k hk => .inl hk); have rW : ∀ k, F8 k → F7 k := fun k hk => (yF k hk).elim id (fun e => (yE k e).1)
   have CU : NdM w9 (innNd c2 (P.drop (m + 1))) ⟨nb x, kv2, .slice none 0 0, cv2⟩ := by
    have e1 : (innNd c2 (P.drop (m + 1))).keys.length = (P.drop (m + 1)).length := by simp [innNd]
    have e2 : (innNd c2 (P.drop (m + 1))).kids.length = (P.drop (m + 1)).length + 1 := by simp [innNd]
    have bj := Bx.bd; have HW := (yx.kp bc (fun g hg e => by have := (ly g hg).1; omega)).kp aB (fun g hg e => by have := (ly g hg).1; omega); have rf := (yy.kp bc (fun g hg e => by have := (mS g hg).1; omega)).kp aB (fun g hg e => by have := (mS g hg).1; omega)
    refine ⟨cZ, by rw [e1]; exact HW, Sl.nil _ _ _, by rw [e2]; exact rf, ⟨by rw [e1]; simp; omega, by simp [innNd], by rw [e2]; simp; omega, fun k hk => bj.ks k (by simp only [innNd, List.map_drop] at hk ⊢; exact List.mem_of_mem_drop hk), fun k hk => by simp [innNd] at hk, fun k hk => bj.cs k (by
     simp only [innNd, List.map_drop, List.mem_cons] at hk ⊢; rcases hk with e | e
     ·exact .inr (by rw [e]; exact List.mem_map.2 ⟨(up', c2), List.mem_of_getElem? hu, rfl⟩)
     ·exact .inr (List.mem_of_mem_drop e))⟩, ⟨fun e => ?_, fun e => (by cases e), fun e => ?_⟩, fun k hk => ⟨fun e => (by cases e), (ly k hk).2.2⟩, fun k hk => by cases hk⟩
    ·have e : w5.drew.drew.heap.size ≤ nb x := (ly _ e).1; omega
    ·have e : w5.drew.drew.heap.size ≤ nb x := (mS _ e).1; omega
   obtain ⟨q9, BA, sZ, CV, CW⟩ := h8.nodeF (n := innNd cb pb) (no := (x : Int)) (by rw [Tr.setN_ne _ _ (Ne.symm cV), Tr.setN_ne T _ (Ne.symm nT)]; exact h2)
   obtain ⟨F9, h9, uZ⟩ := CW w9 _ ⟨nb x, kv2, .slice none 0 0, cv2⟩ BA.symm CU (aB.mono' (fun k e => .inl (by rw [BA]; exact e))) (fun k hk => by
    rcases hk with e | e | e | e
    ·exact .inl (.inl (by rw [BA]; exact e))
    ·exact .inr (fun f => (rN k (rW k f)).elim (fun f => by have := (ly k e).1; have := By k f; omega) (ly k e).2.1)
    ·cases e
    ·exact .inr (fun f => (rN k (rW k f)).elim (fun f => by have := (mS k e).1; have := By k f; omega) (mS k e).2))
   have i9 : ∀ k, F9 k → F5 k ∨ w5.drew.heap.size ≤ k := fun k hk => by
    rcases uZ k hk with e | e | e | e | e
    ·exact yB k (rW k e)
    ·exact yB k (rW k (CV k (.inl (by rw [BA]; exact e))).1)
    ·exact .inr (by have := (ly k e).1; omega)
    ·cases e
    ·exact .inr (by have := (mS k e).1; omega)
   rw [Tr.setN_comm _ _ _ cV] at h9; refine ⟨_, rfl, rfl, _, F9, h9, ?_, fun k hk => ?_, .inr ⟨ob, up', c2, by rw [hm]; exact hu, by rw [hm]⟩⟩
   ·exact i7.trans_new uY (fun k hk => by
     rcases hk with e | e | e
     ·exact .inr (by rw [e]; exact (j0 _ (.inl rfl)).1)
     ·exact .inr (by rw [e]; exact (uT _ (.inr (.inl rfl))).1)
     ·exact .inr (by rw [e]; exact (uJ _ (.inl rfl)).1))
   ·rcases i9 k hk with e | e
    ·exact (cN k e).symm
    ·exact .inr (by omega)
 case dN =>
  refine run_draw (fun w' => Kp Q w1 w') (by kernel_rfl) rfl (zqt 0 rfl (yfa fl146_2 rfl) (aE.kp) (qT 1 rfl (fun _ hS => (by first | exact yld U81 rfl rfl (hS.blk ai dJ) rfl | exact yld U81 rfl rfl (hS.blk (aa.blk cW) (dU _ (.inl rfl))) rfl | exact yld U81 rfl rfl (hS.blk (aa.blk ar) (eu _ (.inl rfl))) rfl)) (aE.kp) ?_)); refine zqt 2 rfl (yfa fl146_2 rfl) (aE.kp) (qT 3 rfl (fun _ hS => (by first | exact yld U81 rfl rfl (hS.blk ai dJ) rfl | exact yld U81 rfl rfl (hS.blk (aa.blk cW) (dU _ (.inl rfl))) rfl | exact yld U81 rfl rfl (hS.blk (aa.blk ar) (eu _ (.inl rfl))) rfl)) (aE.kp) ?_); refine zqt 4 rfl (ynk rfl) (aE.kp) (zqt 5 rfl (yfa fl84_1 rfl) (aE.kp) (zqt 7 rfl (yfa fl146_0 rfl) (aE.kp) (qT 8 rfl (fun _ hS => (by first | exact yld U81 rfl rfl (hS.blk ai dJ) rfl | exact yld U81 rfl rfl (hS.blk (aa.blk cW) (dU _ (.inl rfl))) rfl | exact yld U81 rfl rfl (hS.blk (aa.blk ar) (eu _ (.inl rfl))) rfl)) (aE.kp) ?_))); refine zqt 9 rfl (ynk rfl) (aE.kp) (zqt 10 rfl (yfa fl84_1 rfl) (aE.kp) (qT 11 rfl (fun _ hS => (by first | exact yld U23 rfl rfl (hS.blk ai dJ) rfl | exact yld U23 rfl rfl (hS.blk (aa.blk cW) (dU _ (.inl rfl))) rfl | exact yld U23 rfl rfl (hS.blk (aa.blk ar) (eu _ (.inl rfl))) rfl)) (aE.kp) ?_)); refine zqt 12 rfl (yfa fl146_1 rfl) (aE.kp) (qT 13 rfl (fun _ hS => (by first | exact yld U3 rfl rfl (hS.blk ai dJ) rfl | exact yld U3 rfl rfl (hS.blk (aa.blk cW) (dU _ (.inl rfl))) rfl | exact yld U3 rfl rfl (hS.blk (aa.blk ar) (eu _ (.inl rfl))) rfl)) (aE.kp) ?_); refine zqt 14 rfl (yis U23 ti9 rfl rfl (by omega)) (aE.kp) (zqt 18 rfl (yfa fl146_3 rfl) (aE.kp) (qT 19 rfl (fun _ hS => (by first | exact yld U81 rfl rfl (hS.blk ai dJ) rfl | exact yld U81 rfl rfl (hS.blk (aa.blk cW) (dU _ (.inl rfl))) rfl | exact yld U81 rfl rfl (hS.blk (aa.blk ar) (eu _ (.inl rfl))) rfl)) (aE.kp) ?_)); refine zqt 20 rfl (ynk rfl) (aE.kp) (zqt 21 rfl (yfa fl84_1 rfl) (aE.kp) (qT 22 rfl (fun _ hS => (by first | exact yld U23 rfl rfl (hS.blk ai dJ) rfl | exact yld U23 rfl rfl (hS.blk (aa.blk cW) (dU _ (.inl rfl))) rfl | exact yld U23 rfl rfl (hS.blk (aa.blk ar) (eu _ (.inl rfl))) rfl)) (aE.kp) ?_)); refine qT 15 rfl (fun _ hS => yldc U9 rfl rfl (rd_str (((Bw.ext aa).kp hS (fun g hg e => eu g (.inr (.inl hg)) e)).rd) cE eF)) (aE.kp) (hTwo (i := 6) (j := 16) (by kernel_rfl) ?_ ?_)
  ·refine nVal (i := 6) rfl rfl rfl (yld U23 rfl rfl (aI.blk fL) rfl) (aE.kp) (qO 16 (nValP (i := 16) rfl rfl rfl (pbs (parts := [(0, .tmp 19)]) (cs := [_]) (zs := [Value.string ⟨#[]⟩]) U23 ti9 rfl (by kernel_rfl) rfl rfl rfl (by decide)) ?_)); rintro _ w16 ⟨b16, rfl, ⟨lu, aj, cH⟩, dc⟩; refine ⟨(aE.trans aj).kp, ?_⟩; have rK := aj.size; have yG := cH.lt; refine qO 17 (nValP (i := 17) rfl rfl rfl (pap U23 ti9 rfl (by decide) rfl rfl (kX.ext (aI.trans aj)) dc.rd (by intro c hc; simp at hc; subst hc; rfl) (by omega) (by omega)) ?_); rintro kv17 w17 ⟨dX, aT, cz, -⟩; refine ⟨(aE.trans aj).kp.trans (aT.mono' (fun _ e => by cases e; exact aX)), ?_⟩; have lz := aT.size; have dY : ∀ g, kv17.ownBlock = some g → g = gyk ∨ w1.heap.size ≤ g := fun g hg => (cz g hg).elim (fun e => .inl (oinj e).symm) (fun e => .inr (by omega)); have oW := (mL.ext (aI.trans aj)).kp aT (fun g hg e => x1 (by cases hg; exact (oinj e).symm)); refine qO 23 (nValP (i := 23) rfl rfl rfl (pap U23 ti9 rfl (by decide) rfl rfl dX oW.rd eN (by omega) (by omega)) ?_); rintro kv23 w23 ⟨oX, bQ, ve, -⟩; refine ⟨((aE.trans aj).kp.trans (aT.mono' (fun _ e => by cases e; exact aX))).trans_new bQ (fun g hg => (dY g hg).elim (fun e => .inr (by rw [e]; exact aX)) .inl), ?_⟩; have jU : Kp Q w1 w23 := ((aE.trans aj).kp.trans (aT.mono' (fun _ e => by cases e; exact aX))).trans_new bQ (fun g hg => (dY g hg).elim (fun e => .inr (by rw [e]; exact aX)) .inl); have oY : ∀ g, kv23.ownBlock = some g → g = gyk ∨ w1.heap.size ≤ g := fun g hg => (ve g hg).elim (dY g) (fun e => .inr (by omega)); refine zqt 24 rfl (ynk rfl) (((aE.trans aj).kp.trans (aT.mono' (fun _ e => by cases e; exact aX))).trans_new bQ (fun g hg => (dY g hg).elim (fun e => .inr (by rw [e]; exact aX)) .inl)) ?_; refine zqt 25 rfl (yfa fl84_1 rfl) (((aE.trans aj).kp.trans (aT.mono' (fun _ e => by cases e; exact aX))).trans_new bQ (fun g hg => (dY g hg).elim (fun e => .inr (by rw [e]; exact aX)) .inl)) ?_; have oZ := bQ.blk (aT.blk ((aI.trans aj).blk fL) (fun e => n1 (oinj e))) (fun e => by have := dY _ e; omega); have p4 := ((x9.ext (aI.trans aj)).kp aT (fun g hg e => n3 (by cases hg; exact (oinj e).symm))).kp bQ (fun g hg e => by have e1 : gyc = g := oinj hg; have := dY _ e; omega); refine qO 26 (nEffP (i := 26) rfl rfl (zst ti23 rfl rfl (oneV_sl oX) oZ (by simp)) ?_); rintro w24 ⟨jV, fY⟩; refine ⟨jU.trans (fY.mono' (fun _ e => by rw [e]; exact ci)), ?_⟩; refine qE (Run.qb (e := [(0, _), (3, _)]) ?_); refine (hk _ _ ⟨kv23, rfl, jU.trans (fY.mono' (fun _ e => by rw [e]; exact ci)), jV, ?_, oY, p4.kp fY (fun g hg e => n2 (by cases hg; exact e))⟩).qb; exact oX.kp fY (fun g hg e => by have := oY g hg; omega)
  ·refine nValP (i := 16) rfl rfl rfl (pbs (parts := [(0, .tmp 19)]) (cs := [_]) (zs := [Value.string ⟨#[]⟩]) U23 ti9 rfl (by kernel_rfl) rfl rfl rfl (by decide)) ?_; rintro _ w16 ⟨b16, rfl, ⟨lu, aj, cH⟩, dc⟩; refine ⟨(aE.trans aj).kp, ?_⟩; refine qO 6 (nVal (i := 6) rfl rfl rfl (yld U23 rfl rfl ((aI.trans aj).blk fL) rfl) ((aE.trans aj).kp) ?_); have rK := aj.size; have yG := cH.lt; refine qO 17 (nValP (i := 17) rfl rfl rfl (pap U23 ti9 rfl (by decide) rfl rfl (kX.ext (aI.trans aj)) dc.rd (by intro c hc; simp at hc; subst hc; rfl) (by omega) (by omega)) ?_); rintro kv17 w17 ⟨dX, aT, cz, -⟩; refine ⟨(aE.trans aj).kp.trans (aT.mono' (fun _ e => by cases e; exact aX)), ?_⟩; have lz := aT.size; have dY : ∀ g, kv17.ownBlock = some g → g = gyk ∨ w1.heap.size ≤ g := fun g hg => (cz g hg).elim (fun e => .inl (oinj e).symm) (fun e => .inr (by omega)); have oW := (mL.ext (aI.trans aj)).kp aT (fun g hg e => x1 (by cases hg; exact (oinj e).symm)); refine qO 23 (nValP (i := 23) rfl rfl rfl (pap U23 ti9 rfl (by decide) rfl rfl dX oW.rd eN (by omega) (by omega)) ?_); rintro kv23 w23 ⟨oX, bQ, ve, -⟩; refine ⟨((aE.trans aj).kp.trans (aT.mono' (fun _ e => by cases e; exact aX))).trans_new bQ (fun g hg => (dY g hg).elim (fun e => .inr (by rw [e]; exact aX)) .inl), ?_⟩; have jU : Kp Q w1 w23 := ((aE.trans aj).kp.trans (aT.mono' (fun _ e => by cases e; exact aX))).trans_new bQ (fun g hg => (dY g hg).elim (fun e => .inr (by rw [e]; exact aX)) .inl); have oY : ∀ g, kv23.ownBlock = some g → g = gyk ∨ w1.heap.size ≤ g := fun g hg => (ve g hg).elim (dY g) (fun e => .inr (by omega)); refine zqt 24 rfl (ynk rfl) (((aE.trans aj).kp.trans (aT.mono' (fun _ e => by cases e; exact aX))).trans_new bQ (fun g hg => (dY g hg).elim (fun e => .inr (by rw [e]; exact aX)) .inl)) ?_; refine zqt 25 rfl (yfa fl84_1 rfl) (((aE.trans aj).kp.trans (aT.mono' (fun _ e => by cases e; exact aX))).trans_new bQ (fun g hg => (dY g hg).elim (fun e => .inr (by rw [e]; exact aX)) .inl)) ?_; have oZ := bQ.blk (aT.blk ((aI.trans aj).blk fL) (fun e => n1 (oinj e))) (fun e => by have := dY _ e; omega); have p4 := ((x9.ext (aI.trans aj)).kp aT (fun g hg e => n3 (by cases hg; exact (oinj e).symm))).kp bQ (fun g hg e => by have e1 : gyc = g := oinj hg; have := dY _ e; omega); refine qO 26 (nEffP (i := 26) rfl rfl (zst ti23 rfl rfl (oneV_sl oX) oZ (by simp)) ?_); rintro w24 ⟨jV, fY⟩; refine ⟨jU.trans (fY.mono' (fun _ e => by rw [e]; exact ci)), ?_⟩; refine qE (Run.qb (e := [(0, _), (3, _)]) ?_); refine (hk _ _ ⟨kv23, rfl, jU.trans (fY.mono' (fun _ e => by rw [e]; exact ci)), jV, ?_, oY, p4.kp fY (fun g hg e => n2 (by cases hg; exact e))⟩).qb; exact oX.kp fY (fun g hg e => by have := oY g hg; omega)
end
section
variable {w : World}
set_option maxHeartbeats 2000000 in
theorem fill_ret {p : Nat} {T : Tr} {nb : Int → Nat} {F : Nat → Prop} (h : TreeA w p T nb F) {no : Int} {c x y k : Nat} {ps : List (Bytes × Nat)} {up : Bytes} {ny nx : Nd} (hn : T.nodes no = some (innNd c ps)) (hk : k ≤ ps.length) (hi : ps[k - 1]? = some (up, x)) (hy : (c :: ps.map (·.2))[k - 1]? = some y) (h1 : T.nodes (y : Int) = some ny) (h2 : T.nodes (x : Int) = some nx) {R : Value → World → Prop}
  (p5 : ∀ w1, TreeA w1 p ((T.mark y).mark x) nb F → Kp F w w1 → Ret Tryz.prog (if ny.leaf then 104 else 105) [ptr p 0, .agg #[ptr (nb no) 0, I ((k - 1 : Nat) : Int), ptr (nb y) 0, ptr (nb x) 0]] w1 fun v w' => v = .tuple #[] ∧ R v w') :
  Ret Tryz.prog 78 [ptr p 0, ptr (nb no) 0, I (k : Int)] w fun v w' => v = .tuple #[] ∧ R v w' := by
 obtain ⟨mN, mC, mO, gv, kn, kc, ko, O⟩ := h.opn
 obtain ⟨qn, jS, j8, uT, -⟩ := h.node hn
 obtain ⟨nb', nk, nv, nc⟩ := qn
 dsimp only at jS
 subst jS
 have ar := j8.blk
 have ia := j8.kids
 have bj := j8.bd
 dsimp only at ar ia
 have cE : k - 1 < ps.length := by
  rcases Nat.lt_or_ge (k - 1) ps.length with h | h
  ·exact h
  ·rw [List.getElem?_eq_none h] at hi; cases hi
 have kcl : (innNd c ps).kids.length = ps.length + 1 := by simp [innNd]
 rw [kcl] at ia
 obtain ⟨gc, cc, rfl⟩ := some_of ia (by omega)
 have bi : (innNd c ps).kids[k - 1 + 1]? = some x := by simp [innNd, hi]
 have mB : (innNd c ps).kids[k - 1]? = some y := hy
 have Ks := bj.cs y (List.mem_of_getElem? mB)
 have nV := bj.cs x (List.mem_of_getElem? bi)
 have dv : ps.length ≤ 100000 := by have := bj.cl; omega
 refine ret_of_run (e := [(0, _), (1, _), (2, _)]) Tryz.func78 rfl Tryz.ntmps78 rfl rfl (qN rfl (zqm rfl (qV (ysb rfl rfl (by omega)) (qV (yma rfl rfl) (zqa rfl (rEnd (run_seq ?_)))))))
 rw [show max ((k : Int) - 1) 0 = ((k - 1 : Nat) : Int) by omega]
 have a7 := Ext.drew0 w
 refine run_draw (fun w' => Ext w w') (by kernel_rfl) rfl (zqt 0 rfl (ymv rfl) a7 (zqt 1 rfl (ymv rfl) a7 (zqt 2 rfl (ymv rfl) a7 (zqt 3 rfl (ynk rfl) a7 (zqt 4 rfl (yfa fl74_5 rfl) a7 (qT 5 rfl (fun _ h=>(by first | exact yld U71 rfl rfl (h.blk O.blk) rfl | exact yld U71 rfl rfl (h.blk ar) rfl)) a7 ?_))))))
 refine zqt 6 rfl (ymv rfl) a7 (zqt 7 rfl (ynk rfl) a7 (zqt 8 rfl (yfa fl84_3 rfl) a7 (qT 9 rfl (fun _ h=>(by first | exact yld U82 rfl rfl (h.blk O.blk) rfl | exact yld U82 rfl rfl (h.blk ar) rfl)) a7 ?_)))
 refine zqt 10 rfl (ymv rfl) a7 (zqt 11 rfl (yis U82 ti89 rfl rfl (by omega)) a7 (zqt 15 rfl (ymv rfl) a7 (zqt 16 rfl (ynk rfl) a7 (zqt 17 rfl (yfa fl74_5 rfl) a7 (qT 18 rfl (fun _ h=>(by first | exact yld U71 rfl rfl (h.blk O.blk) rfl | exact yld U71 rfl rfl (h.blk ar) rfl)) a7 ?_)))))
 refine zqt 19 rfl (ymv rfl) a7 (zqt 20 rfl (ynk rfl) a7 (zqt 21 rfl (yfa fl84_3 rfl) a7 (qT 22 rfl (fun _ h=>(by first | exact yld U82 rfl rfl (h.blk O.blk) rfl | exact yld U82 rfl rfl (h.blk ar) rfl)) a7 ?_)))
 refine zqt 23 rfl (ymv rfl) a7 (zqt 24 rfl (yad rfl rfl (by omega)) a7 (zqt 25 rfl (yis U82 ti89 rfl rfl (by omega)) a7 (qT 12 rfl (fun _ hS => yldc U89 rfl rfl (rd_u32 ((ia.ext hS).rd) (by omega) mB)) a7 (zqt 13 rfl (ycvSi64 rfl U89 U3 (by omega)) a7 (qT 14 rfl (fun _ h=>ylk (k := (y : Int)) (K := KZ) U71 (ky_int U3) ti81 rfl rfl (h.map O.nm.l)) a7 (qT 26 rfl (fun _ hS => yldc U89 rfl rfl (rd_u32 ((ia.ext hS).rd) (by omega) bi)) a7 (zqt 27 rfl (ycvSi64 rfl U89 U3 (by omega)) a7 (qT 28 rfl (fun _ h=>ylk (k := (x : Int)) (K := KZ) U71 (ky_int U3) ti81 rfl rfl (h.map O.nm.l)) a7 ?_))))))))
 rw [O.ng (y : Int), h1, O.ng (x : Int), h2]
 refine zqt 29 rfl (ybd (parts := [(0, .tmp 11), (1, .tmp 12), (2, .tmp 25), (3, .tmp 39)]) (cs := [_, _, _, _]) ti146 rfl sp146 rfl rfl) a7 (qO 30 (nValP (i := 30) rfl rfl rfl (pal (cs := [_, _, _, _]) ti146 rfl) ?_))
 rintro _ w1 ⟨b, rfl, hb, aa, ai⟩
 refine ⟨a7.trans aa, ?_⟩
 refine qO 31 (nEffP (i := 31) rfl rfl (zstA (news := [ptr (nb no) 0, I ((k - 1 : Nat) : Int), ptr (nb y) 0, ptr (nb x) 0]) ti146 rfl rfl rfl rfl ai (by simp)) ?_)
 rintro w2 ⟨ak, am⟩
 refine ⟨(a7.trans aa).trans_new am (fun i hi => by rw [hi, hb]; exact a7.size), ?_⟩
 refine qE (Run.qb (e := [(0, _), (1, _), (6, _), (7, _)]) ?_)
 refine run_seq ?_
 have ae : Ext w w2 := (a7.trans aa).trans_new am (fun i hi => by rw [hi, hb]; exact a7.size)
 have rO : w.heap.size ≤ b := by rw [hb]; exact a7.size
 have js := h.ext ae
 obtain ⟨mN2, mC2, mO2, gv2, kn2, kc2, ko2, O2⟩ := js.opn
 have fi := h.lt
 have HX : b ≠ mC2 := fun e => by have := fi mC2 O2.fp.2.2.1; omega
 have hY := O2.top no _ _ hn (j8.kp ae (fun _ _ => id)) rfl
 have BB : nb no ≠ mC2 := (hY _ (.inl rfl)).2.2.1
 have Gb : gc ≠ mC2 := (hY _ (.inr (.inr (.inr rfl)))).2.2.1
 have ag := Ext.drew0 w2
 have yH := ia.ext ae
 refine run_draw (fun w' => Kp (fun k => k = mC2) w2 w') (by kernel_rfl) rfl (zqt 0 rfl (ymv rfl) (ag.kp) (zqt 1 rfl (ynk rfl) (ag.kp) (zqt 2 rfl (yfa fl74_7 rfl) (ag.kp) (qT 3 rfl (fun _ hS => (by first | exact yld U72 rfl rfl (hS.blk O2.blk O2.ne.2.1.symm) rfl | exact yld U72 rfl rfl (hS.blk (ae.blk ar) BB) rfl)) (ag.kp) ?_))))
 refine zqt 4 rfl (ymv rfl) (ag.kp) (zqt 5 rfl (ynk rfl) (ag.kp) (zqt 6 rfl (yfa fl84_3 rfl) (ag.kp) (qT 7 rfl (fun _ hS => (by first | exact yld U82 rfl rfl (hS.blk O2.blk O2.ne.2.1.symm) rfl | exact yld U82 rfl rfl (hS.blk (ae.blk ar) BB) rfl)) (ag.kp) ?_)))
 refine zqt 8 rfl (ymv rfl) (ag.kp) (zqt 9 rfl (yis U82 ti89 rfl rfl (by omega)) (ag.kp) (zqt 12 rfl (ymv rfl) (ag.kp) (zqt 13 rfl (ynk rfl) (ag.kp) (zqt 14 rfl (yfa fl74_7 rfl) (ag.kp) (qT 15 rfl (fun _ hS => (by first | exact yld U72 rfl rfl (hS.blk O2.blk O2.ne.2.1.symm) rfl | exact yld U72 rfl rfl (hS.blk (ae.blk ar) BB) rfl)) (ag.kp) ?_)))))
 refine zqt 16 rfl (ymv rfl) (ag.kp) (zqt 17 rfl (ynk rfl) (ag.kp) (zqt 18 rfl (yfa fl84_3 rfl) (ag.kp) (qT 19 rfl (fun _ hS => (by first | exact yld U82 rfl rfl (hS.blk O2.blk O2.ne.2.1.symm) rfl | exact yld U82 rfl rfl (hS.blk (ae.blk ar) BB) rfl)) (ag.kp) ?_)))
 refine zqt 20 rfl (ymv rfl) (ag.kp) (zqt 21 rfl (yad rfl rfl (by omega)) (ag.kp) (zqt 22 rfl (yis U82 ti89 rfl rfl (by omega)) (ag.kp) (qT 10 rfl (fun _ hS => yldc U89 rfl rfl (rd_u32 ((yH.kp hS (fun g hg e => Gb (by have e1 : gc = g := oinj hg; rw [e1]; exact e))).rd) (by omega) mB)) (ag.kp) ?_)))
 refine zqt 11 rfl (ycvSi64 rfl U89 U3 (by omega)) (ag.kp) (qT 23 rfl (fun _ hS => yldc U89 rfl rfl (rd_u32 ((yH.kp hS (fun g hg e => Gb (by have e1 : gc = g := oinj hg; rw [e1]; exact e))).rd) (by omega) bi)) (ag.kp) ?_)
 refine zqt 24 rfl (ycvSi64 rfl U89 U3 (by omega)) (ag.kp) (qO 25 (nValP (i := 25) rfl rfl rfl (pme (k := (y : Int)) (K := KZ) U72 (ky_int U3) ti3 rfl rfl (O2.cm.kp ag id)) ?_))
 rintro _ w3 ⟨be, rfl, nW, aw⟩
 refine ⟨ag.kp.trans aw, ?_⟩
 refine zqt 26 rfl (yex rfl rfl) (ag.kp.trans aw) (qO 27 (nEffP (i := 27) rfl rfl (zes rfl rfl rfl nW) ?_))
 rintro w4 ⟨eM, az⟩
 refine ⟨(ag.kp.trans aw).trans az, ?_⟩
 refine qO 28 (nValP (i := 28) rfl rfl rfl (pme (k := (x : Int)) (K := KZ) U72 (ky_int U3) ti3 rfl rfl eM) ?_)
 rintro _ w5 ⟨be2, rfl, BC, bh⟩
 refine ⟨((ag.kp.trans aw).trans az).trans bh, ?_⟩
 refine zqt 29 rfl (yex rfl rfl) (((ag.kp.trans aw).trans az).trans bh) (qO 30 (nEffP (i := 30) rfl rfl (zes rfl rfl rfl BC) ?_))
 rintro w6 ⟨gK, bX⟩
 refine ⟨(((ag.kp.trans aw).trans az).trans bh).trans bX, ?_⟩
 refine qE (Run.qb (e := [(0, _), (7, _)]) ?_)
 refine run_seq (qN rfl (qV (yfa fl146_2 rfl) ?_))
 have aL : Kp (fun k => k = mC2) w2 w6 := (((ag.kp.trans aw).trans az).trans bh).trans bX
 have h6 := O2.setC w6 _ (updI (updI T.changed y true) x true) gK aL (fun z => by
  by_cases e : z = (x : Int)
  ·rw [getL_put, if_pos e]; subst e; simp [flag, updI]
  ·rw [getL_put, if_neg e, getL_put, if_neg e]; by_cases e2 : z = (y : Int)
   ·rw [getL_put, if_pos e2]; have : updI (updI T.changed y true) x true z = true := by simp [updI, e2]
    rw [this]
    rfl
   ·rw [getL_put, if_neg e2, getL_put, if_neg e2, O2.cg]; have : updI (updI T.changed y true) x true z = T.changed z := by simp [updI, e, e2]
    rw [this])
 have i7 : Kp F w w6 := ae.kp.trans (aL.mono' (fun k hk => by rw [hk]; exact O2.fp.2.2.1))
 have bD := aL.blk ak HX
 have cM := p5 w6 h6 i7
 obtain ⟨q1, dw, bL, jW, -⟩ := h6.node (n := ny) (no := (y : Int)) h1
 have fL := bL.blk
 rw [dw] at fL
 refine qV ((by first | exact yld U81 rfl rfl bD rfl | exact yld U81 rfl rfl fL rfl)) ?_
 refine qV (ynk rfl) (qV (yfa fl84_0 rfl) (qV ((by first | exact yld U4 rfl rfl bD rfl | exact yld U4 rfl rfl fL rfl)) ?_))
 refine rEnd (run_cond rfl (fun hl => ?_) (fun hl => ?_))
 ·rw [if_pos hl] at cM; refine qN rfl (zqm rfl (qV ((by first | exact yldA U146 rfl ti146 rfl (Blk.cells (n := 4) bD (news := [_, _, _, _]) rfl) rfl | exact yldA U146 rfl ti146 rfl (Blk.cells (n := 4) fL (news := [_, _, _, _]) rfl) rfl)) ?_)); refine zqc [.tmp 75, .tmp 76] cf104 rfl (cM) ?_; rintro _ w7 ⟨rfl, hR⟩; refine rEnd (run_ret Tryz.func78 rfl ?_); exact ⟨_, rfl, rfl, hR⟩
 ·rw [if_neg (by rw [hl]; decide)] at cM; refine run_skip (run_reg rfl (zqm rfl (qV ((by first | exact yldA U146 rfl ti146 rfl (Blk.cells (n := 4) bD (news := [_, _, _, _]) rfl) rfl | exact yldA U146 rfl ti146 rfl (Blk.cells (n := 4) fL (news := [_, _, _, _]) rfl) rfl)) ?_))); refine zqc [.tmp 78, .tmp 79] cf105 rfl (cM) ?_; rintro _ w7 ⟨rfl, hR⟩; refine rEnd (run_end Tryz.func78 rfl ?_); exact ⟨_, rfl, rfl, hR⟩
end
section
variable {w : World}
theorem even_aux {p : Nat} {nb : Int → Nat} {F : Nat → Prop} {X : Tr → Prop} {w1 w2 w' : World} {v : Value} (am : Kp F w1 w2) (hv : v = .tuple #[] ∧ ∃ T' F', TreeA w' p T' nb F' ∧ X T' ∧ Kp F w2 w' ∧ ∀ k, F' k → F k ∨ w2.heap.size ≤ k) : v = .tuple #[] ∧ ∃ T' F', TreeA w' p T' nb F' ∧ X T' ∧ Kp F w1 w' ∧ ∀ k, F' k → F k ∨ w1.heap.size ≤ k := by
 obtain ⟨e, T', F', a, b, c, d⟩ := hv
 have := am.size
 exact ⟨e, T', F', a, b, am.trans c, fun k hk => (d k hk).elim .inl (fun e => .inr (by omega))⟩
set_option maxHeartbeats 2000000 in
theorem even_ret {p : Nat} {T : Tr} {nb : Int → Nat} {F : Nat → Prop} (h : TreeA w p T nb F) {no : Int} {c x y z k : Nat} {ps : List (Bytes × Nat)} {up : Bytes} {ny nx nz : Nd} (hn : T.nodes no = some (innNd c ps)) (hk : k ≤ ps.length) (HY : (c :: ps.map (·.2))[k]? = some z) (hz : T.nodes (z : Int) = some nz) (hi : ps[k - 1]? = some (up, x)) (hy : (c :: ps.map (·.2))[k - 1]? = some y) (h1 : T.nodes (y : Int) = some ny) (h2 : T.nodes (x : Int) = some nx) {X : Tr → Prop}
  (p5 : nz.low T.size → ∀ w1, TreeA w1 p ((T.mark y).mark x) nb F → Ret Tryz.prog (if ny.leaf then 104 else 105) [ptr p 0, .agg #[ptr (nb no) 0, I ((k - 1 : Nat) : Int), ptr (nb y) 0, ptr (nb x) 0]] w1 fun v w' => v = .tuple #[] ∧ ∃ T' F', TreeA w' p T' nb F' ∧ X T' ∧ Kp F w1 w' ∧ ∀ k, F' k → F k ∨ w1.heap.size ≤ k) :
  Ret Tryz.prog 47 [ptr p 0, I no, I (k : Int)] w fun v w' => v = .tuple #[] ∧ ((¬ nz.low T.size ∧ Ext w w') ∨ (nz.low T.size ∧ ∃ T' F', TreeA w' p (T'.mark no) nb F' ∧ X T' ∧ Kp F w w' ∧ ∀ k, F' k → F k ∨ w.heap.size ≤ k)) := by
 obtain ⟨mN, mC, mO, gv, kn, kc, ko, O⟩ := h.opn
 obtain ⟨qn, jS, j8, uT, -⟩ := h.node hn
 obtain ⟨qz, Gc, CX, HZ, -⟩ := h.node hz
 obtain ⟨nb', nk, nv, nc⟩ := qn
 obtain ⟨zb, zk, zv, zc⟩ := qz
 dsimp only at jS Gc
 subst jS
 subst Gc
 have ar := j8.blk
 have ia := j8.kids
 have bj := j8.bd
 have m9 := CX.blk
 dsimp only at ar ia m9
 have kcl : (innNd c ps).kids.length = ps.length + 1 := by simp [innNd]
 rw [kcl] at ia
 obtain ⟨gc, cc, rfl⟩ := some_of ia (by omega)
 have gT : (innNd c ps).kids[k]? = some z := HY
 have Kt := bj.cs z (List.mem_of_getElem? gT)
 have dv : ps.length ≤ 100000 := by have := bj.cl; omega
 refine ret_of_run (e := [(0, _), (1, _), (2, _)]) Tryz.func47 rfl Tryz.ntmps47 rfl rfl (qN rfl (zqm rfl (qV (ynk rfl) (qV (yfa fl74_5 rfl) (qV (yld U71 rfl rfl O.blk rfl) (zqm rfl (qV (ylk (k := no) (K := KZ) U71 (ky_int U3) ti81 rfl rfl O.nm.l) ?_)))))))
 rw [O.ng no, hn]
 refine zqa rfl (rEnd (run_seq ?_))
 have a7 := Ext.drew0 w
 refine run_draw (fun w' => Ext w w') (by kernel_rfl) rfl (zqt 0 rfl (ymv rfl) a7 (zqt 1 rfl (ymv rfl) a7 (zqt 2 rfl (ynk rfl) a7 (zqt 3 rfl (yfa fl74_5 rfl) a7 (qT 4 rfl (fun _ h=>(by first | exact yld U71 rfl rfl (h.blk O.blk) rfl | exact yld U71 rfl rfl (h.blk ar) rfl)) a7 ?_)))))
 refine zqt 5 rfl (ymv rfl) a7 (zqt 6 rfl (ynk rfl) a7 (zqt 7 rfl (yfa fl84_3 rfl) a7 (qT 8 rfl (fun _ h=>(by first | exact yld U82 rfl rfl (h.blk O.blk) rfl | exact yld U82 rfl rfl (h.blk ar) rfl)) a7 ?_)))
 refine zqt 9 rfl (ymv rfl) a7 (zqt 10 rfl (yis U82 ti89 rfl rfl (by omega)) a7 (qT 11 rfl (fun _ hS => yldc U89 rfl rfl (rd_u32 ((ia.ext hS).rd) (by omega) gT)) a7 (zqt 12 rfl (ycvSi64 rfl U89 U3 (by omega)) a7 (qT 13 rfl (fun _ h=>ylk (k := (z : Int)) (K := KZ) U71 (ky_int U3) ti81 rfl rfl (h.map O.nm.l)) a7 ?_))))
 rw [O.ng (z : Int), hz]
 refine zqo 14 [.tmp 13, .tmp 26] rfl cf77 rfl (low_ret (a7.blk O.blk) O.z (a7.blk m9) (CX.r.ext a7) CX.bd) ?_
 rintro _ w1 ⟨rfl, aa⟩
 refine ⟨a7.trans aa, ?_⟩
 refine qE (Run.qb (e := [(0, _), (1, _), (2, _), (6, _), (27, _)]) ?_)
 have rX : Ext w w1 := a7.trans aa
 have I0 := rX.size
 refine run_cond rfl (fun hl => ?_) (fun hl => ?_)
 ·have bV : nz.low T.size := of_decide_eq_true hl; refine qN rfl (zqm rfl (zqm rfl (zqm rfl (zqc [.tmp 28, .tmp 29, .tmp 30] cf78 rfl (fill_ret (h.ext rX) hn hk hi hy h1 h2 (R := fun v w' => ∃ T' F', TreeA w' p T' nb F' ∧ X T' ∧ Kp F w1 w' ∧ ∀ k, F' k → F k ∨ w1.heap.size ≤ k) (fun w2 gr am => Ret.mono (p5 bV w2 gr) (fun v w' hv => even_aux am hv))) ?_)))); rintro _ w3 ⟨rfl, T', F', oK, hX, aw, iC⟩; obtain ⟨mN3, mC3, mO3, gv3, kn3, kc3, ko3, O3⟩ := oK.opn; refine rEnd (run_reg rfl (zqm rfl (qV (ynk rfl) (qV (yfa fl74_7 rfl) (qV (yld U72 rfl rfl O3.blk rfl) (zqm rfl (rEffP rfl (zmuB (k := no) (K := KZ) U72 (ky_int U3) rfl rfl rfl O3.cm) ?_))))))); rintro w4 ⟨eM, az⟩; refine rEnd (run_end Tryz.func47 rfl ?_)
  have h4 := O3.setC w4 _ (updI T'.changed no true) eM az (fun x => by
   rw [getL_put]; by_cases e : x = no
   ·subst e; simp [flag, updI]
   ·rw [if_neg e, O3.cg]; simp [updI, e])
  refine ⟨_, rfl, rfl, .inr ⟨bV, T', F', h4, hX, ?_, fun k hk => (iC k hk).elim .inl (fun e => .inr (by omega))⟩⟩; exact (rX.kp.trans aw).trans_new az (fun i hi => by rw [hi]; exact ((iC _ O3.fp.2.2.1).elim .inr (fun e => .inl (by omega))))
 ·have bV : ¬ nz.low T.size := of_decide_eq_false hl; refine run_skip (run_end Tryz.func47 rfl ?_); exact ⟨_, rfl, rfl, .inl ⟨bV, rX⟩⟩
end
section
variable {w : World}
theorem rootT_ret {p : Nat} {T : Tr} {nb : Int → Nat} {F : Nat → Prop} (h : TreeA w p T nb F) : Ret Tryz.prog 21 [ptr p 0] w fun v w' => v = I T.root ∧ w' = w := by
 obtain ⟨mN, mC, mO, gv, kn, kc, ko, O⟩ := h.opn
 refine ret_of_run (e := [(0, _)]) Tryz.func21 rfl Tryz.ntmps21 rfl rfl (qN rfl (zqa rfl (rEnd (run_seq (qN rfl (zqm rfl (qV (yeqpN U24 rfl rfl) (rEnd (run_false rfl (run_skip (qN rfl (zqm rfl (qV (ynk rfl) ?_)))))))))))))
 refine qV (yfa fl74_1 rfl) (qV (yld U3 rfl rfl O.blk rfl) (zqa rfl (rEnd (run_ret Tryz.func21 rfl ?_))))
 exact ⟨_, rfl, rfl, rfl⟩
theorem lenT_ret {p : Nat} {T : Tr} {nb : Int → Nat} {F : Nat → Prop} (h : TreeA w p T nb F) : Ret Tryz.prog 14 [ptr p 0] w fun v w' => v = I (T.count : Int) ∧ w' = w := by
 obtain ⟨mN, mC, mO, gv, kn, kc, ko, O⟩ := h.opn
 refine ret_of_run (e := [(0, _)]) Tryz.func14 rfl Tryz.ntmps14 rfl rfl (qN rfl (zqa rfl (rEnd (run_seq (qN rfl (zqm rfl (qV (yeqpN U24 rfl rfl) (rEnd (run_false rfl (run_skip (qN rfl (zqm rfl (qV (ynk rfl) ?_)))))))))))))
 refine qV (yfa fl74_4 rfl) (qV (yld U3 rfl rfl O.blk rfl) (zqa rfl (rEnd (run_ret Tryz.func14 rfl ?_))))
 exact ⟨_, rfl, rfl, rfl⟩
end
section
variable {w : World}
set_option maxHeartbeats 2000000 in
theorem settle_leaf0 {p : Nat} {T : Tr} {nb : Int → Nat} {F : Nat → Prop} (h : TreeA w p T nb F) (hn : T.nodes T.root = some (leafNd [])) (de : T.given.length ≤ 4294967296) :
  Ret Tryz.prog 48 [ptr p 0] w fun v w' => v = .tuple #[] ∧ ∃ F', TreeA w' p { T.dropN T.root with root := 0 } nb F' ∧ Kp F w w' ∧ ∀ k, F' k → F k ∨ w.heap.size ≤ k := by
 obtain ⟨mN, mC, mO, gv, kn, kc, ko, O⟩ := h.opn
 obtain ⟨q, hq, hM, fj, -⟩ := h.node hn
 obtain ⟨b, kv, vv, cv⟩ := q
 dsimp only at hq
 subst hq
 obtain ⟨ka, kc', rfl, -⟩ := hM.r.keys.shape
 have hB := hM.blk
 dsimp only at hB
 refine ret_of_run (e := [(0, _)]) Tryz.func48 rfl Tryz.ntmps48 rfl rfl ?_
 have a7 := Ext.drew0 w
 refine run_seq (run_draw (fun w' => Ext w w') (by kernel_rfl) rfl (zqt 0 rfl (ymv rfl) a7 (zqt 1 rfl (ynk rfl) a7 (zqt 2 rfl (yfa fl74_5 rfl) a7 (qT 3 rfl (fun _ h=>yld U71 rfl rfl (h.blk O.blk) rfl) a7 (zqt 4 rfl (ymv rfl) a7 (zqt 5 rfl (ynk rfl) a7 (zqt 6 rfl (yfa fl74_1 rfl) a7 (qT 7 rfl (fun _ h=>yld U3 rfl rfl (h.blk O.blk) rfl) a7 (qT 8 rfl (fun _ h=>ylk (k := T.root) (K := KZ) U71 (ky_int U3) ti81 rfl rfl (h.map O.nm.l)) a7 ?_))))))))))
 rw [show (getL kn T.root).getD (.pointer none) = ptr (nb T.root) 0 by rw [O.ng T.root, hn]; rfl]
 refine zqt 9 rfl (yas rfl) a7 (qE (run_block (qN rfl (zqm rfl (qV (ynk rfl) (qV (yfa fl84_0 rfl) ?_))))))
 have ai := a7.blk hB
 refine qV (yld U4 rfl rfl ai rfl) (zqm rfl (zqm rfl (qV (ynk rfl) (qV (yfa fl84_1 rfl) (qV (yld U23 rfl rfl ai rfl) (qV (yln U23 rfl) (qV (yeq rfl rfl) (qV (ypT rfl rfl) (zqa rfl (rEnd (run_if rfl (fun h0 => ?_) (fun h0 => ?_))))))))))))
 ·have yI := a7.blk O.blk; refine qN rfl (zqm rfl (zqm rfl (qV (ynk rfl) (qV (yfa fl74_1 rfl) (qV (yld U3 rfl rfl yI rfl) (zqc [.tmp 25, .tmp 29] cf79 rfl (drop_ret (h.ext a7) T.root de) ?_)))))); rintro _ w2 ⟨rfl, F2, gr, am, ct, -⟩; obtain ⟨mN2, mC2, mO2, gv2, kn2, kc2, ko2, O2⟩ := gr.opn; refine rEnd (Run.qb (e := [(0, _)]) ?_); refine run_reg rfl (zqm rfl (qV (ynk rfl) (qV (yfa fl74_1 rfl) (rEffP rfl (zst ti3 rfl rfl rfl O2.blk (by simp [trCs])) ?_)))); rintro w3 ⟨aG, aw⟩; refine rEnd (run_inBlock (run_end Tryz.func48 rfl ?_)); have h3 := O2.setB w3 0 T.count aG aw; refine ⟨_, rfl, rfl, F2, h3, (a7.kp.trans am).trans_new aw (fun i hi => by rw [hi]; exact (ct _ O2.fp.1).symm), ct⟩
 ·exact absurd rfl h0
set_option maxHeartbeats 2000000 in
theorem settle_inn1 {p c : Nat} {T : Tr} {nb : Int → Nat} {F : Nat → Prop} (h : TreeA w p T nb F) (hn : T.nodes T.root = some (innNd c [])) (de : T.given.length ≤ 4294967296) :
  Ret Tryz.prog 48 [ptr p 0] w fun v w' => v = .tuple #[] ∧ ∃ F', TreeA w' p { T.dropN T.root with root := (c : Int) } nb F' ∧ Kp F w w' ∧ ∀ k, F' k → F k ∨ w.heap.size ≤ k := by
 obtain ⟨mN, mC, mO, gv, kn, kc, ko, O⟩ := h.opn
 obtain ⟨q, hq, hM, fj, -⟩ := h.node hn
 obtain ⟨b, kv, vv, cv⟩ := q
 dsimp only at hq
 subst hq
 have hC := hM.kids
 dsimp only at hC
 obtain ⟨gc, cc', rfl⟩ := some_of hC (by simp [innNd])
 have hB := hM.blk
 dsimp only at hB
 refine ret_of_run (e := [(0, _)]) Tryz.func48 rfl Tryz.ntmps48 rfl rfl ?_
 have a7 := Ext.drew0 w
 refine run_seq (run_draw (fun w' => Ext w w') (by kernel_rfl) rfl (zqt 0 rfl (ymv rfl) a7 (zqt 1 rfl (ynk rfl) a7 (zqt 2 rfl (yfa fl74_5 rfl) a7 (qT 3 rfl (fun _ h=>yld U71 rfl rfl (h.blk O.blk) rfl) a7 (zqt 4 rfl (ymv rfl) a7 (zqt 5 rfl (ynk rfl) a7 (zqt 6 rfl (yfa fl74_1 rfl) a7 (qT 7 rfl (fun _ h=>yld U3 rfl rfl (h.blk O.blk) rfl) a7 (qT 8 rfl (fun _ h=>ylk (k := T.root) (K := KZ) U71 (ky_int U3) ti81 rfl rfl (h.map O.nm.l)) a7 ?_))))))))))
 rw [show (getL kn T.root).getD (.pointer none) = ptr (nb T.root) 0 by rw [O.ng T.root, hn]; rfl]
 refine zqt 9 rfl (yas rfl) a7 (qE (run_block (qN rfl (zqm rfl (qV (ynk rfl) (qV (yfa fl84_0 rfl) ?_))))))
 have ai := a7.blk hB
 refine qV (yld U4 rfl rfl ai rfl) (zqm rfl (qS (qS (qS (qS (qS (qS (qV (ypF rfl rfl) (zqa rfl (rEnd (run_false rfl (qN rfl (zqm rfl ?_)))))))))))))
 refine qV (ynk rfl) (qV (yfa fl84_0 rfl) (qV (yld U4 rfl rfl ai rfl) (qV ((by first | exact yntd rfl | exact ynt rfl)) ?_)))
 refine zqm rfl (zqm rfl (qV (ynk rfl) (qV (yfa fl84_3 rfl) (qV (yld U82 rfl rfl ai rfl) (qV (yln U82 rfl) (qV (yeq rfl rfl) (qV (ypT rfl rfl) (zqa rfl (rEnd (Run.qb (e := [(0, _), (2, _), (34, _)]) ?_))))))))))
 refine run_if rfl (fun h0 => ?_) (fun h0 => ?_)
 ·have yI := a7.blk O.blk; refine qN rfl (zqm rfl (zqm rfl (qV (ynk rfl) (qV (yfa fl74_1 rfl) (qV (yld U3 rfl rfl yI rfl) (zqc [.tmp 48, .tmp 52] cf79 rfl (drop_ret (h.ext a7) T.root de) ?_)))))); rintro _ w2 ⟨rfl, F2, gr, am, ct, BD⟩; obtain ⟨mN2, mC2, mO2, gv2, kn2, kc2, ko2, O2⟩ := gr.opn; have cu := BD T.root _ _ hn (hM.kp a7 (fun _ _ => id)) rfl; have ak := cu.blk; dsimp only at ak; have I1 := cu.bd.cs c (by simp [innNd]); refine rEnd (run_reg rfl (zqm rfl (zqm rfl (qV (ynk rfl) (qV (yfa fl84_3 rfl) (qV ((by first | exact yld U82 rfl rfl O2.blk rfl | exact yld U82 rfl rfl ak rfl)) ?_)))))); refine qV (yis U82 ti89 rfl rfl (by omega)) (qV (yldc U89 rfl rfl (rd_u32 (s := c) (cu.kids.rd) (by simp [innNd]) (by simp [innNd]))) ?_); refine qV (ycvSi64 rfl U89 U3 (by omega)) (qV (ynk rfl) (qV (yfa fl74_1 rfl) (rEffP rfl (zst ti3 rfl rfl rfl O2.blk (by simp [trCs])) ?_))); rintro w3 ⟨aG, aw⟩; refine rEnd (run_inBlock (run_end Tryz.func48 rfl ?_)); have h3 := O2.setB w3 c T.count aG aw; refine ⟨_, rfl, rfl, F2, h3, (a7.kp.trans am).trans_new aw (fun i hi => by rw [hi]; exact (ct _ O2.fp.1).symm), ct⟩
 ·exact absurd rfl h0
set_option maxHeartbeats 2000000 in
theorem settle_leafS {p : Nat} {E : Es} {T : Tr} {nb : Int → Nat} {F : Nat → Prop} (h : TreeA w p T nb F) (hn : T.nodes T.root = some (leafNd E)) (hE : E ≠ []) :
  Ret Tryz.prog 48 [ptr p 0] w fun v w' => v = .tuple #[] ∧ Ext w w' := by
 obtain ⟨mN, mC, mO, gv, kn, kc, ko, O⟩ := h.opn
 obtain ⟨q, hq, hM, fj, -⟩ := h.node hn
 obtain ⟨b, kv, vv, cv⟩ := q
 dsimp only at hq
 subst hq
 obtain ⟨ka, kc', rfl, -⟩ := hM.r.keys.shape
 have hB := hM.blk
 dsimp only at hB
 refine ret_of_run (e := [(0, _)]) Tryz.func48 rfl Tryz.ntmps48 rfl rfl ?_
 have a7 := Ext.drew0 w
 refine run_seq (run_draw (fun w' => Ext w w') (by kernel_rfl) rfl (zqt 0 rfl (ymv rfl) a7 (zqt 1 rfl (ynk rfl) a7 (zqt 2 rfl (yfa fl74_5 rfl) a7 (qT 3 rfl (fun _ h=>yld U71 rfl rfl (h.blk O.blk) rfl) a7 (zqt 4 rfl (ymv rfl) a7 (zqt 5 rfl (ynk rfl) a7 (zqt 6 rfl (yfa fl74_1 rfl) a7 (qT 7 rfl (fun _ h=>yld U3 rfl rfl (h.blk O.blk) rfl) a7 (qT 8 rfl (fun _ h=>ylk (k := T.root) (K := KZ) U71 (ky_int U3) ti81 rfl rfl (h.map O.nm.l)) a7 ?_))))))))))
 rw [show (getL kn T.root).getD (.pointer none) = ptr (nb T.root) 0 by rw [O.ng T.root, hn]; rfl]
 refine zqt 9 rfl (yas rfl) a7 (qE (run_block (qN rfl (zqm rfl (qV (ynk rfl) (qV (yfa fl84_0 rfl) ?_))))))
 have ai := a7.blk hB
 refine qV (yld U4 rfl rfl ai rfl) (zqm rfl (zqm rfl (qV (ynk rfl) (qV (yfa fl84_1 rfl) (qV (yld U23 rfl rfl ai rfl) (qV (yln U23 rfl) (qV (yeq rfl rfl) (qV (ypT rfl rfl) (zqa rfl (rEnd (run_if rfl (fun h0 => ?_) (fun h0 => ?_))))))))))))
 ·exact absurd (List.length_eq_zero_iff.1 (by have : ((leafNd E).keys.length : Int) = 0 := h0; simp [leafNd] at this; simpa using this)) hE
 ·refine qN rfl (zqm rfl (qV (ynk rfl) (qV (yfa fl84_0 rfl) (qV (yld U4 rfl rfl ai rfl) (qV ((by first | exact yntd rfl | exact ynt rfl)) ?_))))); refine zqm rfl (qS (qS (qS (qS (qS (qS (qV (ypF rfl rfl) (zqa rfl (rEnd (Run.qb (e := [(0, _), (2, _), (34, _)]) ?_)))))))))); refine run_false rfl (run_skip (run_inBlock (run_end Tryz.func48 rfl ?_))); exact ⟨_, rfl, rfl, a7⟩
set_option maxHeartbeats 2000000 in
theorem settle_innS {p c : Nat} {ps : List (Bytes × Nat)} {T : Tr} {nb : Int → Nat} {F : Nat → Prop} (h : TreeA w p T nb F) (hn : T.nodes T.root = some (innNd c ps)) (hE : ps ≠ []) :
  Ret Tryz.prog 48 [ptr p 0] w fun v w' => v = .tuple #[] ∧ Ext w w' := by
 obtain ⟨mN, mC, mO, gv, kn, kc, ko, O⟩ := h.opn
 obtain ⟨q, hq, hM, fj, -⟩ := h.node hn
 obtain ⟨b, kv, vv, cv⟩ := q
 dsimp only at hq
 subst hq
 have hC := hM.kids
 dsimp only at hC
 obtain ⟨gc, cc', rfl⟩ := some_of hC (by simp [innNd])
 have hB := hM.blk
 dsimp only at hB
 refine ret_of_run (e := [(0, _)]) Tryz.func48 rfl Tryz.ntmps48 rfl rfl ?_
 have a7 := Ext.drew0 w
 refine run_seq (run_draw (fun w' => Ext w w') (by kernel_rfl) rfl (zqt 0 rfl (ymv rfl) a7 (zqt 1 rfl (ynk rfl) a7 (zqt 2 rfl (yfa fl74_5 rfl) a7 (qT 3 rfl (fun _ h=>yld U71 rfl rfl (h.blk O.blk) rfl) a7 (zqt 4 rfl (ymv rfl) a7 (zqt 5 rfl (ynk rfl) a7 (zqt 6 rfl (yfa fl74_1 rfl) a7 (qT 7 rfl (fun _ h=>yld U3 rfl rfl (h.blk O.blk) rfl) a7 (qT 8 rfl (fun _ h=>ylk (k := T.root) (K := KZ) U71 (ky_int U3) ti81 rfl rfl (h.map O.nm.l)) a7 ?_))))))))))
 rw [show (getL kn T.root).getD (.pointer none) = ptr (nb T.root) 0 by rw [O.ng T.root, hn]; rfl]
 refine zqt 9 rfl (yas rfl) a7 (qE (run_block (qN rfl (zqm rfl (qV (ynk rfl) (qV (yfa fl84_0 rfl) ?_))))))
 have ai := a7.blk hB
 refine qV (yld U4 rfl rfl ai rfl) (zqm rfl (qS (qS (qS (qS (qS (qS (qV (ypF rfl rfl) (zqa rfl (rEnd (run_false rfl (qN rfl (zqm rfl ?_)))))))))))))
 refine qV (ynk rfl) (qV (yfa fl84_0 rfl) (qV (yld U4 rfl rfl ai rfl) (qV ((by first | exact yntd rfl | exact ynt rfl)) ?_)))
 refine zqm rfl (zqm rfl (qV (ynk rfl) (qV (yfa fl84_3 rfl) (qV (yld U82 rfl rfl ai rfl) (qV (yln U82 rfl) (qV (yeq rfl rfl) (qV (ypT rfl rfl) (zqa rfl (rEnd (Run.qb (e := [(0, _), (2, _), (34, _)]) ?_))))))))))
 refine run_if rfl (fun h0 => ?_) (fun h0 => ?_)
 ·have BE : ((innNd c ps).kids.length : Int) = 1 := h0; simp [innNd] at BE; exact absurd (List.length_eq_zero_iff.1 (by omega)) hE
 ·refine run_skip (run_inBlock (run_end Tryz.func48 rfl ?_)); exact ⟨_, rfl, rfl, a7⟩
end

theorem sortZ_perm (l : List Int) : (sortZ l).Perm l := List.mergeSort_perm ..
theorem sortZ_mem {l : List Int} {x : Int} : x ∈ sortZ l ↔ x ∈ l := (sortZ_perm l).mem_iff
theorem sortZ_len (l : List Int) : (sortZ l).length = l.length := (sortZ_perm l).length_eq
theorem sortZ_le (l : List Int) : (sortZ l).Pairwise (· ≤ ·) := by
 have := List.pairwise_mergeSort (le := fun x y : Int => decide (x ≤ y)) (fun a b c h1 h2 => by simp at h1 h2 ⊢; omega) (fun a b => by simp; omega) l
 exact this.imp (fun h => by simpa using h)
theorem sortZ_lt {l : List Int} (h : l.Nodup) : (sortZ l).Pairwise (· < ·) := by
 have h1 := sortZ_le l
 have h2 : (sortZ l).Nodup := (sortZ_perm l).nodup_iff.2 h
 exact (h1.and h2).imp (fun ⟨a, b⟩ => by omega)
theorem nodup_of_lt {l : List Int} (h : l.Pairwise (· < ·)) : l.Nodup := h.imp (fun h => by omega)
structure GivS (T : Tr) : Prop where
 rise : T.given.Pairwise (· < ·)
 free : ∀ x ∈ T.given, T.nodes x = none ∧ T.old x = false
structure Evo (T T' : Tr) (g : Nat) : Prop where
 size : T'.size = T.size
 old : T'.old = T.old
 root : T'.root = T.root
 len : T.given.length ≤ T'.given.length + g
 giv : ∀ x ∈ T'.given, x ∈ T.given ∨ (T.nodes x ≠ none ∧ T.old x = false)
 nod : ∀ x, T'.nodes x ≠ none → T.nodes x ≠ none ∨ x ∈ T.given
 srt : GivS T'
 chg : ∀ x, T'.changed x = false → T'.nodes x = none ∨ (T'.nodes x = T.nodes x ∧ T.changed x = false)
theorem Evo.refl {T : Tr} (h : GivS T) : Evo T T 0 := ⟨rfl, rfl, rfl, by omega, fun x hx => .inl hx, fun x hx => .inl hx, h, fun x hx => .inr ⟨rfl, hx⟩⟩
theorem Evo.trans {T T1 T2 : Tr} {a b : Nat} (h1 : Evo T T1 a) (h2 : Evo T1 T2 b) : Evo T T2 (a + b) where
 size := h2.size.trans h1.size
 old := h2.old.trans h1.old
 root := h2.root.trans h1.root
 len := by have := h1.len; have := h2.len; omega
 giv := fun x hx => by
  rcases h2.giv x hx with h | ⟨h, ho⟩
  ·exact h1.giv x h
  ·rw [h1.old] at ho; rcases h1.nod x h with h | h
   ·exact .inr ⟨h, ho⟩
   ·exact .inl h
 nod := fun x hx => by
  rcases h2.nod x hx with h | h
  ·exact h1.nod x h
  ·exact (h1.giv x h).elim .inr (fun h => .inl h.1)
 srt := h2.srt
 chg := fun x hx => by
  rcases h2.chg x hx with h | ⟨h, hc⟩
  ·exact .inl h
  ·rcases h1.chg x hc with h' | ⟨h', ur⟩
   ·exact .inl (h.trans h')
   ·exact .inr ⟨h.trans h', ur⟩
theorem Evo.mono {T T' : Tr} {a b : Nat} (h : Evo T T' a) (er : a ≤ b) : Evo T T' b := ⟨h.size, h.old, h.root, by have := h.len; omega, h.giv, h.nod, h.srt, h.chg⟩
theorem updI_eq {α : Type} (f : Int → α) (k : Int) (v : α) (x : Int) : updI f k v x = if x = k then v else f x := rfl
theorem Evo.set {T : Tr} {no : Int} {n m : Nd} (hg : GivS T) (hn : T.nodes no = some m) : Evo T ((T.setN no n).mark no) 0 where
 size := rfl
 old := rfl
 root := rfl
 len := Nat.le_refl _
 giv := fun x hx => .inl hx
 nod := fun x hx => by
  by_cases e : x = no
  ·subst e; rw [hn]; exact .inl (by simp)
  ·exact .inl (by intro h; exact hx (by show updI T.nodes no (some n) x = none; rw [updI_ne e]; exact h))
 srt := ⟨hg.rise, fun x hx => by
  have := hg.free x hx; refine ⟨?_, this.2⟩; show updI T.nodes no (some n) x = none
  rw [updI_ne (fun e => by subst e; rw [hn] at this; cases this.1)]; exact this.1⟩
 chg := fun x hx => by
  have bi : (if x = no then true else T.changed x) = false := hx; by_cases e : x = no
  ·rw [if_pos e] at bi; cases bi
  ·rw [if_neg e] at bi; exact .inr ⟨updI_ne e, bi⟩
theorem Evo.mark {T : Tr} {no : Int} {m : Nd} (hg : GivS T) (hn : T.nodes no = some m) : Evo T (T.mark no) 0 := by
 have e : T.mark no = (T.setN no m).mark no := by
  show _ = ({ T with nodes := updI T.nodes no (some m), changed := updI T.changed no true } : Tr); have : updI T.nodes no (some m) = T.nodes := by funext x; rw [updI_eq]; split <;> simp_all
  rw [this]; rfl
 rw [e]; exact Evo.set hg hn
theorem Evo.fresh {T : Tr} {no : Int} {gs : List Int} {n : Nd} (hg : GivS T) (h : T.given = no :: gs) : Evo T ((({ T with given := gs } : Tr).setN no n).mark no) 1 where
 size := rfl
 old := rfl
 root := rfl
 len := by rw [h]; exact Nat.le_refl _
 giv := fun x hx => .inl (by rw [h]; exact List.mem_cons_of_mem _ hx)
 nod := fun x hx => by
  by_cases e : x = no
  ·exact .inr (by rw [h, e]; simp)
  ·exact .inl (by intro h'; exact hx (by show updI T.nodes no (some n) x = none; rw [updI_ne e]; exact h'))
 srt := by
  have h1 := hg.rise; rw [h] at h1; obtain ⟨h2, h3⟩ := List.pairwise_cons.1 h1; refine ⟨h3, fun x hx => ?_⟩; have := hg.free x (by rw [h]; exact List.mem_cons_of_mem _ hx); refine ⟨?_, this.2⟩; have := h2 x hx; show updI T.nodes no (some n) x = none; rw [updI_ne (by omega)]; exact (hg.free x (by rw [h]; exact List.mem_cons_of_mem _ hx)).1
 chg := fun x hx => by
  have bi : (if x = no then true else T.changed x) = false := hx; by_cases e : x = no
  ·rw [if_pos e] at bi; cases bi
  ·rw [if_neg e] at bi; exact .inr ⟨updI_ne e, bi⟩
theorem Evo.drop {T : Tr} {no : Int} {m : Nd} (hg : GivS T) (hn : T.nodes no = some m) : Evo T (T.dropN no) 0 where
 size := rfl
 old := rfl
 root := rfl
 len := by
  show T.given.length ≤ (if T.old no then T.given else sortZ (T.given ++ [no])).length; split
  ·omega
  ·rw [sortZ_len]; simp
 giv := fun x hx => by
  have bi : x ∈ (if T.old no then T.given else sortZ (T.given ++ [no])) := hx; split at bi
  ·exact .inl bi
  ·rename_i ho
   rcases List.mem_append.1 (sortZ_mem.1 bi) with h | h
   ·exact .inl h
   ·simp at h; subst h; exact .inr ⟨by rw [hn]; simp, by simpa using ho⟩
 nod := fun x hx => by
  by_cases e : x = no
  ·subst e; rw [hn]; exact .inl (by simp)
  ·exact .inl (by intro h; exact hx (by show updI T.nodes no none x = none; rw [updI_ne e]; exact h))
 srt := by
  have bK : no ∉ T.given := fun h => by have := (hg.free no h).1; rw [hn] at this; cases this
  refine ⟨?_, fun x hx => ?_⟩
  ·show (if T.old no then T.given else sortZ (T.given ++ [no])).Pairwise (· < ·); split
   ·exact hg.rise
   ·refine sortZ_lt ?_; rw [List.nodup_append]; exact ⟨nodup_of_lt hg.rise, by simp, fun a ha b hb e => by simp at hb; subst hb; subst e; exact bK ha⟩
  ·have bi : x ∈ (if T.old no then T.given else sortZ (T.given ++ [no])) := hx; show updI T.nodes no none x = none ∧ T.old x = false; split at bi
   ·have := hg.free x bi; refine ⟨?_, this.2⟩; rw [updI_eq]; split
    ·rfl
    ·exact this.1
   ·rename_i ho
    rcases List.mem_append.1 (sortZ_mem.1 bi) with h | h
    ·have := hg.free x h; refine ⟨?_, this.2⟩; rw [updI_eq]; split
     ·rfl
     ·exact this.1
    ·simp at h; subst h; exact ⟨updI_same _ _ _, by simpa using ho⟩
 chg := fun x hx => by
  have bi : (if x = no then false else T.changed x) = false := hx; by_cases e : x = no
  ·subst e; exact .inl (updI_same _ _ _)
  ·rw [if_neg e] at bi; exact .inr ⟨updI_ne e, bi⟩
theorem Evo.join {T : Tr} {no x y : Int} {my mx mn n1 n3 : Nd} (hg : GivS T) (hy : T.nodes y = some my) (hx : T.nodes x = some mx) (hn : T.nodes no = some mn) (nT : y ≠ x) (cV : no ≠ x) : Evo T ((((((T.mark y).mark x).setN y n1).dropN x).setN no n3).mark no) 0 := by
 have e1 := Evo.set (n := n1) hg hy
 have e2 : Evo ((T.setN y n1).mark y) (((T.setN y n1).mark y).mark x) 0 := Evo.mark e1.srt (by show updI T.nodes y (some n1) x = _; rw [updI_ne (Ne.symm nT)]; exact hx)
 have e3 := Evo.drop (no := x) (m := mx) (e1.trans e2).srt (by show updI T.nodes y (some n1) x = _; rw [updI_ne (Ne.symm nT)]; exact hx)
 have e123 := (e1.trans e2).trans e3
 obtain ⟨mn', vf⟩ : ∃ m, ((((T.setN y n1).mark y).mark x).dropN x).nodes no = some m := by
  show ∃ m, updI (updI T.nodes y (some n1)) x none no = some m; rw [updI_ne cV, updI_eq]; split
  ·exact ⟨_, rfl⟩
  ·exact ⟨_, hn⟩
 have e4 := Evo.set (n := n3) e123.srt vf
 exact e123.trans e4
theorem Evo.share {T : Tr} {no x y : Int} {my mx mn n1 n2 n3 : Nd} (hg : GivS T) (hy : T.nodes y = some my) (hx : T.nodes x = some mx) (hn : T.nodes no = some mn) (nT : y ≠ x) : Evo T ((((((T.mark y).mark x).setN y n1).setN x n2).setN no n3).mark no) 0 := by
 have e1 := Evo.set (n := n1) hg hy
 have e2 := Evo.set (no := x) (n := n2) (m := mx) e1.srt (by show updI T.nodes y (some n1) x = _; rw [updI_ne (Ne.symm nT)]; exact hx)
 have e12 := e1.trans e2
 obtain ⟨mn', vf⟩ : ∃ m, ((((T.setN y n1).mark y).setN x n2).mark x).nodes no = some m := by
  show ∃ m, updI (updI T.nodes y (some n1)) x (some n2) no = some m; rw [updI_eq]; split
  ·exact ⟨_, rfl⟩
  ·rw [updI_eq]; split
   ·exact ⟨_, rfl⟩
   ·exact ⟨_, hn⟩
 exact e12.trans (Evo.set (n := n3) e12.srt vf)
section
variable {w : World}
theorem entB_len {z : Nat} {es : Es} (h : EsOk z es) : es.length ≤ entB es := by
 have h' := h.one
 clear h
 induction es with
 | nil => simp
 | cons x r ih =>
   rw [entB_cons, List.length_cons]; have := ih (fun y hy => h' y (List.mem_cons_of_mem _ hy)); omega
theorem size_ok {p : Nat} {T : Tr} {nb : Int → Nat} {F : Nat → Prop} (h : TreeA w p T nb F) : sizeOk (T.size : Int) := by
 obtain ⟨mN, mC, mO, gv, kn, kc, ko, O⟩ := h.opn
 exact O.z
theorem split_at {α : Type} {l : List α} {i : Nat} {x : α} (h : l[i]? = some x) : ∃ p r, l = p ++ x :: r ∧ p.length = i := by
 have hi : i < l.length := by
  rcases Nat.lt_or_ge i l.length with h' | h'
  ·exact h'
  ·rw [List.getElem?_eq_none h'] at h; cases h
 refine ⟨l.take i, l.drop (i + 1), ?_, by rw [List.length_take]; omega⟩
 rw [List.getElem?_eq_getElem hi] at h
 rw [← oinj h, ← List.drop_eq_getElem_cons hi, List.take_append_drop]
theorem take_mid {α : Type} {p r : List α} {x : α} {i : Nat} (h : p.length = i) : (p ++ x :: r).take i = p := by subst h; simp
theorem drop_mid {α : Type} {p r : List α} {x : α} {i : Nat} (h : p.length = i) : (p ++ x :: r).drop (i + 1) = r := by subst h; simp
theorem set_mid {α : Type} {p r : List α} {x y : α} {i : Nat} (h : p.length = i) : (p ++ x :: r).set i y = p ++ y :: r := by subst h; simp
theorem full_leaf {z x : Nat} {N : Nodes} {E : Es} (hf : Full z N x) (hz : sizeOk (z : Int)) (hn : N (x : Int) = some (leafNd E)) : 1 ≤ E.length := by
 have := hf _ hn
 rw [leafNd_low] at this
 cases E with
 | nil => simp [sizeOk] at this hz; omega
 | cons => simp
theorem full_inn {z x c : Nat} {N : Nodes} {ps : List (Bytes × Nat)} (hf : Full z N x) (hz : sizeOk (z : Int)) (hn : N (x : Int) = some (innNd c ps)) : 3 ≤ ps.length := by
 have := hf _ hn
 rw [innNd_low] at this
 have ho : 8 ≤ orderE z := by have := hz.1; unfold orderE; omega
 omega
set_option maxHeartbeats 2000000 in
theorem even_all {p : Nat} {T : Tr} {nb : Int → Nat} {F : Nat → Prop} (h : TreeA w p T nb F) {no : Int} {H c a k : Nat} {ps : List (Bytes × Nat)} {lo : Bytes} {hi : Option Bytes} {ns : List Int} {es : Es} (M : Mid T.size H T.nodes no lo hi c ps ns es a) (r7 : ps ≠ []) (hk : k ≤ ps.length) (BF : (c :: ps.map (·.2))[k]? = some a) (m8 : ∀ n, T.nodes (a : Int) = some n → n.keys ≠ []) (hg : GivS T) (de : T.given.length ≤ 4294967296) :
  Ret Tryz.prog 47 [ptr p 0, I no, I (k : Int)] w fun v w' => v = .tuple #[] ∧ ∃ T' F' ns', TreeA w' p T' nb F' ∧ Bn T.size T'.nodes (H + 2) no lo hi ns' es ∧ Ev T.nodes T'.nodes (no :: ns) ns' ∧ Evo T T' 0 ∧ T'.count = T.count ∧ (∃ ps', T'.nodes no = some (innNd c ps') ∧ ps.length ≤ ps'.length + 1) ∧ Kp F w w' ∧ ∀ k, F' k → F k ∨ w.heap.size ≤ k := by
 have hz : sizeOk (T.size : Int) := size_ok h
 have gT := hz
 obtain ⟨z1, z2, -⟩ := gT
 have dv : 0 < ps.length := List.length_pos_iff.2 r7
 obtain ⟨⟨s, x⟩, vg⟩ : ∃ q, ps[k - 1]? = some q := ⟨_, List.getElem?_eq_getElem (by omega)⟩
 obtain ⟨pp, rr, rfl, t6⟩ := split_at vg
 obtain ⟨y, lo', ab, n1, na, nbb, n2, e1, ea, eb, e2, j9, ib, rY, nT, ba, bb, p6, -, yJ, rZ, -⟩ := M.pair hz
 have iA : a = y ∨ a = x := by
  rcases Nat.eq_zero_or_pos k with e | e
  ·subst e; rw [t6] at rY; rw [BF] at rY; exact .inl (oinj rY)
  ·have h1 : (c :: (pp ++ (s, x) :: rr).map (·.2))[k]? = some x := by
    obtain ⟨j, rfl⟩ : ∃ j, k = j + 1 := ⟨k - 1, by omega⟩; rw [List.getElem?_cons_succ, List.getElem?_map]; rw [Nat.add_sub_cancel] at vg; rw [vg]; rfl
   rw [BF] at h1; exact .inr (oinj h1)
 obtain ⟨nz, mT⟩ : ∃ n, T.nodes (a : Int) = some n := by
  have : T.nodes (a : Int) ≠ none := by
   rcases iA with rfl | rfl
   ·exact Bn.some ba _ ba.mem
   ·exact Bn.some bb _ bb.mem
  exact Option.ne_none_iff_exists'.1 this
 have yK : (c :: (pp ++ (s, x) :: rr).map (·.2))[k - 1]? = some y := by rw [← t6]; exact rY
 have mU : (y : Int) ≠ (x : Int) := fun e => nT (by omega)
 have aR : ∀ d, (d = y ∨ d = x) → d ≠ a → Full T.size T.nodes d := fun d hd uk => by
  refine M.full d ?_ uk; rcases hd with rfl | rfl
  ·exact List.mem_of_getElem? rY
  ·simp
 cases H with
 | zero =>
   obtain ⟨fX, rfl, CY, CZ, -⟩ := ba.leaf (by omega); obtain ⟨cV, rfl, D0, qU, -⟩ := bb.leaf (by omega)
   have jy : 1 ≤ ea.length := by
    by_cases e : y = a
    ·subst e; have := m8 _ fX; exact List.length_pos_iff.2 (fun e => this (by rw [e]; rfl))
    ·exact full_leaf (aR y (.inl rfl) e) hz fX
   have jX : 1 ≤ eb.length := by
    by_cases e : x = a
    ·subst e; have := m8 _ cV; exact List.length_pos_iff.2 (fun e => this (by rw [e]; rfl))
    ·exact full_leaf (aR x (.inr rfl) e) hz cV
   refine Ret.mono (even_ret h (nz := nz) (ny := leafNd ea) (nx := leafNd eb) M.at_ hk BF mT vg yK fX cV (X := fun T1 => ∃ ns', Bn T.size T1.nodes 2 no lo hi ns' es ∧ Ev T.nodes T1.nodes (no :: ns) ns' ∧ Evo T (T1.mark no) 0 ∧ T1.count = T.count ∧ ∃ ps', T1.nodes no = some (innNd c ps') ∧ (pp ++ (s, x) :: rr).length ≤ ps'.length + 1) (fun bV w1 h1 => ?_)) (fun v w' ⟨hv, hr⟩ => ⟨hv, ?_⟩)
   ·have t7 : (leafNd ea).low T.size ∨ (leafNd eb).low T.size := by
     rcases iA with rfl | rfl
     ·rw [fX] at mT; cases mT; exact .inl bV
     ·rw [cV] at mT; cases mT; exact .inr bV
    have Gd := join_es CY D0 ba.keys.1 bb.keys.1; have FU := entB_len Gd; have er := entB_app ea eb; rw [if_pos (show (leafNd ea).leaf = true from rfl)]; refine Ret.mono (leaves_ret h1 (E := ea ++ eb) rfl M.at_ vg fX cV (Ne.symm rZ) (Ne.symm yJ) mU de (by omega) jy jX (by show T.size ≤ _; omega) (fun hb => ?_)) (fun v w' hv => ?_)
    ·obtain ⟨c1, c2, -⟩ := cut_ok hz Gd hb (by
      rw [leafNd_low, leafNd_low] at t7; unfold mostE
      omega)
     exact ⟨c1, c2⟩
    ·obtain ⟨rfl, T', F', oK, br, iC, p7⟩ := hv; refine ⟨rfl, T', F', oK, ?_, br, iC⟩; rcases p7 with ⟨hb, rfl⟩ | ⟨hb, up', eF, rfl⟩
     ·rw [take_mid t6, drop_mid t6]; obtain ⟨ns2, b1, b2⟩ := fill_leaf1 M hz rY iA fX cV hb; exact ⟨_, b1, b2, Evo.join hg fX cV M.at_ mU (Ne.symm rZ), rfl, pp ++ rr, updI_same _ _ _, by simp; omega⟩
     ·rw [set_mid t6]; obtain ⟨up2, jY, ns2, b1, b2⟩ := fill_leaf2 M hz rY iA fX cV hb t7; rw [eF] at jY; cases jY; exact ⟨_, b1, b2, Evo.share hg fX cV M.at_ mU, rfl, _, updI_same _ _ _, by simp⟩
   ·rcases hr with ⟨bV, hx⟩ | ⟨bV, T', F', oK, ⟨ns', b1, b2, b3, b4, b5⟩, br, iC⟩
    ·refine ⟨T, F, no :: ns, h.ext hx, M.done hz (fun m hm => by rw [mT] at hm; cases hm; exact bV), Ev.refl M.nd, Evo.refl hg, rfl, ⟨_, M.at_, by omega⟩, hx.kp, fun k hk => .inl hk⟩
    ·exact ⟨_, F', ns', oK, b1, b2, b3, b4, b5, br, iC⟩
 | succ H =>
   obtain ⟨ca, pa, nsa, fX, rfl, I2, Ge, I3, -, D1, -⟩ := Bn.inner (by omega) ba; obtain ⟨cb, pb, nsb, cV, rfl, I4, Gf, I5, -, D2, -⟩ := Bn.inner (by omega) bb
   have jy : 1 ≤ pa.length := by
    by_cases e : y = a
    ·subst e; have := m8 _ fX; exact List.length_pos_iff.2 (fun e => this (by rw [e]; rfl))
    ·have := full_inn (aR y (.inl rfl) e) hz fX; omega
   have jX : 1 ≤ pb.length := by
    by_cases e : x = a
    ·subst e; have := m8 _ cV; exact List.length_pos_iff.2 (fun e => this (by rw [e]; rfl))
    ·have := full_inn (aR x (.inr rfl) e) hz cV; omega
   have BG : orderE T.size ≤ 1000 ∧ 8 ≤ orderE T.size := by unfold orderE; omega
   refine Ret.mono (even_ret h (nz := nz) (ny := innNd ca pa) (nx := innNd cb pb) M.at_ hk BF mT vg yK fX cV (X := fun T1 => ∃ ns', Bn T.size T1.nodes (H + 3) no lo hi ns' es ∧ Ev T.nodes T1.nodes (no :: ns) ns' ∧ Evo T (T1.mark no) 0 ∧ T1.count = T.count ∧ ∃ ps', T1.nodes no = some (innNd c ps') ∧ (pp ++ (s, x) :: rr).length ≤ ps'.length + 1) (fun bV w1 h1 => ?_)) (fun v w' ⟨hv, hr⟩ => ⟨hv, ?_⟩)
   ·rw [if_neg (by simp [innNd])]; refine Ret.mono (inner_ret h1 (P := pa ++ (s, cb) :: pb) rfl M.at_ vg fX cV (Ne.symm rZ) (Ne.symm yJ) mU de (by simp; omega) jy jX BG.2) (fun v w' hv => ?_); obtain ⟨rfl, T', F', oK, br, iC, p7⟩ := hv; refine ⟨rfl, T', F', oK, ?_, br, iC⟩; rcases p7 with ⟨hb, rfl⟩ | ⟨hb, up', c2, eF, rfl⟩
    ·rw [take_mid t6, drop_mid t6]; obtain ⟨ns2, b1, b2⟩ := fill_inn1 M hz rY iA fX cV hb; exact ⟨_, b1, b2, Evo.join hg fX cV M.at_ mU (Ne.symm rZ), rfl, pp ++ rr, updI_same _ _ _, by simp; omega⟩
    ·rw [set_mid t6]; obtain ⟨up2, c2', jY, ns2, b1, b2⟩ := fill_inn2 M hz rY iA fX cV hb; rw [eF] at jY; cases jY; rw [show ((pa ++ (s, cb) :: pb).length + 1) / 2 - 1 + 1 = ((pa ++ (s, cb) :: pb).length + 1) / 2 by have : 2 ≤ (pa ++ (s, cb) :: pb).length + 1 := (by simp; omega); omega]; exact ⟨_, b1, b2, Evo.share hg fX cV M.at_ mU, rfl, _, updI_same _ _ _, by simp⟩
   ·rcases hr with ⟨bV, hx⟩ | ⟨bV, T', F', oK, ⟨ns', b1, b2, b3, b4, b5⟩, br, iC⟩
    ·refine ⟨T, F, no :: ns, h.ext hx, M.done hz (fun m hm => by rw [mT] at hm; cases hm; exact bV), Ev.refl M.nd, Evo.refl hg, rfl, ⟨_, M.at_, by omega⟩, hx.kp, fun k hk => .inl hk⟩
    ·exact ⟨_, F', ns', oK, b1, b2, b3, b4, b5, br, iC⟩
end
def beN (n : Nat) : Nat → Bytes
 | 0 => []
 | k + 1 => UInt8.ofNat (n / 256 ^ k) :: beN n k
@[simp] theorem beN_length (n : Nat) : ∀ k, (beN n k).length = k
 | 0 => rfl
 | k + 1 => by simp [beN, beN_length n k]
def valB (l : Bytes) : Nat := l.foldl (fun a b => 256 * a + b.toNat) 0
theorem valB_acc (n : Nat) : ∀ k a, (beN n k).foldl (fun a b => 256 * a + b.toNat) a = a * 256 ^ k + n % 256 ^ k
 | 0, a => by simp [beN, Nat.mod_one]
 | k + 1, a => by
   show (beN n k).foldl (fun a b => 256 * a + b.toNat) (256 * a + (UInt8.ofNat (n / 256 ^ k)).toNat) = _; rw [valB_acc n k]; have h : (UInt8.ofNat (n / 256 ^ k)).toNat = n / 256 ^ k % 256 := by simp
   rw [h, Nat.pow_succ, Nat.mod_mul, Nat.add_mul]; have e1 : 256 * a * 256 ^ k = a * (256 ^ k * 256) := by rw [Nat.mul_comm 256 a, Nat.mul_assoc, Nat.mul_comm 256]
   have e2 : n / 256 ^ k % 256 * 256 ^ k = 256 ^ k * (n / 256 ^ k % 256) := Nat.mul_comm _ _; omega
theorem valB_beN {n k : Nat} (h : n < 256 ^ k) : valB (beN n k) = n := by
 unfold valB; rw [valB_acc, Nat.mod_eq_of_lt h]; omega
theorem valB_snoc (l : Bytes) (b : UInt8) : valB (l ++ [b]) = 256 * valB l + b.toNat := by simp [valB, List.foldl_append]
theorem valB_acc_lt : ∀ (l : Bytes) (a : Nat), l.foldl (fun a b => 256 * a + b.toNat) a < (a + 1) * 256 ^ l.length
 | [], a => by simp
 | b :: r, a => by
   have h1 := valB_acc_lt r (256 * a + b.toNat); have hb : b.toNat < 256 := b.toNat_lt; have h2 : (256 * a + b.toNat + 1) * 256 ^ r.length ≤ (256 * (a + 1)) * 256 ^ r.length := Nat.mul_le_mul_right _ (by omega)
   have h3 : (256 * (a + 1)) * 256 ^ r.length = (a + 1) * 256 ^ (b :: r).length := by
    rw [List.length_cons, Nat.pow_succ, Nat.mul_comm 256 (a + 1), Nat.mul_assoc, Nat.mul_comm 256]
   show r.foldl (fun a b => 256 * a + b.toNat) (256 * a + b.toNat) < _; omega
theorem valB_lt (l : Bytes) : valB l < 256 ^ l.length := by have := valB_acc_lt l 0; simpa [valB] using this
def entL (x : Bytes × Bytes) : Bytes := beN x.1.length 1 ++ (beN x.2.length 2 ++ (x.1 ++ x.2))
def entI (x : Bytes × Nat) : Bytes := beN x.1.length 1 ++ (x.1 ++ beN x.2 4)
def bodyL (es : Es) : Bytes := es.flatMap entL
def bodyI (ps : List (Bytes × Nat)) : Bytes := ps.flatMap entI
def rawN (n : Nd) : Bytes := if n.leaf then 1 :: (beN n.keys.length 2 ++ bodyL (n.keys.zip n.vals)) else 2 :: (beN n.keys.length 2 ++ (beN (n.kids.headD 0) 4 ++ bodyI (n.keys.zip n.kids.tail)))
def enc (z : Nat) (n : Nd) : Bytes := rawN n ++ List.replicate (z - (rawN n).length) 0
theorem zip_ps : ∀ ps : List (Bytes × Nat), (ps.map (·.1)).zip (ps.map (·.2)) = ps
 | [] => rfl
 | x :: r => by simp [zip_ps r]
theorem rawN_leaf (es : Es) : rawN (leafNd es) = 1 :: (beN es.length 2 ++ bodyL es) := by
 simp only [rawN, leafNd, if_true, zip_es, List.length_map]
theorem rawN_inn (c : Nat) (ps : List (Bytes × Nat)) : rawN (innNd c ps) = 2 :: (beN ps.length 2 ++ (beN c 4 ++ bodyI ps)) := by
 simp [rawN, innNd, zip_ps]
theorem bodyL_length : ∀ es : Es, (bodyL es).length = entB es
 | [] => rfl
 | x :: r => by
   have := bodyL_length r; simp [bodyL, entB, entL] at this ⊢; omega
theorem bodyI_length : ∀ ps : List (Bytes × Nat), (bodyI ps).length = sumL (ps.map (·.1)) 1 + 4 * ps.length
 | [] => rfl
 | x :: r => by
   have := bodyI_length r; simp [bodyI, entI, sumL_cons] at this ⊢; omega
theorem nd_cases {z : Nat} {n : Nd} (h : NdOk z n) : (∃ es, n = leafNd es) ∨ ∃ c ps, n = innNd c ps := by
 cases hl : n.leaf with
 | true =>
   have := h.2.2; rw [if_pos hl] at this
   exact .inl ⟨_, leaf_eq hl this.2.1 this.1⟩
 | false =>
   have := h.2.2; rw [if_neg (by rw [hl]; decide)] at this; obtain ⟨h1, h2, -, -⟩ := this
   cases hk : n.kids with
   | nil => rw [hk] at h2; simp at h2
   | cons c r =>
     rw [hk] at h2; refine .inr ⟨c, n.keys.zip r, inn_eq hl h1 ?_ ?_⟩
     ·rw [List.map_fst_zip]; simp at h2; omega
     ·rw [List.map_snd_zip, hk]; simp at h2; omega
theorem rawN_length {z : Nat} {n : Nd} (h : NdOk z n) : (rawN n).length = n.bytes := by
 rcases nd_cases h with ⟨es, rfl⟩ | ⟨c, ps, rfl⟩
 ·rw [rawN_leaf, leafNd_bytes]; simp [bodyL_length]; omega
 ·rw [rawN_inn]; simp [bodyI_length, Nd.bytes, innNd]; omega
theorem enc_length {z : Nat} {n : Nd} (h : NdOk z n) : (enc z n).length = z := by
 have h1 := rawN_length h
 have h2 := h.2.1
 unfold enc
 rw [List.length_append, List.length_replicate]; omega
def remL (z : Nat) (es : Es) (i : Nat) : Bytes := bodyL (es.drop i) ++ List.replicate (z - (3 + entB es)) 0
def remI (z c : Nat) (ps : List (Bytes × Nat)) (i : Nat) : Bytes := bodyI (ps.drop i) ++ List.replicate (z - (innNd c ps).bytes) 0
theorem remL_step {z : Nat} {es : Es} {i : Nat} {x : Bytes × Bytes} (h : es[i]? = some x) : remL z es i = beN x.1.length 1 ++ (beN x.2.length 2 ++ (x.1 ++ (x.2 ++ remL z es (i + 1)))) := by
 obtain ⟨hi, e⟩ := List.getElem?_eq_some_iff.1 h
 unfold remL
 rw [List.drop_eq_getElem_cons hi, e]
 simp [bodyL, entL]
theorem remI_step {z c : Nat} {ps : List (Bytes × Nat)} {i : Nat} {x : Bytes × Nat} (h : ps[i]? = some x) : remI z c ps i = beN x.1.length 1 ++ (x.1 ++ (beN x.2 4 ++ remI z c ps (i + 1))) := by
 obtain ⟨hi, e⟩ := List.getElem?_eq_some_iff.1 h
 unfold remI
 rw [List.drop_eq_getElem_cons hi, e]
 simp [bodyI, entI]
theorem enc_leaf (z : Nat) (es : Es) : enc z (leafNd es) = 1 :: (beN es.length 2 ++ remL z es 0) := by
 unfold enc remL
 rw [rawN_leaf]
 have : (1 :: (beN es.length 2 ++ bodyL es)).length = 3 + entB es := by simp [bodyL_length]; omega
 rw [this]; simp
theorem enc_inn {z : Nat} {c : Nat} {ps : List (Bytes × Nat)} (h : NdOk z (innNd c ps)) : enc z (innNd c ps) = 2 :: (beN ps.length 2 ++ (beN c 4 ++ remI z c ps 0)) := by
 unfold enc remI
 rw [rawN_length h, rawN_inn]
 simp
theorem beN_inj {a b k : Nat} (ha : a < 256 ^ k) (hb : b < 256 ^ k) (h : beN a k = beN b k) : a = b := by
 rw [← valB_beN ha, ← valB_beN hb, h]
theorem beN_append {a b k : Nat} {s t : Bytes} (h : beN a k ++ s = beN b k ++ t) : beN a k = beN b k ∧ s = t := List.append_inj h (by simp)
theorem bodyL_inj : ∀ {e f : Es} {s t : Bytes}, e.length = f.length → (∀ x ∈ e, x.1.length < 256 ∧ x.2.length < 65536) → (∀ x ∈ f, x.1.length < 256 ∧ x.2.length < 65536) → bodyL e ++ s = bodyL f ++ t → e = f
 | [], [], _, _, _, _, _, _ => rfl
 | (a, b) :: r, (c, d) :: q, s, t, hl, h1, h2, h => by
   have g1 := h1 _ (List.mem_cons_self ..); have g2 := h2 _ (List.mem_cons_self ..); have h' : beN a.length 1 ++ (beN b.length 2 ++ (a ++ (b ++ (bodyL r ++ s)))) = beN c.length 1 ++ (beN d.length 2 ++ (c ++ (d ++ (bodyL q ++ t)))) := by simpa [bodyL, entL] using h
   obtain ⟨e1, k1⟩ := beN_append h'; obtain ⟨e2, k2⟩ := beN_append k1; have l1 := beN_inj g1.1 g2.1 e1; have l2 := beN_inj g1.2 g2.2 e2; obtain ⟨a1, k3⟩ := List.append_inj k2 l1; obtain ⟨a2, k4⟩ := List.append_inj k3 l2; rw [a1, a2, bodyL_inj (by simpa using hl) (fun x hx => h1 x (List.mem_cons_of_mem _ hx)) (fun x hx => h2 x (List.mem_cons_of_mem _ hx)) k4]
theorem bodyI_inj : ∀ {e f : List (Bytes × Nat)} {s t : Bytes}, e.length = f.length → (∀ x ∈ e, x.1.length < 256 ∧ x.2 < 4294967296) → (∀ x ∈ f, x.1.length < 256 ∧ x.2 < 4294967296) → bodyI e ++ s = bodyI f ++ t → e = f
 | [], [], _, _, _, _, _, _ => rfl
 | (a, b) :: r, (c, d) :: q, s, t, hl, h1, h2, h => by
   have g1 := h1 _ (List.mem_cons_self ..); have g2 := h2 _ (List.mem_cons_self ..); have h' : beN a.length 1 ++ (a ++ (beN b 4 ++ (bodyI r ++ s))) = beN c.length 1 ++ (c ++ (beN d 4 ++ (bodyI q ++ t))) := by simpa [bodyI, entI] using h
   obtain ⟨e1, k1⟩ := beN_append h'; have l1 := beN_inj g1.1 g2.1 e1; obtain ⟨a1, k3⟩ := List.append_inj k1 l1; obtain ⟨e2, k4⟩ := beN_append k3; have l2 := beN_inj g1.2 g2.2 e2; rw [a1, l2, bodyI_inj (by simpa using hl) (fun x hx => h1 x (List.mem_cons_of_mem _ hx)) (fun x hx => h2 x (List.mem_cons_of_mem _ hx)) k4]
structure NdZ (z : Nat) (n : Nd) : Prop where
 ok : NdOk z n
 cs : ∀ c ∈ n.kids, c < 4294967296
theorem ndz_leaf {z : Nat} (hz : sizeOk (z : Int)) {es : Es} (h : NdZ z (leafNd es)) : es.length < 65536 ∧ ∀ x ∈ es, (1 ≤ x.1.length ∧ x.1.length ≤ 64) ∧ x.2.length < 4096 := by
 obtain ⟨z1, z2, -⟩ := hz
 obtain ⟨h1, h2⟩ := (leafNd_ok (by omega)).1 h.ok
 have := entB_len h1
 have hm : mostE z ≤ 1024 := by unfold mostE; omega
 refine ⟨by omega, fun x hx => ?_⟩
 have := h1.one x hx
 omega
theorem ndz_inn {z : Nat} (hz : sizeOk (z : Int)) {c : Nat} {ps : List (Bytes × Nat)} (h : NdZ z (innNd c ps)) : ps.length < 65536 ∧ c < 4294967296 ∧ ∀ x ∈ ps, (1 ≤ x.1.length ∧ x.1.length ≤ 64) ∧ x.2 < 4294967296 := by
 obtain ⟨z1, z2, -⟩ := hz
 obtain ⟨h1, h2, -⟩ := (innNd_ok (by omega)).1 h.ok
 have ho : orderE z ≤ 1000 := by unfold orderE; omega
 refine ⟨by omega, h.cs c (by simp [innNd]), fun x hx => ⟨h1.1 _ (List.mem_map.2 ⟨x, hx, rfl⟩), h.cs _ ?_⟩⟩
 simp only [innNd, List.mem_cons]
 exact .inr (List.mem_map.2 ⟨x, hx, rfl⟩)
theorem enc_inj {z : Nat} (hz : sizeOk (z : Int)) {n m : Nd} (hn : NdZ z n) (hm : NdZ z m) (h : enc z n = enc z m) : n = m := by
 rcases nd_cases hn.ok with ⟨e, rfl⟩ | ⟨c, e, rfl⟩ <;> rcases nd_cases hm.ok with ⟨f, rfl⟩ | ⟨d, f, rfl⟩
 ·rw [enc_leaf, enc_leaf] at h; obtain ⟨-, h⟩ := List.cons.inj h; obtain ⟨h1, h⟩ := beN_append h; obtain ⟨b1, b2⟩ := ndz_leaf hz hn; obtain ⟨b3, b4⟩ := ndz_leaf hz hm; have hl := beN_inj b1 b3 h1; unfold remL at h; rw [bodyL_inj hl (fun x hx => by have := b2 x hx; omega) (fun x hx => by have := b4 x hx; omega) h]
 ·rw [enc_leaf, enc_inn hm.ok] at h; simp at h
 ·rw [enc_leaf, enc_inn hn.ok] at h; simp at h
 ·rw [enc_inn hn.ok, enc_inn hm.ok] at h; obtain ⟨-, h⟩ := List.cons.inj h; obtain ⟨h1, h⟩ := beN_append h; obtain ⟨h2, h⟩ := beN_append h; obtain ⟨b1, c1, b2⟩ := ndz_inn hz hn; obtain ⟨b3, c3, b4⟩ := ndz_inn hz hm; have hl := beN_inj b1 b3 h1; have hc := beN_inj c1 c3 h2; subst hc; unfold remI at h; rw [bodyI_inj hl (fun x hx => by have := b2 x hx; omega) (fun x hx => by have := b4 x hx; omega) h]
end Go.Proofs.YtocnhaoilnojmaaGreat
namespace Go.Proofs.YtocnhaoilnojmaaGreat
set_option linter.all false
open Classical in
noncomputable def dec (s : Bytes) : Option Nd := if h : sizeOk (s.length : Int) ∧ ∃ n, NdZ s.length n ∧ enc s.length n = s then some h.2.choose else none
theorem dec_some {s : Bytes} {n : Nd} : dec s = some n ↔ sizeOk (s.length : Int) ∧ NdZ s.length n ∧ enc s.length n = s := by
 unfold dec
 constructor
 ·intro h; split at h
  ·rename_i hh
   have := hh.2.choose_spec; rw [oinj h] at this; exact ⟨hh.1, this⟩
  ·cases h
 ·rintro ⟨h1, h2, h3⟩; have hh : sizeOk (s.length : Int) ∧ ∃ n, NdZ s.length n ∧ enc s.length n = s := ⟨h1, n, h2, h3⟩; rw [dif_pos hh]; have := hh.2.choose_spec; rw [enc_inj h1 this.1 h2 (by rw [this.2, h3])]
theorem dec_enc {z : Nat} {n : Nd} (hz : sizeOk (z : Int)) (h : NdZ z n) : dec (enc z n) = some n := by
 have hl := enc_length h.ok
 exact dec_some.2 (by rw [hl]; exact ⟨hz, h, rfl⟩)
theorem dec_none {s : Bytes} : dec s = none ↔ ∀ n, sizeOk (s.length : Int) → NdZ s.length n → enc s.length n ≠ s := by
 constructor
 ·intro h n h1 h2 h3; rw [dec_some.2 ⟨h1, h2, h3⟩] at h; cases h
 ·intro h
  cases e : dec s with
  | none => rfl
  | some n =>
    obtain ⟨h1, h2, h3⟩ := dec_some.1 e; exact absurd h3 (h n h1 h2)
theorem beN_get (n : Nat) : ∀ {k i : Nat}, i < k → (beN n k)[i]? = some (UInt8.ofNat (n / 256 ^ (k - 1 - i)))
 | k + 1, 0, _ => by simp [beN]
 | k + 1, i + 1, h => by
   show (beN n k)[i]? = _; rw [beN_get n (show i < k by omega), show k + 1 - 1 - (i + 1) = k - 1 - i by omega]
theorem NdZ.bd {z : Nat} (hz : sizeOk (z : Int)) {n : Nd} (h : NdZ z n) : n.Bd := by
 rcases nd_cases h.ok with ⟨es, rfl⟩ | ⟨c, ps, rfl⟩
 ·obtain ⟨h1, h2⟩ := ndz_leaf hz h; refine ⟨by simp [leafNd]; omega, by simp [leafNd]; omega, by simp [leafNd], fun k hk => ?_, fun v hv => ?_, h.cs⟩
  ·obtain ⟨x, hx, rfl⟩ := List.mem_map.1 hk; have := h2 x hx; omega
  ·obtain ⟨x, hx, rfl⟩ := List.mem_map.1 hv; have := h2 x hx; omega
 ·obtain ⟨h1, h2, h3⟩ := ndz_inn hz h; refine ⟨by simp [innNd]; omega, by simp [innNd], by simp [innNd]; omega, fun k hk => ?_, fun v hv => by simp [innNd] at hv, h.cs⟩; obtain ⟨x, hx, rfl⟩ := List.mem_map.1 hk; have := h3 x hx; omega
def tx (n : Nat) (r : Bytes) (bad : Bool) : Bytes × Bytes × Bool := if bad || decide (r.length < n) then ([], r, true) else (r.take n, r.drop n, false)
theorem tx_bad {n : Nat} {r : Bytes} {bad : Bool} (h : bad = true ∨ r.length < n) : tx n r bad = ([], r, true) := by
 unfold tx; rw [if_pos (by simpa using h)]
theorem tx_ok {n : Nat} {r : Bytes} (h : n ≤ r.length) : tx n r false = (r.take n, r.drop n, false) := by
 unfold tx; rw [if_neg (by simp; omega)]
theorem tx_app {n : Nat} {a r : Bytes} (h : a.length = n) : tx n (a ++ r) false = (a, r, false) := by
 rw [tx_ok (by rw [List.length_append]; omega), List.take_left' h, List.drop_left' h]
theorem tx_le {n : Nat} {r t r' : Bytes} {bad bad' : Bool} (e : tx n r bad = (t, r', bad')) : t.length ≤ n ∧ t.length ≤ r.length ∧ r'.length ≤ r.length := by
 unfold tx at e
 split at e
 ·cases e; simp
 ·cases e; simp; omega
theorem tx_ex (n : Nat) (r : Bytes) (bad : Bool) : ∃ t r' bad', tx n r bad = (t, r', bad') := ⟨_, _, _, rfl⟩
def Lg (z : Nat) (s : Bytes) (lf : Bool) (ks vs : List Bytes) (cs : List Nat) (c : Nat) (r : Bytes) (bad : Bool) : Prop :=
 (∀ es, NdZ z (leafNd es) → enc z (leafNd es) = s → lf = true ∧ bad = false ∧ ∃ i, i + c = es.length ∧ ks = (es.take i).map (·.1) ∧ vs = (es.take i).map (·.2) ∧ cs = [] ∧ r = remL z es i) ∧
 (∀ c0 ps, NdZ z (innNd c0 ps) → enc z (innNd c0 ps) = s → lf = false ∧ bad = false ∧ ∃ i, i + c = ps.length ∧ ks = (ps.take i).map (·.1) ∧ vs = [] ∧ cs = c0 :: (ps.take i).map (·.2) ∧ r = remI z c0 ps i)
theorem map_take_succ {α β : Type} {l : List α} {f : α → β} {i : Nat} {x : α} (h : l[i]? = some x) : (l.take (i + 1)).map f = (l.take i).map f ++ [f x] := by
 obtain ⟨hi, e⟩ := List.getElem?_eq_some_iff.1 h
 rw [List.take_succ_eq_append_getElem hi, e, List.map_append]; rfl
variable {z : Nat} {s : Bytes} {lf bad b1 b2 b3 b4 : Bool} {ks vs : List Bytes} {cs : List Nat} {c : Nat} {r t1 t2 t3 t4 r1 r2 r3 r4 : Bytes}
theorem lg_leaf (hz : sizeOk (z : Int)) (h : Lg z s true ks vs cs (c + 1) r bad) (e1 : tx 1 r bad = (t1, r1, b1)) (e2 : tx 2 r1 b1 = (t2, r2, b2)) (e3 : tx (valB t1) r2 b2 = (t3, r3, b3)) (e4 : tx (valB t2) r3 b3 = (t4, r4, b4)) : Lg z s true (ks ++ [t3]) (vs ++ [t4]) cs c r4 b4 := by
 refine ⟨fun es hn he => ?_, fun c0 ps hn he => ?_⟩
 ·obtain ⟨-, rfl, i, hi, rfl, rfl, rfl, rfl⟩ := h.1 es hn he; obtain ⟨-, n2⟩ := ndz_leaf hz hn; have cE : i < es.length := by omega
  have hx := List.getElem?_eq_getElem cE; have hb := n2 _ (List.mem_of_getElem? hx); rw [remL_step hx] at e1; rw [tx_app (by simp)] at e1; cases e1; rw [tx_app (by simp)] at e2; cases e2; rw [valB_beN (by omega), tx_app rfl] at e3; cases e3; rw [valB_beN (by omega), tx_app rfl] at e4; cases e4; exact ⟨rfl, rfl, i + 1, by omega, by rw [map_take_succ hx], by rw [map_take_succ hx], rfl, rfl⟩
 ·cases (h.2 c0 ps hn he).1
theorem lg_inn (hz : sizeOk (z : Int)) (h : Lg z s false ks vs cs (c + 1) r bad) (e1 : tx 1 r bad = (t1, r1, b1)) (e2 : tx (valB t1) r1 b1 = (t2, r2, b2)) (e3 : tx 4 r2 b2 = (t3, r3, b3)) : Lg z s false (ks ++ [t2]) vs (cs ++ [valB t3]) c r3 b3 := by
 refine ⟨fun es hn he => ?_, fun c0 ps hn he => ?_⟩
 ·cases (h.1 es hn he).1
 ·obtain ⟨-, rfl, i, hi, rfl, rfl, rfl, rfl⟩ := h.2 c0 ps hn he; obtain ⟨-, -, n2⟩ := ndz_inn hz hn; have cE : i < ps.length := by omega
  have hx := List.getElem?_eq_getElem cE; have hb := n2 _ (List.mem_of_getElem? hx); rw [remI_step hx] at e1; rw [tx_app (by simp)] at e1; cases e1; rw [valB_beN (by omega), tx_app rfl] at e2; cases e2; rw [tx_app (by simp)] at e3; cases e3; exact ⟨rfl, rfl, i + 1, by omega, by rw [map_take_succ hx], rfl, by rw [map_take_succ hx, valB_beN (by omega)]; rfl, rfl⟩
theorem lg_init (hz : sizeOk (z : Int)) (e1 : tx 1 s false = (t1, r1, b1)) (e2 : tx 2 r1 b1 = (t2, r2, b2)) (e3 : tx 4 r2 b2 = (t3, r3, b3)) : (valB t1 = 1 → Lg z s true [] [] [] (valB t2) r2 b2) ∧ (valB t1 ≠ 1 → Lg z s false [] [] [valB t3] (valB t2) r3 b3) := by
 have hl : ∀ es, NdZ z (leafNd es) → enc z (leafNd es) = s → t1 = [1] ∧ t2 = beN es.length 2 ∧ r2 = remL z es 0 ∧ b2 = false := fun es hn he => by
  rw [← he, enc_leaf, show (1 :: (beN es.length 2 ++ remL z es 0) : Bytes) = [1] ++ (beN es.length 2 ++ remL z es 0) from rfl, tx_app (by simp)] at e1; cases e1; rw [tx_app (by simp)] at e2; cases e2; exact ⟨rfl, rfl, rfl, rfl⟩
 have hi : ∀ c0 ps, NdZ z (innNd c0 ps) → enc z (innNd c0 ps) = s → t1 = [2] ∧ t2 = beN ps.length 2 ∧ t3 = beN c0 4 ∧ r3 = remI z c0 ps 0 ∧ b3 = false := fun c0 ps hn he => by
  rw [← he, enc_inn hn.ok, show (2 :: (beN ps.length 2 ++ (beN c0 4 ++ remI z c0 ps 0)) : Bytes) = [2] ++ (beN ps.length 2 ++ (beN c0 4 ++ remI z c0 ps 0)) from rfl, tx_app (by simp)] at e1; cases e1; rw [tx_app (by simp)] at e2; cases e2; rw [tx_app (by simp)] at e3; cases e3; exact ⟨rfl, rfl, rfl, rfl, rfl⟩
 refine ⟨fun h => ⟨fun es hn he => ?_, fun c0 ps hn he => ?_⟩, fun h => ⟨fun es hn he => ?_, fun c0 ps hn he => ?_⟩⟩
 ·obtain ⟨rfl, rfl, rfl, rfl⟩ := hl es hn he; have := (ndz_leaf hz hn).1; exact ⟨rfl, rfl, 0, by rw [valB_beN (by omega)]; omega, rfl, rfl, rfl, rfl⟩
 ·obtain ⟨rfl, -⟩ := hi c0 ps hn he; exact absurd h (by decide)
 ·obtain ⟨rfl, -⟩ := hl es hn he; exact absurd rfl h
 ·obtain ⟨rfl, rfl, rfl, rfl, rfl⟩ := hi c0 ps hn he; have h3 := ndz_inn hz hn; exact ⟨rfl, rfl, 0, by rw [valB_beN (by omega)]; omega, rfl, rfl, by rw [valB_beN (by omega)]; rfl, rfl⟩
theorem lg_end (hl : s.length = z) (h : Lg z s lf ks vs cs c r bad) (hc : c = 0 ∨ bad = true) {n : Nd} (hd : dec s = some n) : bad = false ∧ n = ⟨lf, ks, vs, cs⟩ := by
 subst hl
 obtain ⟨h1, h2, h3⟩ := dec_some.1 hd
 rcases nd_cases h2.ok with ⟨es, rfl⟩ | ⟨c0, ps, rfl⟩
 ·obtain ⟨rfl, hb, i, hi, rfl, rfl, rfl, -⟩ := h.1 es h2 h3; have : c = 0 := hc.elim id (fun e => by rw [e] at hb; cases hb); have : i = es.length := by omega
  subst this; rw [List.take_length]; exact ⟨hb, rfl⟩
 ·obtain ⟨rfl, hb, i, hi, rfl, rfl, rfl, -⟩ := h.2 c0 ps h2 h3; have : c = 0 := hc.elim id (fun e => by rw [e] at hb; cases hb); have : i = ps.length := by omega
  subst this; rw [List.take_length]; exact ⟨hb, rfl⟩
end Go.Proofs.YtocnhaoilnojmaaGreat
namespace Go.Proofs.YtocnhaoilnojmaaGreat
open Go Go.RowKit
set_option linter.all false
set_option maxRecDepth 100000
theorem pkeys_ret {l : List Bytes} {lv : Value} {w : World} (hR : Rd w lv 1 l.length (l.map S)) (hl : l.length ≤ 100000) :
  Ret Tryz.prog 132 [lv] w fun v w' => v = .bool (decide (keysOk l)) ∧ w' = w := by
 obtain ⟨a, cap, rfl, -⟩ := hR.shape
 have bP : ∀ {i : Nat} {s : Bytes}, l[i]? = some s → (s = [] ∨ 64 < s.length ∨ (0 < i ∧ ∃ p, l[i - 1]? = some p ∧ lt p s = false)) → ¬ keysOk l := by
  rintro i s hs h ⟨h1, h2⟩; have := h1 s (List.mem_of_getElem? hs); rcases h with rfl | h | ⟨hi, p, hp, af⟩
  ·simp at this
  ·omega
  ·rw [h2.get (by omega) hp hs] at af; cases af
 have bA : ∀ {i : Nat} {s : Bytes}, keysOk (l.take i) → l[i]? = some s → (1 ≤ s.length ∧ s.length ≤ 64) → (i = 0 ∨ ∃ p, l[i - 1]? = some p ∧ lt p s = true) → keysOk (l.take (i + 1)) := by
  rintro i s ⟨h1, h2⟩ hs hl hp; refine ⟨fun k hk => ?_, rise_take_succ h2 hs hp⟩
  have hi : i < l.length := by
   rcases Nat.lt_or_ge i l.length with h' | h'
   ·exact h'
   ·rw [List.getElem?_eq_none h'] at hs; cases hs
  have e : l[i] = s := by rw [List.getElem?_eq_getElem hi] at hs; exact oinj hs
  rw [List.take_succ_eq_append_getElem hi, e] at hk; rcases List.mem_append.1 hk with hk | hk
  ·exact h1 k hk
  ·simp at hk; subst hk; exact hl
 refine ret_of_run (e := [(0, _)]) Tryz.func132 rfl Tryz.ntmps132 rfl rfl (qN rfl (zqa rfl (rEnd (run_seq (qN rfl (zqm rfl (qV (yln U23 rfl) (zqm rfl (rEnd (run_block (zqu (α := Nat) (0) (fun i => [(0, .slice a l.length cap), (5, .slice a l.length cap), (6, I (l.length : Int)), (7, I (i : Int))]) (fun i w' => w' = w ∧ i ≤ l.length ∧ keysOk (l.take i)) (fun i => l.length - i) ?hI ?hround)))))))))))
 case hI => exact ⟨rfl, Nat.zero_le _, by simp [keysOk, Rise]⟩
 case hround =>
  rintro i wi ⟨rfl, hi, dR⟩ ih
  try dsimp only
  refine qN rfl (qV (ylt rfl rfl) (rEnd (run_seq (run_if rfl (fun af => ?_) (fun af => ?_)))))
  ·have ab : i < l.length := by omega
   obtain ⟨lb, lo, s, rfl, bG⟩ := rd_gets hR ab; refine run_skip (run_seq (run_block (qN rfl (zqm rfl (qV (yis U23 ti9 rfl rfl (by omega)) (qV (yldc U9 rfl rfl (rd_str hR ab bG)) (zqa rfl (zqa rfl (qM rfl (zqm rfl (qV (yeqS rfl rfl) (rVal_if (fun h1 => ?_) (fun h1 => ?_)))))))))))))
   ·refine zqm rfl (qS (qS (qS (qV (ypT rfl rfl) (zqm rfl (qS (qS (qS (qS (qS (qS (qS (qS ?_))))))))))))); refine qS (qS (qS (qV (ypT rfl rfl) (rEnd (run_true rfl (qN rfl (zqa rfl (rEnd (run_ret Tryz.func132 rfl ?_))))))))); exact ⟨_, rfl, by rw [decide_eq_false (bP bG (.inl h1))]; rfl, rfl⟩
   ·refine zqm rfl (zqm rfl (qV (ylnS U9 rfl) (qV (ygt rfl rfl) (rVal_if (fun h2 => ?_) (fun h2 => ?_)))))
    ·refine qV (ypF rfl rfl) (zqm rfl (qS (qS (qS (qS (qS (qS (qS (qS (qS (qS (qS (qV (ypT rfl rfl) ?_))))))))))))); refine rEnd (run_true rfl (qN rfl (zqa rfl (rEnd (run_ret Tryz.func132 rfl ?_))))); exact ⟨_, rfl, by rw [decide_eq_false (bP bG (.inr (.inl (by omega))))]; rfl, rfl⟩
    ·have gX : 1 ≤ s.length ∧ s.length ≤ 64 := ⟨List.length_pos_iff.2 h1, by omega⟩; refine qV (ypF rfl rfl) (zqm rfl (zqm rfl (qV (ygt rfl rfl) (rVal_if (fun h3 => ?_) (fun h3 => ?_)))))
     ·have rB : i - 1 < l.length := by omega
      obtain ⟨lb', lo', p, he, D3⟩ := rd_gets hR rB; cases he; refine zqm rfl (zqm rfl (zqm rfl (qV (ysb rfl rfl (by omega)) ?_))); rw [show ((i : Int) - 1) = ((i - 1 : Nat) : Int) by omega]; refine qV (yis U23 ti9 rfl rfl (by omega)) (qV (yldc U9 rfl rfl (rd_str hR rB D3)) (zqm rfl (qV (ygeS rfl rfl) (qV (ypT rfl rfl) (qV (ypF rfl rfl) (rEnd (run_cond rfl (fun hq => ?_) (fun hq => ?_))))))))
      ·refine qN rfl (zqa rfl (rEnd (run_ret Tryz.func132 rfl ?_))); have iD : lt p s = false := by simpa using hq
       exact ⟨_, rfl, by rw [decide_eq_false (bP bG (.inr (.inr ⟨by omega, p, D3, iD⟩)))]; rfl, rfl⟩
      ·have iD : lt p s = true := by simpa using hq
       refine run_skip (run_inBlock (run_reg rfl (zqd rfl rfl (zqm rfl (rEnd ?_))))); exact (ih (i + 1) wi ⟨rfl, ab, bA dR bG gX (.inr ⟨p, D3, iD⟩)⟩ (by omega)).qb
     ·refine zqm rfl (qS (qS (qS (qS (qS (qS (qS (qV (ypF rfl rfl) (qV (ypF rfl rfl) (rEnd (run_false rfl (run_skip (run_inBlock ?_))))))))))))); refine run_reg rfl (zqd rfl rfl (zqm rfl (rEnd ?_))); exact (ih (i + 1) wi ⟨rfl, ab, bA dR bG gX (.inl (by omega))⟩ (by omega)).qb
  ·have : i = l.length := by omega
   subst this; rw [List.take_length] at dR; refine run_exit rfl (qN rfl (zqa rfl (rEnd (run_ret Tryz.func132 rfl ?_)))); exact ⟨_, rfl, by rw [decide_eq_true dR]; rfl, rfl⟩
theorem pleaf_ret {n : Nd} {kv vv cv : Value} {w : World} (hR : NdR w n kv vv cv) (hb : n.Bd) (m : Nat) (hm : m ≤ 100000) :
  Ret Tryz.prog 133 [ndv n kv vv cv, I (m : Int)] w fun v w' => v = .bool (decide (leafOk n m)) ∧ Ext w w' := by
 obtain ⟨⟨lf, ks, vs, cs⟩, rfl⟩ : ∃ x, x = n := ⟨_, rfl⟩
 obtain ⟨hk, hv, hc⟩ := hR
 obtain ⟨b1, b2, b3, b4, b5, b6⟩ := hb
 dsimp only at hk hv hc b1 b2 b3 b4 b5 b6
 obtain ⟨ka, kc, rfl, -⟩ := hk.shape
 obtain ⟨va, vc, rfl, -⟩ := hv.shape
 obtain ⟨ca, cc, rfl, -⟩ := hc.shape
 refine ret_of_run (e := [(0, _), (1, _)]) Tryz.func133 rfl Tryz.ntmps133 rfl rfl (qN rfl (rValP rfl rfl (pbx rfl rfl) ?_))
 rintro _ w1 ⟨b, rfl, dr, aa, ai⟩
 have jw := aa
 have aD := hk.ext aa
 have fZ := hv.ext aa
 have bK : ∀ {x : Bytes × Bytes}, x ∈ ks.zip vs → ¬ (x.2.length ≤ 4095 ∧ 3 + x.1.length + x.2.length ≤ m) → ¬ leafOk ⟨lf, ks, vs, cs⟩ m := fun hx h h2 => h (h2.2.2 _ hx)
 refine zqa rfl (rEnd (run_seq (qN rfl (qV (yfa fl84_2 rfl) (qV (yld U23 rfl rfl ai rfl) (qV (yln U23 rfl) (qV (yfa fl84_1 rfl) (qV (yld U23 rfl rfl ai rfl) (qV (yln U23 rfl) (qV (yne rfl rfl) (zqm rfl (rVal_if (fun h1 => ?_) (fun h1 => ?_)))))))))))))
 ·refine qS (qS (qS (qS (qV (ypT rfl rfl) (rEnd (run_true rfl (qN rfl (zqa rfl (rEnd (run_ret Tryz.func133 rfl ?_)))))))))); exact ⟨_, rfl, by rw [decide_eq_false (fun h : leafOk _ _ => h1 (by have := h.1; dsimp only at this; omega))]; rfl, aa⟩
 ·have ei : vs.length = ks.length := by omega
  refine qV (yfa fl84_3 rfl) (qV (yld U82 rfl rfl ai rfl) (qV (yln U82 rfl) (qV (ygt rfl rfl) (qV (ypF rfl rfl) (rEnd (run_if rfl (fun h2 => ?_) (fun h2 => ?_)))))))
  ·refine qN rfl (zqa rfl (rEnd (run_ret Tryz.func133 rfl ?_))); exact ⟨_, rfl, by rw [decide_eq_false (fun h : leafOk _ _ => by have e : cs = [] := h.2.1; rw [e] at h2; simp at h2)]; rfl, aa⟩
  ·have gW : cs = [] := List.eq_nil_of_length_eq_zero (by omega); refine run_skip (run_seq (qN rfl (qV (yfa fl84_2 rfl) (qV (yld U23 rfl rfl ai rfl) (qV (yln U23 rfl) (zqm rfl (rEnd (run_block (zqu (α := Nat) (0) (fun i => [(1, I (m : Int)), (2, ptr b 0), (21, .slice va vs.length vc), (22, I (vs.length : Int)), (23, I (i : Int))]) (fun i w' => w' = w1 ∧ i ≤ vs.length ∧ ∀ x ∈ (ks.zip vs).take i, x.2.length ≤ 4095 ∧ 3 + x.1.length + x.2.length ≤ m) (fun i => vs.length - i) ?hI ?hround)))))))))
   case hI => exact ⟨rfl, Nat.zero_le _, by simp⟩
   case hround =>
    rintro i wi ⟨rfl, hi, aH⟩ ih
    try dsimp only
    refine qN rfl (qV (ylt rfl rfl) (rEnd (run_seq (run_if rfl (fun af => ?_) (fun af => ?_)))))
    ·have ab : i < vs.length := by omega
     obtain ⟨lb, lo, s, rfl, bG⟩ := rd_gets fZ ab; obtain ⟨lb2, lo2, s2, rfl, cB⟩ := rd_gets aD (show i < ks.length by omega); have hz : (ks.zip vs)[i]? = some (s2, s) := by rw [List.getElem?_zip_eq_some]; exact ⟨cB, bG⟩
     have yL := List.mem_of_getElem? hz; have gX := b5 s (List.mem_of_getElem? bG); have D4 := b4 s2 (List.mem_of_getElem? cB); refine run_skip (run_seq (run_block (qN rfl (zqm rfl (qV (yis U23 ti9 rfl rfl (by omega)) (qV (yldc U9 rfl rfl (rd_str fZ ab bG)) (zqa rfl (zqa rfl (qM rfl (zqm rfl (qV (ylnS U9 rfl) (qV (ygt rfl rfl) (zqm rfl ?_))))))))))))); refine rVal_if (fun h3 => ?_) (fun h3 => ?_)
     ·refine qS (qS (qS (qS (qS (qS (qS (qS (qS (qS (qS (qS (qV (ypT rfl rfl) (rEnd ?_))))))))))))); refine run_true rfl (qN rfl (zqa rfl (rEnd (run_ret Tryz.func133 rfl ?_)))); exact ⟨_, rfl, by rw [decide_eq_false (bK yL (fun h => by dsimp only at h; omega))]; rfl, aa⟩
     ·refine qV (yfa fl84_1 rfl) (qV (yld U23 rfl rfl ai rfl) (zqm rfl (qV (yis U23 ti9 rfl rfl (by omega)) (qV (yldc U9 rfl rfl (rd_str aD (by omega) cB)) (qV (ylnS U9 rfl) (zqd rfl rfl (zqm rfl (qV (ylnS U9 rfl) (zqd rfl rfl (zqm rfl (qV (ygt rfl rfl) (qV (ypF rfl rfl) (rEnd ?_))))))))))))); refine run_if rfl (fun h4 => ?_) (fun h4 => ?_)
      ·refine qN rfl (zqa rfl (rEnd (run_ret Tryz.func133 rfl ?_))); exact ⟨_, rfl, by rw [decide_eq_false (bK yL (fun h => by dsimp only at h; omega))]; rfl, aa⟩
      ·refine run_skip (run_inBlock (run_reg rfl (zqd rfl rfl (zqm rfl (rEnd ((ih (i + 1) wi ⟨rfl, ab, fun x hx => ?_⟩ (by omega)).qb)))))); have cE : i < (ks.zip vs).length := by rw [List.length_zip]; omega
       rw [List.take_succ_eq_append_getElem cE] at hx; rcases List.mem_append.1 hx with hx | hx
       ·exact aH x hx
       ·rw [List.getElem?_eq_getElem cE] at hz; rw [oinj hz] at hx; simp at hx; subst hx; dsimp only; omega
    ·have e : i = vs.length := by omega
     rw [List.take_of_length_le (by rw [List.length_zip]; omega)] at aH; refine run_exit rfl (qN rfl (zqa rfl (rEnd (run_ret Tryz.func133 rfl ?_)))); exact ⟨_, rfl, by rw [decide_eq_true (show leafOk ⟨lf, ks, vs, cs⟩ m from ⟨ei, gW, aH⟩)]; rfl, aa⟩
structure Inv (T : Tr) (H : Nat) (ns : List Int) (es : Es) : Prop where
 std : (T.root = 0 ∧ H = 0 ∧ ns = [] ∧ es = []) ∨ (T.root ≠ 0 ∧ 1 ≤ H ∧ Bn T.size T.nodes H T.root [] none ns es ∧ ns.Nodup ∧ ∀ n, T.nodes T.root = some n → n.keys ≠ [])
 all : ∀ x, T.nodes x ≠ none → x ∈ ns
 cnt : T.count = es.length
 num : ∀ x, T.nodes x ≠ none → 1 ≤ x ∧ x ≤ 2147483647
 gnum : ∀ x ∈ T.given, 1 ≤ x ∧ x ≤ 2147483647
 giv : GivS T
 chg : ∀ x, T.nodes x ≠ none → T.changed x = false → T.old x = true
theorem rise_len : ∀ {l : List Int} {a b : Int}, l.Pairwise (· < ·) → (∀ x ∈ l, a ≤ x ∧ x ≤ b) → (l.length : Int) ≤ max 0 (b + 1 - a)
 | [], _, _, _, _ => by simp; omega
 | x :: r, a, b, h, hb => by
   obtain ⟨h1, h2⟩ := List.pairwise_cons.1 h; have := rise_len (a := x + 1) (b := b) h2 (fun y hy => ⟨by have := h1 y hy; omega, (hb y (List.mem_cons_of_mem _ hy)).2⟩); have hx := hb x (List.mem_cons_self ..); rw [List.length_cons]; omega
theorem Inv.gl {T : Tr} {H : Nat} {ns : List Int} {es : Es} (h : Inv T H ns es) : T.given.length ≤ 2147483647 := by
 have := rise_len h.giv.rise h.gnum
 omega
theorem inB_top (k : Bytes) : inB [] none k := ⟨nil_le k, fun u hu => by cases hu⟩
theorem Bn.pos {z h : Nat} {N : Nodes} {no : Int} {lo : Bytes} {hi : Option Bytes} {ns : List Int} {es : Es} (s : Bn z N h no lo hi ns es) : 1 ≤ h := by
 cases h with
 | zero => exact s.elim
 | succ h => omega
section
variable {w : World} {p : Nat} {T : Tr} {nb : Int → Nat} {F : Nat → Prop}
set_option maxHeartbeats 2000000 in
theorem leaf_ret (h : TreeA w p T nb F) {H : Nat} {ns : List Int} {es : Es} (hI : Inv T H ns es) (k : Bytes) :
  Ret Tryz.prog 74 [ptr p 0, S k] w fun v w' => Ext w w' ∧ ((T.root = 0 ∧ v = .pointer none) ∨ ∃ x E e1 e2, v = ptr (nb x) 0 ∧ T.nodes x = some (leafNd E) ∧ EsOk T.size E ∧ es = e1 ++ (E ++ e2) ∧ (∀ y ∈ e1, lt y.1 k = true) ∧ (∀ y ∈ e2, lt k y.1 = true)) := by
 have hz : sizeOk (T.size : Int) := size_ok h
 obtain ⟨z1, z2, -⟩ := id hz
 obtain ⟨mN, mC, mO, gv, kn, kc, ko, O⟩ := h.opn
 have a7 := Ext.drew0 w
 refine ret_of_run (e := [(0, _), (1, _)]) Tryz.func74 rfl Tryz.ntmps74 rfl rfl (qN rfl (zqa rfl (rEnd (run_seq (run_draw (fun w' => Ext w w') (by kernel_rfl) rfl (zqt 0 rfl (ymv rfl) a7 (zqt 1 rfl (ynk rfl) a7 (zqt 2 rfl (yfa fl74_5 rfl) a7 (qT 3 rfl (fun _ h=>yld U71 rfl rfl (h.blk O.blk) rfl) a7 (zqt 4 rfl (ymv rfl) a7 (zqt 5 rfl (ynk rfl) a7 (zqt 6 rfl (yfa fl74_1 rfl) a7 (qT 7 rfl (fun _ h=>yld U3 rfl rfl (h.blk O.blk) rfl) a7 ?_)))))))))))))
 refine qT 8 rfl (fun _ h=>ylk (k := T.root) (K := KZ) U71 (ky_int U3) ti81 rfl rfl (h.map O.nm.l)) a7 ?_
 rcases hI.std with ⟨hr, -, -, -⟩ | ⟨hr, hH, hB, bz, -⟩
 ·have gS : T.nodes T.root = none := by
   cases e : T.nodes T.root with
   | none => rfl
   | some n => have := hI.num T.root (by rw [e]; simp); omega
  rw [show (getL kn T.root).getD (.pointer none) = .pointer none by rw [O.ng T.root, gS]; rfl]; refine zqt 9 rfl (yas rfl) a7 (qE (run_seq (run_block (zqu (α := Unit) (()) (fun _ => [(0, ptr p 0), (1, S k), (4, .pointer none), (5, .pointer none)]) (fun _ w' => Ext w w') (fun _ => 0) ?hI ?hround))))
  case hI => exact a7
  case hround =>
   rintro ⟨⟩ w1 aa ih
   try dsimp only
   refine run_seq (qN rfl (zqm rfl (qV (ynepN U81 rfl rfl) (zqm rfl (qS (qS (qS (qS (qS (qV (ypF rfl rfl) (rEnd (run_false rfl (run_exit rfl ?_))))))))))))); refine qN rfl (zqm rfl (zqa rfl (rEnd (run_ret Tryz.func74 rfl ?_)))); exact ⟨_, rfl, aa, .inl ⟨hr, rfl⟩⟩
 ·have iE : (getL kn T.root).getD (.pointer none) = ptr (nb T.root) 0 := by
   rw [O.ng T.root]
   cases e : T.nodes T.root with
   | none => exact absurd e (Bn.some hB _ hB.mem)
   | some n => rfl
  rw [iE]; refine zqt 9 rfl (yas rfl) a7 (qE (run_seq (run_block (zqu (α := Nat × Int) ((H, T.root)) (fun x => [(0, ptr p 0), (1, S k), (4, .pointer none), (5, ptr (nb x.2) 0)]) (fun x w' => Ext w w' ∧ ∃ lo hi ns' e1 em e2, Bn T.size T.nodes x.1 x.2 lo hi ns' em ∧ ns'.Nodup ∧ inB lo hi k ∧ es = e1 ++ (em ++ e2) ∧ (∀ y ∈ e1, lt y.1 k = true) ∧ (∀ y ∈ e2, lt k y.1 = true)) (fun x => x.1) ?hI ?hround))))
  case hI => exact ⟨a7, [], none, ns, [], es, [], hB, bz, inB_top k, by simp, by simp, by simp⟩
  case hround =>
   rintro ⟨h', x⟩ wi ⟨bC, lo, hi, ns', e1, em, e2, cW, D5, yM, ib, jC, gp⟩ ih; dsimp only at cW; have fV := h.ext bC; obtain ⟨mNi, mCi, mOi, gvi, kni, kci, koi, Oi⟩ := fV.opn; rcases Nat.eq_or_lt_of_le cW.pos with e | e
   ·subst e; obtain ⟨hn, rfl, aQ, -, -⟩ := cW.leaf (by omega); obtain ⟨q, hq, hM, fj, -⟩ := fV.node hn; have ar := hM.blk; rw [hq] at ar
    try dsimp only
    refine run_seq (qN rfl (zqm rfl (qV (ynepN U81 rfl rfl) (zqm rfl (zqm rfl (qV (ynk rfl) (qV (yfa fl84_0 rfl) (qV (yld U4 rfl rfl ar rfl) (qV ((by first | exact yntd rfl | exact ynt rfl)) ?_))))))))); refine qV (ypT rfl rfl) (rEnd (run_false rfl (run_exit rfl (qN rfl (zqm rfl (zqa rfl (rEnd (run_ret Tryz.func74 rfl ?_)))))))); exact ⟨_, rfl, bC, .inr ⟨x, em, e1, e2, rfl, hn, aQ, ib, jC, gp⟩⟩
   ·obtain ⟨h2, rfl⟩ : ∃ h2, h' = h2 + 2 := ⟨h' - 2, by omega⟩; obtain ⟨c, ps, ns1, hn, rfl, dR, -, -, -, a, lo', ab, nm, em', f1, f2, ha, ja, p8, p9, -, -, I6, ll, qY, -⟩ := inner_step hz cW D5 yM; obtain ⟨q, hq, hM, fj, -⟩ := fV.node hn; obtain ⟨qb, qk, qv, qc⟩ := q; dsimp only at hq; subst hq; have ar := hM.blk; have ia := hM.kids; dsimp only at ar ia; have kcl : (innNd c ps).kids.length = ps.length + 1 := by simp [innNd]
    rw [kcl] at ia; obtain ⟨gc, cc, rfl⟩ := some_of ia (by omega); have D6 := wayI_le (ps.map (·.1)) k; rw [List.length_map] at D6; have vh := hM.bd.cs a (List.mem_of_getElem? (show (innNd c ps).kids[_]? = some a from ha)); have dv : ps.length ≤ 100000 := by have := hM.bd.cl; omega
    have jb := Ext.drew0 wi; obtain ⟨na, I7⟩ : ∃ n, T.nodes (a : Int) = some n := Option.ne_none_iff_exists'.1 (Bn.some ja _ ja.mem)
    try dsimp only
    refine run_seq (qN rfl (zqm rfl (qV (ynepN U81 rfl rfl) (zqm rfl (zqm rfl (qV (ynk rfl) (qV (yfa fl84_0 rfl) (qV (yld U4 rfl rfl ar rfl) (qV ((by first | exact yntd rfl | exact ynt rfl)) ?_))))))))); refine qV (ypT rfl rfl) (rEnd (run_true rfl (run_skip (run_block (run_draw (fun w' => Ext wi w') (by kernel_rfl) rfl (zqt 0 rfl (ymv rfl) jb (zqt 1 rfl (ynk rfl) jb (zqt 2 rfl (yfa fl74_5 rfl) jb (qT 3 rfl (fun _ h=>(by first | exact yld U71 rfl rfl (h.blk Oi.blk) rfl | exact yld U71 rfl rfl (h.blk ar) rfl)) jb ?_))))))))); refine zqt 4 rfl (ymv rfl) jb (zqt 5 rfl (ynk rfl) jb (zqt 6 rfl (yfa fl84_3 rfl) jb (qT 7 rfl (fun _ h=>(by first | exact yld U82 rfl rfl (h.blk Oi.blk) rfl | exact yld U82 rfl rfl (h.blk ar) rfl)) jb ?_))); refine zqt 8 rfl (ymv rfl) jb (zqt 9 rfl (ymv rfl) jb (zqo 10 [.tmp 32, .tmp 33] rfl cf46 rfl (way_ret k (jb.blk ar) (hM.r.ext jb) hM.bd dR.2) ?_)); rintro _ w1 ⟨rfl, rfl⟩; refine ⟨jb, ?_⟩; have I8 : wayI (innNd c ps).keys k = wayI (ps.map (·.1)) k := rfl; rw [I8]; refine zqt 11 rfl (yis U82 ti89 rfl rfl (by omega)) jb (qT 12 rfl (fun _ hS => yldc U89 rfl rfl (rd_u32 ((ia.ext hS).rd) (by omega) ha)) jb (zqt 13 rfl (ycvSi64 rfl U89 U3 (by omega)) jb (qT 14 rfl (fun _ h=>ylk (k := (a : Int)) (K := KZ) U71 (ky_int U3) ti81 rfl rfl (h.map Oi.nm.l)) jb ?_))); rw [show (getL kni (a : Int)).getD (.pointer none) = ptr (nb a) 0 by rw [Oi.ng (a : Int), I7]; rfl]; refine zqt 15 rfl (yas rfl) jb (qE (run_inBlock ?_)); exact (ih (h2 + 1, (a : Int)) _ ⟨bC.trans jb, lo', ab, nm, e1 ++ f1, em', f2 ++ e2, ja, p8, p9, by rw [ib, I6]; simp, fun y hy => (List.mem_append.1 hy).elim (jC y) (ll y), fun y hy => (List.mem_append.1 hy).elim (qY y) (gp y)⟩ (by dsimp only; omega)).qb
end
end Go.Proofs.YtocnhaoilnojmaaGreat
namespace Go.Proofs.YtocnhaoilnojmaaGreat
open Go Go.RowKit Go.Shelf
set_option linter.all false
set_option maxRecDepth 100000
section
variable {w : World}
theorem rd_getI {w : World} {a : Option Addr} {cap : Nat} {l : List Int} {i : Nat} (h : Rd w (.slice a l.length cap) 1 l.length (l.map I)) (hi : i < l.length) : ∃ b off s, a = some ⟨b, off, none⟩ ∧ l[i]? = some s := by
 rcases h.2 with ⟨c, -, h0⟩ | ⟨b', off', cap', hv, hc⟩
 ·omega
 ·cases hv; exact ⟨b', off', _, rfl, List.getElem?_eq_getElem hi⟩
theorem rd_getU {w : World} {a : Option Addr} {cap : Nat} {l : List Nat} {i : Nat} (h : Rd w (.slice a l.length cap) 1 l.length (l.map u32v)) (hi : i < l.length) : ∃ b off s, a = some ⟨b, off, none⟩ ∧ l[i]? = some s := by
 rcases h.2 with ⟨c, -, h0⟩ | ⟨b', off', cap', hv, hc⟩
 ·omega
 ·cases hv; exact ⟨b', off', _, rfl, List.getElem?_eq_getElem hi⟩
theorem mem_take_succ {α : Type} {l : List α} {i : Nat} {s x : α} (h : l[i]? = some s) : x ∈ l.take (i + 1) ↔ x ∈ l.take i ∨ x = s := by
 obtain ⟨hi, e⟩ := List.getElem?_eq_some_iff.1 h
 rw [List.take_succ_eq_append_getElem hi, e, List.mem_append, List.mem_singleton]
theorem indexI_ret {l : List Int} {lv : Value} (x : Int) (hR : Rd w lv 1 l.length (l.map I)) (hl : l.length ≤ 4294967296) :
  Ret Tryz.prog 106 [lv, I x] w fun v w' => w' = w ∧ ∃ r : Int, v = I r ∧ (0 ≤ r ↔ x ∈ l) := by
 obtain ⟨a, cap, rfl, -⟩ := hR.shape
 refine ret_of_run (e := [(0, _), (1, _)]) Tryz.func106 rfl Tryz.ntmps106 rfl rfl (qN rfl (zqa rfl (rEnd (run_seq (qN rfl (zqm rfl (qV (yln U34 rfl) (zqm rfl (rEnd (run_block (zqu (α := Nat) (0) (fun i => [(0, .slice a l.length cap), (1, I x), (7, I (l.length : Int)), (8, I (i : Int))]) (fun i w' => w' = w ∧ i ≤ l.length ∧ x ∉ l.take i) (fun i => l.length - i) ?hI ?hround)))))))))))
 case hI => exact ⟨rfl, Nat.zero_le _, by simp⟩
 case hround =>
  rintro i wi ⟨rfl, hi, bK⟩ ih
  try dsimp only
  refine qN rfl (qV (ylt rfl rfl) (rEnd (run_seq (run_if rfl (fun af => ?_) (fun af => ?_)))))
  ·have ab : i < l.length := by omega
   obtain ⟨lb, lo, s, rfl, bG⟩ := rd_getI hR ab; refine run_skip (run_seq (run_block (qN rfl (zqm rfl (zqa rfl (qM rfl (zqm rfl (zqm rfl (zqm rfl (qV (yis U34 ti3 rfl rfl (by omega)) (qV (yldc U3 rfl rfl (rd_intT hR ab bG)) (qV (yeq rfl rfl) (rEnd ?_))))))))))))); refine run_if rfl (fun he => ?_) (fun he => ?_)
   ·refine qN rfl (zqm rfl (zqa rfl (rEnd (run_ret Tryz.func106 rfl ?_)))); exact ⟨_, rfl, rfl, _, rfl, ⟨fun _ => by rw [he]; exact List.mem_of_getElem? bG, fun _ => by omega⟩⟩
   ·refine run_skip (run_inBlock (run_reg rfl (zqd rfl rfl (zqm rfl (rEnd ?_)))))
    exact (ih (i + 1) _ ⟨rfl, by omega, fun hh => by
     rcases (mem_take_succ bG).1 hh with h | h
     ·exact bK h
     ·exact he h⟩ (by omega)).qb
  ·have : i = l.length := by omega
   subst this; rw [List.take_length] at bK; refine run_exit rfl (qN rfl (zqa rfl (rEnd (run_ret Tryz.func106 rfl ?_)))); exact ⟨_, rfl, rfl, -1, rfl, ⟨fun h => by omega, fun h => absurd h bK⟩⟩
theorem containsI_ret {l : List Int} {lv : Value} (x : Int) (hR : Rd w lv 1 l.length (l.map I)) (hl : l.length ≤ 4294967296) :
  Ret Tryz.prog 80 [lv, I x] w fun v w' => w' = w ∧ v = .bool (decide (x ∈ l)) := by
 refine ret_of_run (e := [(0, _), (1, _)]) Tryz.func80 rfl Tryz.ntmps80 rfl rfl (qN rfl (zqa rfl (qM rfl (zqm rfl (zqm rfl (zqc [.tmp 5, .tmp 6] cf106 rfl (indexI_ret x hR hl) ?_))))))
 rintro _ w1 ⟨rfl, r, rfl, hr⟩
 refine qV (yge rfl rfl) (zqa rfl (rEnd (run_ret Tryz.func80 rfl ?_)))
 exact ⟨_, rfl, rfl, by simp only [resVal]; congr 1; exact decide_eq_decide.2 hr⟩
theorem indexU_ret {l : List Nat} {lv : Value} (x : Nat) (hx : x < 4294967296) (hb : ∀ y ∈ l, y < 4294967296) (hR : Rd w lv 1 l.length (l.map u32v)) (hl : l.length ≤ 4294967296) :
  Ret Tryz.prog 158 [lv, u32v x] w fun v w' => w' = w ∧ ∃ r : Int, v = I r ∧ (0 ≤ r ↔ x ∈ l) := by
 obtain ⟨a, cap, rfl, -⟩ := hR.shape
 refine ret_of_run (e := [(0, _), (1, _)]) Tryz.func158 rfl Tryz.ntmps158 rfl rfl (qN rfl (zqa rfl (rEnd (run_seq (qN rfl (zqm rfl (qV (yln U82 rfl) (zqm rfl (rEnd (run_block (zqu (α := Nat) (0) (fun i => [(0, .slice a l.length cap), (1, u32v x), (7, I (l.length : Int)), (8, I (i : Int))]) (fun i w' => w' = w ∧ i ≤ l.length ∧ x ∉ l.take i) (fun i => l.length - i) ?hI ?hround)))))))))))
 case hI => exact ⟨rfl, Nat.zero_le _, by simp⟩
 case hround =>
  rintro i wi ⟨rfl, hi, bK⟩ ih
  try dsimp only
  refine qN rfl (qV (ylt rfl rfl) (rEnd (run_seq (run_if rfl (fun af => ?_) (fun af => ?_)))))
  ·have ab : i < l.length := by omega
   obtain ⟨lb, lo, s, rfl, bG⟩ := rd_getU hR ab; refine run_skip (run_seq (run_block (qN rfl (zqm rfl (zqa rfl (qM rfl (zqm rfl (zqm rfl (zqm rfl (qV (yis U82 ti89 rfl rfl (by omega)) (qV (yldc U89 rfl rfl (rd_u32 hR ab bG)) (qV (yeq rfl rfl) (rEnd ?_))))))))))))); refine run_if rfl (fun he => ?_) (fun he => ?_)
   ·refine qN rfl (zqm rfl (zqa rfl (rEnd (run_ret Tryz.func158 rfl ?_)))); exact ⟨_, rfl, rfl, _, rfl, ⟨fun _ => by rw [show x = s by omega]; exact List.mem_of_getElem? bG, fun _ => by omega⟩⟩
   ·refine run_skip (run_inBlock (run_reg rfl (zqd rfl rfl (zqm rfl (rEnd ?_)))))
    exact (ih (i + 1) _ ⟨rfl, by omega, fun hh => by
     rcases (mem_take_succ bG).1 hh with h | h
     ·exact bK h
     ·exact he (by omega)⟩ (by omega)).qb
  ·have : i = l.length := by omega
   subst this; rw [List.take_length] at bK; refine run_exit rfl (qN rfl (zqa rfl (rEnd (run_ret Tryz.func158 rfl ?_)))); exact ⟨_, rfl, rfl, -1, rfl, ⟨fun h => by omega, fun h => absurd h bK⟩⟩
theorem containsU_ret {l : List Nat} {lv : Value} (x : Nat) (hx : x < 4294967296) (hb : ∀ y ∈ l, y < 4294967296) (hR : Rd w lv 1 l.length (l.map u32v)) (hl : l.length ≤ 4294967296) :
  Ret Tryz.prog 134 [lv, u32v x] w fun v w' => w' = w ∧ v = .bool (decide (x ∈ l)) := by
 refine ret_of_run (e := [(0, _), (1, _)]) Tryz.func134 rfl Tryz.ntmps134 rfl rfl (qN rfl (zqa rfl (qM rfl (zqm rfl (zqm rfl (zqc [.tmp 5, .tmp 6] cf158 rfl (indexU_ret x hx hb hR hl) ?_))))))
 rintro _ w1 ⟨rfl, r, rfl, hr⟩
 refine qV (yge rfl rfl) (zqa rfl (rEnd (run_ret Tryz.func134 rfl ?_)))
 exact ⟨_, rfl, rfl, by simp only [resVal]; congr 1; exact decide_eq_decide.2 hr⟩
theorem clone_ret {l : List Int} {sv : Value} (hS : Sl w sv 3 1 l.length (l.map I)) (hl : l.length ≤ 4294967296) :
  Ret Tryz.prog 61 [sv] w fun v w' => Sl w' v 3 1 l.length (l.map I) ∧ Ext w w' ∧ ∀ g, v.ownBlock = some g → w.heap.size ≤ g := by
 refine ret_of_run (e := [(0, _)]) Tryz.func61 rfl Tryz.ntmps61 rfl rfl ?_
 rcases hS.shape with ⟨rfl, h0⟩ | ⟨g, cap, rfl, jx⟩
 ·refine qN rfl (zqa rfl (rEnd (run_seq (qN rfl (zqm rfl (qV (yeqsN U34 rfl rfl) (rEnd (run_true rfl (qN rfl (zqa rfl (rEnd (run_ret Tryz.func61 rfl (⟨_, rfl, ?_, Ext.refl _, fun g hg => by simp [resVal, Value.ownBlock] at hg⟩))))))))))))); have : l = [] := List.eq_nil_of_length_eq_zero h0; subst this; exact Sl.nil _ _ _
 ·refine qN rfl (zqa rfl (rEnd (run_seq (qN rfl (zqm rfl (qV (yeqsN U34 rfl rfl) (rEnd (run_false rfl (run_skip (qN rfl (rValP rfl rfl (pbs (parts := []) (cs := []) (zs := []) U34 ti3 rfl (by kernel_rfl) rfl rfl rfl (by decide)) ?_))))))))))); rintro _ w4 ⟨b4, rfl, ⟨Br, aC, aW⟩, gq⟩; refine zqm rfl (rValP rfl rfl (pap U34 ti3 rfl (by decide) rfl rfl gq (hS.ext aC).rd (by intro c hc; obtain ⟨z, -, rfl⟩ := List.mem_map.1 hc; rfl) (by omega) (Nat.le_trans (by omega : 0 + l.length ≤ 4294967296) (by decide))) ?_); rintro gv5 w5 ⟨cf, bh, jL, -⟩; refine zqa rfl (rEnd (run_ret Tryz.func61 rfl ?_)); have jq := aC.size; refine ⟨_, rfl, by simpa [resVal] using cf, aC.trans_new bh (fun i hi => ?_), fun g hg => ?_⟩
  ·have e : b4 = i := oinj hi; omega
  ·rcases jL g hg with e | e
   ·have e' : b4 = g := oinj e; omega
   ·omega
theorem sortI_none {p : Option Addr} {cap : Nat} :
  Ret Tryz.prog 62 [.slice p 0 cap] w fun v w' => v = .tuple #[] ∧ w' = w :=
 Calls.mono (AnyM.slices_Sort_int_none sortA p cap w) fun _ _ ⟨he, hw⟩ => ⟨_, he, rfl, hw⟩
theorem sortZ_ret {sv : Value} {l : List Int} (hS : Sl w sv 3 1 l.length (l.map I)) (hl : l.length ≤ 8589934592) :
  Ret Tryz.prog 62 [sv] w fun v w' => v = .tuple #[] ∧ Sl w' sv 3 1 (sortZ l).length ((sortZ l).map I) ∧ Kp (fun k => sv.ownBlock = some k) w w' := by
 have aP : (sortZ l).length = l.length := List.length_mergeSort _
 by_cases h0 : l = []
 ·subst h0; obtain ⟨a, cap, rfl, -⟩ := hS.rd.shape; refine Calls.mono (sortI_none (w := w) (p := a) (cap := cap)) ?_; rintro _ _ ⟨v, he, rfl, rfl⟩; have e0 : sortZ [] = [] := by simp [sortZ]
  exact ⟨_, he, rfl, by rw [e0]; exact hS, Kp.refl _ _⟩
 ·refine Calls.mono (sortI_ret hS (List.length_pos_iff.2 h0) hl) ?_; rintro _ _ ⟨v, he, rfl, I9, hk⟩; exact ⟨_, he, rfl, by rw [aP]; exact I9, hk⟩
end
section
variable {w : World} {p : Nat} {T : Tr} {nb : Int → Nat} {F : Nat → Prop}
theorem given_ret (h : TreeA w p T nb F) (de : T.given.length ≤ 4294967296) :
  Ret Tryz.prog 27 [ptr p 0] w fun v w' => Sl w' v 3 1 T.given.length (T.given.map I) ∧ Ext w w' ∧ ∀ g, v.ownBlock = some g → w.heap.size ≤ g := by
 obtain ⟨mN, mC, mO, gv, kn, kc, ko, O⟩ := h.opn
 refine ret_of_run (e := [(0, _)]) Tryz.func27 rfl Tryz.ntmps27 rfl rfl (qN rfl (zqa rfl (rEnd (run_seq (qN rfl (zqm rfl (qV (yeqpN U24 rfl rfl) (rEnd (run_false rfl (run_skip (qN rfl (zqm rfl (qV (ynk rfl) ?_)))))))))))))
 refine qV (yfa fl74_6 rfl) (qV (yld U34 rfl rfl O.blk rfl) (zqc [.tmp 8] cf61 rfl (clone_ret O.gs de) ?_))
 rintro v w1 ⟨dC, aa, dQ⟩
 refine zqa rfl (rEnd (run_ret Tryz.func27 rfl ?_))
 exact ⟨_, rfl, dC, aa, dQ⟩
end
end Go.Proofs.YtocnhaoilnojmaaGreat
namespace Go.Proofs.YtocnhaoilnojmaaGreat
open Go Go.RowKit
set_option linter.all false
set_option maxRecDepth 100000
theorem most_ok {z : Nat} (hz : sizeOk (z : Int)) (w : World) : Ret Tryz.prog 34 [I (z : Int)] w fun v w' => v = .tuple #[I ((mostE z : Nat) : Int), I 0] ∧ w' = w := by
 have := most_ret (z : Int) w
 rw [if_pos hz, if_pos hz, Int.toNat_natCast] at this
 exact this
theorem order_ok {z : Nat} (hz : sizeOk (z : Int)) (w : World) : Ret Tryz.prog 35 [I (z : Int)] w fun v w' => v = .tuple #[I ((orderE z : Nat) : Int), I 0] ∧ w' = w := by
 have := order_ret (z : Int) w
 rw [if_pos hz, if_pos hz, Int.toNat_natCast] at this
 exact this
theorem check_ret {n : Nd} {kv vv cv : Value} {w : World} (hR : NdR w n kv vv cv) (hb : n.Bd) {z : Nat} (hz : sizeOk (z : Int)) :
  Ret Tryz.prog 107 [ndv n kv vv cv, I (z : Int)] w fun v w' => v = I (if NdOk z n then 0 else 1) ∧ Ext w w' := by
 obtain ⟨z1, z2, -⟩ := id hz
 have xe : mostE z ≤ 1100 := by unfold mostE; omega
 have Gg : orderE z ≤ 1100 := by unfold orderE; omega
 have qU := hb.bytes
 obtain ⟨⟨lf, ks, vs, cs⟩, rfl⟩ : ∃ x, x = n := ⟨_, rfl⟩
 obtain ⟨hk, hv, hc⟩ := id hR
 dsimp only at hk hv hc
 obtain ⟨ka, kc, rfl, -⟩ := hk.shape
 obtain ⟨va, vc, rfl, -⟩ := hv.shape
 obtain ⟨ca, cc, rfl, -⟩ := hc.shape
 have b1 := hb.kl
 have b2 := hb.vl
 have b3 := hb.cl
 dsimp only at b1 b2 b3
 refine ret_of_run (e := [(0, _), (1, _)]) Tryz.func107 rfl Tryz.ntmps107 rfl rfl (qN rfl (rValP rfl rfl (pbx rfl rfl) ?_))
 rintro _ w1 ⟨b, rfl, dr, aa, ai⟩
 refine zqa rfl (qM rfl (zqm rfl (zqc [.tmp 11] cf34 rfl (most_ok hz _) ?_)))
 rintro _ w1 ⟨rfl, rfl⟩
 refine zqm rfl (qV (yex rfl rfl) (qV (yex rfl rfl) (zqa rfl (zqa rfl (rEnd (run_seq (qN rfl (zqm rfl (qV (yne rfl rfl) (rEnd (run_if rfl (fun h0 => ?_) (fun h0 => ?_))))))))))))
 ·exact absurd rfl h0
 ·refine run_skip (qN rfl (zqm rfl (zqc [.tmp 19] cf35 rfl (order_ok hz _) ?_))); rintro _ w1 ⟨rfl, rfl⟩; refine zqm rfl (qV (yex rfl rfl) (qV (yex rfl rfl) (zqa rfl (zqa rfl (rEnd (run_seq (run_cut (fun e' w' => ∃ B : Bool, e' = [(2, ptr b 0), (4, I 0), (5, I ((mostE z : Nat) : Int)), (7, I ((orderE z : Nat) : Int)), (9, .bool B)] ∧ (B = true ↔ keysOk ks ∧ Nd.bytes ⟨lf, ks, vs, cs⟩ ≤ z) ∧ Ext w1 w') ?hk (fun hk => ?dN))))))))
  case hk =>
   rintro e' w3 ⟨B, rfl, hB, ah⟩; have aG := ah.blk ai; have aq := aa.trans ah; refine run_seq (run_cut (fun e' w' => ∃ B' : Bool, e' = [(4, I 0), (9, .bool B')] ∧ (B' = true ↔ NdOk z ⟨lf, ks, vs, cs⟩) ∧ Ext w3 w') ?fg (fun fg => ?jc))
   case fg =>
    rintro e' w4 ⟨B', rfl, kR, aC⟩; refine run_seq (qN rfl (zqm rfl (qV ((by first | exact yntd rfl | exact ynt rfl)) ?_))); refine rEnd (run_cond rfl (fun hh => ?_) (fun hh => ?_))
    ·refine qN rfl (zqa rfl (rEnd (run_ret Tryz.func107 rfl ?_))); have : B' = false := by cases B' <;> simp_all
     exact ⟨_, rfl, by rw [if_neg (fun h => by rw [kR.2 h] at this; cases this)]; rfl, aq.trans aC⟩
    ·refine run_skip (qN rfl (zqa rfl (rEnd (run_ret Tryz.func107 rfl ?_)))); have : B' = true := by cases B' <;> simp_all
     exact ⟨_, rfl, by rw [if_pos (kR.1 this)]; rfl, aq.trans aC⟩
   case jc =>
    refine run_block (qN rfl (qV (yfa fl84_0 rfl) (qV (yld U4 rfl rfl aG rfl) (zqa rfl (rEnd (run_cond rfl (fun hl => ?_) (fun hl => ?_)))))))
    ·refine run_reg rfl (zqm rfl (zqm rfl (rVal_bool (fun bW => ?_) (fun bW => ?_))))
     ·refine qV (yldA U84 rfl ti84 rfl (Blk.cells (n := 4) aG (news := [_, _, _, _]) rfl) rfl) (zqm rfl (zqc [.tmp 67, .tmp 68] cf133 rfl (pleaf_ret (hR.ext aq) hb _ (by omega)) ?_)); rintro _ w4 ⟨rfl, aC⟩; refine qV (ypT rfl rfl) (zqa rfl (rEnd (run_inBlock ((fg _ _ ⟨_, rfl, ?_, aC⟩).qb)))); have fo : lf = true := hl; rw [decide_eq_true_iff]; unfold NdOk; dsimp only; rw [if_pos fo]; exact ⟨fun h => ⟨(hB.1 bW).1, (hB.1 bW).2, h⟩, fun h => h.2.2⟩
     ·refine qS (qS (qS (qV (ypF rfl rfl) (zqa rfl (rEnd (run_inBlock ((fg _ _ ⟨_, rfl, ⟨fun h => Bool.noConfusion h, fun h => ?_⟩, Ext.refl _⟩).qb))))))); rw [hB.2 ⟨h.1, h.2.1⟩] at bW; cases bW
    ·have fo : ¬ lf = true := by rw [show lf = false from hl]; decide
     have bK : (¬ (keysOk ks ∧ Nd.bytes ⟨lf, ks, vs, cs⟩ ≤ z) ∨ ¬ vs = [] ∨ ¬ cs.length = ks.length + 1 ∨ ¬ cs.length ≤ orderE z ∨ 0 ∈ cs) → (false = true ↔ NdOk z ⟨lf, ks, vs, cs⟩) := fun h => ⟨fun h => Bool.noConfusion h, fun ⟨h1, h2, h3⟩ => by
      rw [if_neg fo] at h3; obtain ⟨h4, h5, h6, h7⟩ := h3; dsimp only at h4 h5 h6 h7; rcases h with h | h | h | h | h
      ·exact absurd ⟨h1, h2⟩ h
      ·exact absurd h4 h
      ·exact absurd h5 h
      ·exact absurd h6 h
      ·exact absurd rfl (h7 0 h)⟩
     refine run_reg rfl (zqm rfl (zqm rfl (rVal_bool (fun bW => ?_) (fun bW => ?_))))
     ·refine qV (yfa fl84_2 rfl) (qV (yld U23 rfl rfl aG rfl) (qV (yln U23 rfl) (qV (yeq rfl rfl) (rVal_if (fun h1 => ?_) (fun h1 => ?_)))))
      ·refine qV (ypT rfl rfl) (zqm rfl (qV (yfa fl84_3 rfl) (qV (yld U82 rfl rfl aG rfl) (qV (yln U82 rfl) (qV (yfa fl84_1 rfl) (qV (yld U23 rfl rfl aG rfl) (qV (yln U23 rfl) (zqd rfl rfl (qV (yeq rfl rfl) (rVal_if (fun h2 => ?_) (fun h2 => ?_)))))))))))
       ·refine qV (ypT rfl rfl) (zqm rfl (qV (yfa fl84_3 rfl) (qV (yld U82 rfl rfl aG rfl) (qV (yln U82 rfl) (zqm rfl (qV (yle rfl rfl) (rVal_if (fun h3 => ?_) (fun h3 => ?_))))))))
        ·refine qV (ypT rfl rfl) (zqm rfl (qV (yfa fl84_3 rfl) (qV (yld U82 rfl rfl aG rfl) (zqc [.tmp 58, .const (Value.int .u32 0)] cf134 rfl (containsU_ret (l := cs) 0 (by omega) hb.cs (hc.ext aq) (by omega)) ?_)))); rintro _ w4 ⟨rfl, rfl⟩; refine qV ((by first | exact yntd rfl | exact ynt rfl)) ?_; refine qV (ypT rfl rfl) (zqa rfl (rEnd (Run.qb (e := [(4, _), (9, _)]) ?_))); refine run_inBlock ((fg _ _ ⟨_, rfl, ?_, Ext.refl _⟩).qb); by_cases BH : 0 ∈ cs
         ·have := bK (.inr (.inr (.inr (.inr BH))))
          simpa [BH] using this
         ·simp only [BH, decide_false, Bool.not_false, not_false_eq_true, decide_true, true_iff]; unfold NdOk; dsimp only; rw [if_neg fo]; refine ⟨(hB.1 bW).1, (hB.1 bW).2, ?_⟩; unfold innerOk; dsimp only; exact ⟨List.eq_nil_of_length_eq_zero (by omega), by omega, by omega, fun c ur e => BH (e ▸ ur)⟩
        ·refine qV (ypT rfl rfl) (zqm rfl (qS (qS (qS (qS (qV (ypF rfl rfl) (zqa rfl (rEnd (Run.qb (e := [(4, _), (9, _)]) ?_))))))))); refine run_inBlock ?_; exact (fg _ _ ⟨_, rfl, bK (.inr (.inr (.inr (.inl (by omega))))), Ext.refl _⟩).qb
       ·refine qV (ypT rfl rfl) (zqm rfl (qS (qS (qS (qS (qS (qV (ypF rfl rfl) (zqm rfl (qS (qS (qS (qS (qV (ypF rfl rfl) ?_))))))))))))); refine zqa rfl (rEnd (Run.qb (e := [(4, _), (9, _)]) ?_)); refine run_inBlock ?_; exact (fg _ _ ⟨_, rfl, bK (.inr (.inr (.inl (by omega)))), Ext.refl _⟩).qb
      ·refine qV (ypT rfl rfl) (zqm rfl (qS (qS (qS (qS (qS (qS (qS (qS (qV (ypF rfl rfl) (zqm rfl (qS (qS ?_))))))))))))); refine qS (qS (qS (qV (ypF rfl rfl) (zqm rfl (qS (qS (qS (qS (qV (ypF rfl rfl) (zqa rfl (rEnd (Run.qb (e := [(4, _), (9, _)]) ?_)))))))))))); refine run_inBlock ?_; exact (fg _ _ ⟨_, rfl, bK (.inr (.inl (fun e => h1 (by rw [e]; rfl)))), Ext.refl _⟩).qb
     ·refine qS (qS (qS (qS (qV (ypF rfl rfl) (zqm rfl (qS (qS (qS (qS (qS (qS (qS (qS ?_))))))))))))); refine qV (ypF rfl rfl) (zqm rfl (qS (qS (qS (qS (qS (qV (ypF rfl rfl) (zqm rfl (qS (qS (qS (qS (qV (ypF rfl rfl) ?_))))))))))))); refine zqa rfl (rEnd (Run.qb (e := [(4, _), (9, _)]) ?_)); refine run_inBlock ?_; exact (fg _ _ ⟨_, rfl, bK (.inl (fun h => by rw [hB.2 h] at bW; cases bW)), Ext.refl _⟩).qb
  case dN =>
   refine run_reg rfl (qV (yfa fl84_1 rfl) (qV (yld U23 rfl rfl ai rfl) (zqc [.tmp 24] cf132 rfl (pkeys_ret (hR.ext aa).keys b1) ?_))); rintro _ w1 ⟨rfl, rfl⟩; refine zqm rfl (rVal_if (fun h1 => ?_) (fun h1 => ?_))
   ·refine qV (yldA U84 rfl ti84 rfl (Blk.cells (n := 4) ai (news := [_, _, _, _]) rfl) rfl) (zqc [.tmp 27] cf70 rfl (bytes_ret _ _ _ _ _ (hR.ext aa) hb) ?_); rintro _ w3 ⟨rfl, ah⟩; refine zqm rfl (qV (yle rfl rfl) (qV (ypT rfl rfl) (zqa rfl (rEnd (Run.qb (e := [(2, _), (4, _), (5, _), (7, _), (9, _)]) ?_))))); refine (hk _ _ ⟨_, rfl, ?_, ah⟩).qb; rw [decide_eq_true_iff]; exact ⟨fun h => ⟨h1, by omega⟩, fun h => by have := h.2; omega⟩
   ·refine qS (qS (qS (qS (qV (ypF rfl rfl) (zqa rfl (rEnd (Run.qb (e := [(2, _), (4, _), (5, _), (7, _), (9, _)]) ?_))))))); exact (hk _ _ ⟨_, rfl, ⟨fun h => Bool.noConfusion h, fun h => absurd h.1 h1⟩, Ext.refl _⟩).qb

end Go.Proofs.YtocnhaoilnojmaaGreat
namespace Go.Proofs.YtocnhaoilnojmaaGreat
open Go Go.Proofs Go.Shelf
set_option linter.all false
def repA_ren : Go.Shelf.Ren := ⟨fun | 105 => 111 | 212 => 136 | 99 => 137 | 165 => 138 | 166 => 110 | 170 => 112 | 169 => 113 | 263 => 160 | 264 => 161 | 206 => 162 | 240 => 135 | 241 => 163 | 276 => 159 | 277 => 168 | n => n, fun | 9 => 9 | 3 => 3 | 4 => 4 | 20 => 20 | 0 => 0 | 46 => 118 | 109 => 178 | 5 => 5 | 72 => 152 | 76 => 156 | 51 => 89 | 146 => 199 | 53 => 175 | 148 => 201 | 70 => 150 | 37 => 123 | 75 => 155 | 127 => 180 | 164 => 197 | 80 => 160 | n => n, fun | n => n⟩
theorem repA : Go.Proofs.Lays.n105 Tryz.prog repA_ren := {
  mixed := by kernel_rfl
  f99 := Tryz.func137.trans (congrArg some (by kernel_rfl))
  f105 := Tryz.func111.trans (congrArg some (by kernel_rfl))
  f165 := Tryz.func138.trans (congrArg some (by kernel_rfl))
  f166 := Tryz.func110.trans (congrArg some (by kernel_rfl))
  f169 := Tryz.func113.trans (congrArg some (by kernel_rfl))
  f170 := Tryz.func112.trans (congrArg some (by kernel_rfl))
  f206 := Tryz.func162.trans (congrArg some (by kernel_rfl))
  f212 := Tryz.func136.trans (congrArg some (by kernel_rfl))
  f240 := Tryz.func135.trans (congrArg some (by kernel_rfl))
  f241 := Tryz.func163.trans (congrArg some (by kernel_rfl))
  f263 := Tryz.func160.trans (congrArg some (by kernel_rfl))
  f264 := Tryz.func161.trans (congrArg some (by kernel_rfl))
  f276 := Tryz.func159.trans (congrArg some (by kernel_rfl))
  f277 := Tryz.func168.trans (congrArg some (by kernel_rfl))
  t0 := Tryz.underlying0
  a0 := Tryz.isAgg0
  z0 := Tryz.sizeOf0
  v0 := Tryz.zeroValue0
  t3 := Tryz.underlying3
  a3 := Tryz.isAgg3
  z3 := Tryz.sizeOf3
  v3 := Tryz.zeroValue3
  t4 := Tryz.underlying4
  a4 := Tryz.isAgg4
  z4 := Tryz.sizeOf4
  v4 := Tryz.zeroValue4
  t5 := Tryz.underlying5
  a5 := Tryz.isAgg5
  z5 := Tryz.sizeOf5
  v5 := Tryz.zeroValue5
  t9 := Tryz.underlying9
  a9 := Tryz.isAgg9
  z9 := Tryz.sizeOf9
  v9 := Tryz.zeroValue9
  t20 := Tryz.underlying20
  a20 := Tryz.isAgg20
  z20 := Tryz.sizeOf20
  v20 := Tryz.zeroValue20
  t37 := Tryz.underlying123
  a37 := Tryz.isAgg123
  z37 := Tryz.sizeOf123
  v37 := Tryz.zeroValue123
  t46 := Tryz.underlying118
  a46 := Tryz.isAgg118
  z46 := Tryz.sizeOf118
  v46 := Tryz.zeroValue118
  t51 := Tryz.underlying89
  a51 := Tryz.isAgg89
  z51 := Tryz.sizeOf89
  v51 := Tryz.zeroValue89
  t53 := Tryz.underlying175
  a53 := Tryz.isAgg175
  z53 := Tryz.sizeOf175
  v53 := Tryz.zeroValue175
  t70 := Tryz.underlying150
  a70 := Tryz.isAgg150
  z70 := Tryz.sizeOf150
  v70 := Tryz.zeroValue150
  t72 := Tryz.underlying152
  a72 := Tryz.isAgg152
  z72 := Tryz.sizeOf152
  v72 := Tryz.zeroValue152
  t75 := Tryz.underlying155
  a75 := Tryz.isAgg155
  z75 := Tryz.sizeOf155
  v75 := Tryz.zeroValue155
  t76 := Tryz.underlying156
  a76 := Tryz.isAgg156
  z76 := Tryz.sizeOf156
  v76 := Tryz.zeroValue156
  t109 := Tryz.underlying178
  a109 := Tryz.isAgg178
  z109 := Tryz.sizeOf178
  v109 := Tryz.zeroValue178
  t127 := Tryz.underlying180
  a127 := Tryz.isAgg180
  z127 := Tryz.sizeOf180
  v127 := Tryz.zeroValue180
  t146 := Tryz.underlying199
  a146 := Tryz.isAgg199
  z146 := Tryz.sizeOf199
  v146 := Tryz.zeroValue199
  t148 := Tryz.underlying201
  a148 := Tryz.isAgg201
  z148 := Tryz.sizeOf201
  v148 := Tryz.zeroValue201
  t164 := Tryz.underlying197
  a164 := Tryz.isAgg197
  z164 := Tryz.sizeOf197
  v164 := Tryz.zeroValue197 }
end Go.Proofs.YtocnhaoilnojmaaGreat
namespace Go.Proofs.YtocnhaoilnojmaaGreat
open Go Go.RowKit
set_option linter.all false
set_option maxRecDepth 100000
def keyOk (k : Bytes) : Prop := 1 ≤ k.length ∧ k.length ≤ 64
instance (k : Bytes) : Decidable (keyOk k) := by unfold keyOk; infer_instance
def getR (es : Es) (k : Bytes) : Bytes × Int := if keyOk k then (match getE es k with | some v => (v, 0) | none => ([], 6)) else ([], 1)
theorem getE_some {es : Es} {k v : Bytes} (h : hasE es k) (hv : (es.map (·.2))[posE es k]? = some v) : getE es k = some v := by
 unfold getE; rw [if_pos h, ← hv, List.getElem?_map]
theorem getE_none {es : Es} {k : Bytes} (h : ¬ hasE es k) : getE es k = none := by unfold getE; rw [if_neg h]
theorem Ch.first {S : Int → Bytes → Option Bytes → List Int → Es → Prop} {lo : Bytes} {hi : Option Bytes} {c : Nat} {ps : List (Bytes × Nat)} {ns : List Int} {es : Es} (h : Ch S lo hi c ps ns es) : ∃ u n e, S (c : Int) lo u n e := by
 cases ps with
 | nil => exact ⟨_, _, _, h⟩
 | cons q r => obtain ⟨n1, n2, e1, e2, -, -, h1, -⟩ := h; exact ⟨_, _, _, h1⟩
section
variable {w : World} {p : Nat} {T : Tr} {nb : Int → Nat} {F : Nat → Prop}
set_option maxHeartbeats 1000000 in
theorem get_ret (h : TreeA w p T nb F) {H : Nat} {ns : List Int} {es : Es} (hI : Inv T H ns es) (k : Bytes) :
  Ret Tryz.prog 42 [ptr p 0, S k] w fun v w' => v = .tuple #[S (getR es k).1, I (getR es k).2] ∧ Ext w w' := by
 refine ret_of_run (e := [(0, _), (1, _)]) Tryz.func42 rfl Tryz.ntmps42 rfl rfl (qN rfl (zqa rfl (zqa rfl (rEnd (run_seq (run_block (qN rfl (zqm rfl (qV (yeqpN U24 rfl rfl) (zqa rfl (rEnd (run_false rfl (qN rfl ?_)))))))))))))
 refine zqm rfl (zqc [.tmp 13] cf66 rfl (key_ret k _) ?_)
 rintro _ w1 ⟨rfl, rfl⟩
 refine qV ((by first | exact yntd rfl | exact ynt rfl)) ?_
 refine zqa rfl (rEnd (run_cond rfl (fun hk => ?_) (fun hk => ?_)))
 ·refine qN rfl (zqa rfl (zqa rfl (rEnd (run_ret Tryz.func42 rfl ?_)))); have br : ¬ keyOk k := of_decide_eq_true hk; refine ⟨_, rfl, ?_, Ext.refl _⟩; unfold getR; rw [if_neg br]; rfl
 ·have br : keyOk k := Decidable.not_not.1 (of_decide_eq_false hk); refine run_skip (run_inBlock (run_seq (qN rfl (zqm rfl (zqm rfl (zqc [.tmp 16, .tmp 17] cf74 rfl (leaf_ret h hI k) ?_)))))); rintro v1 w1 ⟨aa, fZ⟩; rcases fZ with ⟨hr, rfl⟩ | ⟨x, E, e1, e2, rfl, hn, aQ, ib, jC, gp⟩
  ·refine zqa rfl (qM rfl (zqm rfl (qV (ynepN U81 rfl rfl) (rEnd (run_false rfl (run_skip (qN rfl (zqa rfl (zqa rfl (rEnd (run_ret Tryz.func42 rfl ?_))))))))))); rcases hI.std with ⟨-, -, -, rfl⟩ | ⟨kT, -⟩
   ·refine ⟨_, rfl, ?_, aa⟩; unfold getR; rw [if_pos br]
    rfl
   ·exact absurd hr kT
  ·obtain ⟨q, hq, hM, -, -⟩ := (h.ext aa).node hn; obtain ⟨qb, qk, qv, qc⟩ := q; dsimp only at hq; subst hq; have hB := hM.blk; have hV := hM.vals; dsimp only at hB hV; have iQ : getE es k = getE E k := by rw [ib, getE_mid jC gp]
   have dt : E.length ≤ 100000 := by have := hM.bd.kl; simpa [leafNd] using this
   have hp : pos (leafNd E).keys k = posE E k := rfl; refine zqa rfl (qM rfl (zqm rfl (qV (ynepN U81 rfl rfl) (rEnd (run_true rfl (qN rfl (zqm rfl (qV (ynk rfl) (qV (yfa fl84_1 rfl) (qV (yld U23 rfl rfl hB rfl) (zqm rfl (zqc [.tmp 25, .tmp 26] cf44 rfl (bsearch_ret (leafNd E).keys k qk _ hM.r.keys (by simp [leafNd]; omega) aQ.rise) ?_)))))))))))); rintro _ w2 ⟨rfl, rfl⟩; rw [hp]; refine zqm rfl (qV (yex rfl rfl) (qV (yex rfl rfl) (zqa rfl (zqa rfl (rEnd (Run.qb (e := [(4, _), (5, _), (6, _), (7, _), (8, _)]) ?_)))))); refine qN rfl (zqm rfl (rEnd (run_cond rfl (fun hf => ?_) (fun hf => ?_))))
   ·have bo : hasE E k := of_decide_eq_true hf; have af := hasE_lt bo; have ei : (leafNd E).vals.length = E.length := by simp [leafNd]
    rw [ei] at hV; obtain ⟨gv, cv, rfl⟩ := some_of hV (by omega); obtain ⟨v, hv⟩ : ∃ v, (E.map (·.2))[posE E k]? = some v := ⟨_, List.getElem?_eq_getElem (by simpa using af)⟩; refine qN rfl (zqm rfl (qV (ynk rfl) (qV (yfa fl84_2 rfl) (qV (yld U23 rfl rfl hB rfl) (zqm rfl (qV (yis U23 ti9 rfl rfl (by omega)) (qV (yldc U9 rfl rfl (rd_str (hV.rd) af hv)) (zqa rfl (zqa rfl (rEnd (run_ret Tryz.func42 rfl (⟨_, rfl, ?_, aa⟩)))))))))))); unfold getR; rw [if_pos br, iQ, getE_some bo hv]
    rfl
   ·have bo : ¬ hasE E k := of_decide_eq_false hf; refine run_skip (qN rfl (zqa rfl (zqa rfl (rEnd (run_ret Tryz.func42 rfl (⟨_, rfl, ?_, aa⟩)))))); unfold getR; rw [if_pos br, iQ, getE_none bo]
    rfl
set_option maxHeartbeats 1000000 in
theorem depth_ret (h : TreeA w p T nb F) {H : Nat} {ns : List Int} {es : Es} (hI : Inv T H ns es) (hH : H ≤ 1000000) :
  Ret Tryz.prog 20 [ptr p 0] w fun v w' => v = I (H : Int) ∧ w' = w := by
 have hz : sizeOk (T.size : Int) := size_ok h
 obtain ⟨z1, z2, -⟩ := id hz
 obtain ⟨mN, mC, mO, gv, kn, kc, ko, O⟩ := h.opn
 refine ret_of_run (e := [(0, _)]) Tryz.func20 rfl Tryz.ntmps20 rfl rfl (qN rfl (zqa rfl (rEnd (run_seq (qN rfl (zqm rfl (qV (yeqpN U24 rfl rfl) (rEnd (run_false rfl (run_skip (qN rfl (zqa rfl (rEnd ?_)))))))))))))
 refine run_seq (qN rfl (zqm rfl (qV (ynk rfl) (qV (yfa fl74_1 rfl) (qV (yld U3 rfl rfl O.blk rfl) (zqa rfl (rEnd (run_block (zqu (α := Nat × Int × Int) ((H, T.root, 0)) (fun x => [(0, ptr p 0), (2, I 0), (3, I x.2.2), (4, I x.2.1)]) (fun x w' => w' = w ∧ x.1 ≤ H ∧ x.2.2 = H - x.1 ∧ ((x.1 = 0 ∧ x.2.1 = 0) ∨ ∃ lo hi ns' em, Bn T.size T.nodes x.1 x.2.1 lo hi ns' em)) (fun x => x.1) ?hI ?hround)))))))))
 case hI =>
  refine ⟨rfl, Nat.le_refl _, by simp, ?_⟩; rcases hI.std with ⟨a, b, -⟩ | ⟨-, -, hB, -⟩
  ·exact .inl ⟨b, a⟩
  ·exact .inr ⟨_, _, _, _, hB⟩
 case hround =>
  rintro ⟨h', x, d⟩ _ ⟨rfl, dt, hd, hc⟩ ih; dsimp only at dt hd hc
  try dsimp only
  refine run_seq (qN rfl (zqm rfl (qV (yne rfl rfl) (rEnd (run_if rfl (fun hx => ?_) (fun hx => ?_))))))
  ·rcases hc with ⟨-, e⟩ | ⟨lo, hi, ns', em, cW⟩
   ·exact absurd e hx
   have iR := cW.pos; rcases Nat.eq_or_lt_of_le iR with e | e
   ·subst e; obtain ⟨hn, -⟩ := cW.leaf (by omega); obtain ⟨q, hq, hM, fj, -⟩ := h.node hn; have ar := hM.blk; rw [hq] at ar; refine run_skip (run_seq (run_block (qN rfl (zqm rfl (qV (ynk rfl) (qV (yfa fl74_5 rfl) (qV ((by first | exact yld U71 rfl rfl O.blk rfl | exact yld U71 rfl rfl ar rfl)) ?_))))))); refine zqm rfl (qV (ylk (k := x) (K := KZ) U71 (ky_int U3) ti81 rfl rfl O.nm.l) ?_); rw [show (getL kn x).getD (.pointer none) = ptr (nb x) 0 by rw [O.ng x, hn]; rfl]; refine zqa rfl (qM rfl (zqa rfl (qM rfl (zqm rfl (qV (ynk rfl) (qV (yfa fl84_0 rfl) (qV ((by first | exact yld U4 rfl rfl O.blk rfl | exact yld U4 rfl rfl ar rfl)) ?_))))))); refine qV ((by first | exact yntd rfl | exact ynt rfl)) ?_; refine rEnd (run_false rfl (run_skip (run_inBlock (run_reg rfl (zqm rfl (zqd rfl rfl (zqa rfl (rEnd ?_)))))))); exact (ih (0, 0, d + 1) _ ⟨rfl, Nat.zero_le _, by dsimp only; omega, .inl ⟨rfl, rfl⟩⟩ (by dsimp only; omega)).qb
   ·obtain ⟨h2, rfl⟩ : ∃ h2, h' = h2 + 2 := ⟨h' - 2, by omega⟩; obtain ⟨c, ps, ns1, hn, rfl, -, -, -, -, -, jD⟩ := Bn.inner (by omega) cW; obtain ⟨u, n1, e1, yN⟩ := jD.first; obtain ⟨q, hq, hM, fj, -⟩ := h.node hn; obtain ⟨qb, qk, qv, qc⟩ := q; dsimp only at hq; subst hq; have ar := hM.blk; have ia := hM.kids; dsimp only at ar ia; have kcl : (innNd c ps).kids.length = ps.length + 1 := by simp [innNd]
    rw [kcl] at ia; obtain ⟨gc, cc, rfl⟩ := some_of ia (by omega); have cM := hM.bd.cs c (by simp [innNd]); refine run_skip (run_seq (run_block (qN rfl (zqm rfl (qV (ynk rfl) (qV (yfa fl74_5 rfl) (qV ((by first | exact yld U71 rfl rfl O.blk rfl | exact yld U71 rfl rfl ar rfl)) ?_))))))); refine zqm rfl (qV (ylk (k := x) (K := KZ) U71 (ky_int U3) ti81 rfl rfl O.nm.l) ?_); rw [show (getL kn x).getD (.pointer none) = ptr (nb x) 0 by rw [O.ng x, hn]; rfl]; refine zqa rfl (qM rfl (zqa rfl (qM rfl (zqm rfl (qV (ynk rfl) (qV (yfa fl84_0 rfl) (qV ((by first | exact yld U4 rfl rfl O.blk rfl | exact yld U4 rfl rfl ar rfl)) ?_))))))); refine qV ((by first | exact yntd rfl | exact ynt rfl)) ?_; refine rEnd (run_true rfl (run_reg rfl (zqm rfl (qV (ynk rfl) (qV (yfa fl84_3 rfl) (qV ((by first | exact yld U82 rfl rfl O.blk rfl | exact yld U82 rfl rfl ar rfl)) ?_)))))); refine qV (yis U82 ti89 rfl rfl (by omega)) (qV (yldc U89 rfl rfl (rd_u32 (s := c) (ia.rd) (by omega) rfl)) (qV (ycvSi64 rfl U89 U3 (by omega)) (zqa rfl (rEnd (run_inBlock (run_reg rfl (zqm rfl (zqd rfl rfl (zqa rfl (rEnd ?_)))))))))); exact (ih (h2 + 1, (c : Int), d + 1) _ ⟨rfl, by dsimp only; omega, by dsimp only; omega, .inr ⟨_, _, _, _, yN⟩⟩ (by dsimp only; omega)).qb
  ·rcases hc with ⟨e, -⟩ | ⟨lo, hi, ns', em, cW⟩
   ·subst e; refine run_exit rfl (qN rfl (zqm rfl (zqa rfl (rEnd (run_ret Tryz.func20 rfl ?_))))); exact ⟨_, rfl, by simp [resVal]; omega, rfl⟩
   ·exfalso; have := hI.num x (Bn.some cW _ cW.mem); omega
theorem need_ret (h : TreeA w p T nb F) {H : Nat} {ns : List Int} {es : Es} (hI : Inv T H ns es) (hH : H ≤ 1000000) :
  Ret Tryz.prog 25 [ptr p 0] w fun v w' => v = I ((H + 1 : Nat) : Int) ∧ w' = w := by
 refine ret_of_run (e := [(0, _)]) Tryz.func25 rfl Tryz.ntmps25 rfl rfl (qN rfl (zqa rfl (rEnd (run_seq (qN rfl (zqm rfl (qV (yeqpN U24 rfl rfl) (rEnd (run_false rfl (run_skip (qN rfl (zqm rfl (zqc [.tmp 5] cf20 rfl (depth_ret h hI hH) ?_)))))))))))))
 rintro _ w1 ⟨rfl, rfl⟩
 refine zqd rfl rfl (zqa rfl (rEnd (run_ret Tryz.func25 rfl ?_)))
 exact ⟨_, rfl, by simp [resVal], rfl⟩
end
end Go.Proofs.YtocnhaoilnojmaaGreat
