/- Texts R8B, R8D, R8E, TrKe, TrDl, LwA, LwB, LwP, LwS, LwT, LwN, LwQ, LwE, one behind the other (what the statement TreeShape does not use is left out). -/
import Derived.Test.YtocnhaoilnojmaaGreatTSp1
import Derived.Test.YtocnhaoilnojmaaGreatTSp7
import Derived.Test.YtocnhaoilnojmaaGreatTSp6
import Derived.Test.YtocnhaoilnojmaaGreatTSp5
import Derived.Test.YtocnhaoilnojmaaGreatTSp4
import Derived.Laws.StructEq
import Derived.ChangeKeysEq
namespace Go.Proofs.YtocnhaoilnojmaaGreat
open Go Go.RowKit
set_option linter.all false
set_option maxRecDepth 100000
def MpS (q : Nat) (w w' : World) (es' : Es) : Prop := ∃ mv', MpM w' q mv' es' ∧ Kp (fun k => k = q) w w' ∧ ∀ g, mv'.ownBlock = some g → w.heap.size ≤ g
theorem esC_one1 (es : Es) : ∀ c ∈ esC es, c.oneCell' = true := fun c hc => by
 obtain ⟨x, -, hx⟩ := List.mem_flatMap.1 hc
 simp at hx
 rcases hx with rfl | rfl <;> rfl
section
variable {w : World} {q : Nat} {mv : Value} {es : Es}
set_option maxHeartbeats 4000000 in
theorem putM_ret (h : MpM w q mv es) (hl : es.length + 1 ≤ 1000000) (k v : Bytes) : Ret Tryz.prog 39 [ptr q 0, S k, S v] w fun u w' => u = .tuple #[] ∧ MpS q w w' (insE es k v) := by
 have wG := at_ret h k
 have cE := insE_len es k v
 obtain ⟨a, c, rfl, -⟩ := h.sl.rd.shape
 have hB := h.blk
 have hR := h.sl.rd
 have dv := posE_le es k
 have EK := hB.lt
 have dt := h.le
 have dl : es.length ≤ c := by
  rcases h.sl.shape with ⟨e, e0⟩ | ⟨g, cap, e, e1⟩
  ·omega
  ·cases e; exact e1
 have dL : maxLen = 9223372036854775807 := rfl
 obtain ⟨pv, wH, nF⟩ := rd_pre hR dv
 rw [esC_take] at nF
 refine ret_of_run (e := [(0, _), (1, _), (2, _)]) Tryz.func39 rfl Tryz.ntmps39 rfl rfl (qN rfl (zqm rfl (zqm rfl (zqc [.tmp 7, .tmp 8] cf41 rfl (wG) ?_))))
 rintro _ w1 ⟨rfl, rfl⟩
 refine zqa rfl (rEnd (run_seq (run_seq (run_cut (fun e' w' => ∃ f : Bool, e' = [(0, ptr q 0), (1, S k), (2, S v), (6, I ((posE es k : Nat) : Int)), (28, .bool f)] ∧ w' = w1 ∧ (f = true ↔ hasE es k)) ?ot (fun ot => ?wI)))))
 case ot =>
  rintro e' w1 ⟨f, rfl, rfl, hf⟩; have hg := Ext.drew0 w1; refine run_cond rfl (fun ju => ?_) (fun ju => ?_)
  ·have bo := hf.1 ju; have af := hasE_lt bo; obtain ⟨sv, nK, lV⟩ := rd_suf (i := posE es k + 1) hR (by omega) dl; rw [esC_drop] at lV; refine run_seq (run_drawL [24] (fun w' => Ext w1 w') (by kernel_rfl) rfl (qL [22, 23, 24] 0 rfl (fun _ h=>ymv rfl) hg (qL [3, 4, 5, 7, 8, 13, 21, 22, 23, 24] 2 rfl (fun _ h=>ymv rfl) hg (qL [4, 5, 7, 8, 13, 21, 22, 23, 24] 3 rfl (fun _ h=>ynk rfl) hg (qL [5, 7, 8, 13, 21, 22, 23, 24] 4 rfl (fun _ h=>yfa fl32_0 rfl) hg (qL [7, 8, 13, 21, 22, 23, 24] 5 rfl (fun _ h=>yld U30 rfl rfl (h.blk hB) rfl) hg (qL [7, 8, 13, 21, 22, 23, 24] 6 rfl (fun _ h=>ymv rfl) hg (qL [11, 12, 13, 21, 22, 23, 24] 9 rfl (fun _ h=>ymv rfl) hg (qL [11, 12, 13, 21, 22, 23, 24] 10 rfl (fun _ h=>ymv rfl) hg (qL [12, 13, 21, 22, 23, 24] 11 rfl (fun _ h=>ybd (parts := [(0, .tmp 38), (1, .tmp 39)]) (cs := [_, _]) ti41 rfl sp41 rfl rfl) hg (qL [15, 16, 17, 20, 21, 22, 23, 24] 14 rfl (fun _ h=>ymv rfl) hg (qL [16, 17, 20, 21, 22, 23, 24] 15 rfl (fun _ h=>ynk rfl) hg (qL [17, 20, 21, 22, 23, 24] 16 rfl (fun _ h=>yfa fl32_0 rfl) hg ?_))))))))))))); refine qL [20, 21, 22, 23, 24] 17 rfl (fun _ h=>yld U30 rfl rfl (h.blk hB) rfl) hg (qL [19, 20, 21, 22, 23, 24] 18 rfl (fun _ h=>ymv rfl) hg (qL [20, 21, 22, 23, 24] 19 rfl (fun _ h=>yad rfl rfl (by omega)) hg (qL [8, 13, 21, 22, 23, 24] 7 rfl (fun _ h=>yslT U30 ti41 rfl rfl (by omega) wH) hg (qL [21, 22, 23, 24] 20 rfl (fun _ h=>yslF U30 ti41 rfl rfl (by omega) dl nK) hg (hTwoL (i := 1) (j := 12) (by kernel_rfl) ?_ ?_)))))
   ·refine nValPL (i := 1) rfl rfl rfl (pbs (parts := []) (cs := []) (zs := []) U30 ti41 rfl (by kernel_rfl) rfl rfl rfl (by decide)) ?_; rintro _ w2 ⟨b2, rfl, ⟨cQ, ae, ak⟩, bB⟩; refine ⟨hg.trans ae, ?_⟩; have jX : w1.heap.size ≤ b2 := by have := hg.size; omega
    have fF := ak.lt; have hg := hg.trans ae
    try have cf := cf.ext ae
    refine hTwoL (i := 8) (j := 12) (by kernel_rfl) ?_ ?_
    ·refine nValPL (i := 8) rfl rfl rfl (pap U30 ti41 rfl (by decide) rfl rfl bB (nF.ext hg) (esC_one1 _) (by omega) (by omega)) ?_; rintro v3 w3 ⟨bs, aw, gu, -⟩; refine ⟨hg.trans_new aw (fun i hi => by have e : b2 = i := oinj hi; omega), ?_⟩
     have e8 : ∀ g, v3.ownBlock = some g → w1.heap.size ≤ g := fun g aA => by
      have := hg.size; rcases gu g aA with e | e
      ·have e : b2 = g := oinj e; omega
      ·omega
     try have cf := cf.kp aw (fun g aA e => by have e : b2 = g := oinj e; have e' : b5 = g := oinj aA; omega)
     have hg := hg.trans_new aw (fun i hi => by have e : b2 = i := oinj hi; omega); rw [List.nil_append, Nat.zero_add] at bs; refine hOneL (i := 12) (by kernel_rfl) (nValPL (i := 12) rfl rfl rfl (pbs (parts := [(0, .tmp 40)]) (cs := [_, _]) (zs := [Value.string ⟨#[]⟩, Value.string ⟨#[]⟩]) U30 ti41 rfl (by kernel_rfl) rfl rfl rfl (by decide)) ?_); rintro _ w5 ⟨b5, rfl, ⟨rD, aJ, bx⟩, cf⟩; refine ⟨hg.trans aJ, ?_⟩; have hg := hg.trans aJ; have kw := bx.lt
     try have bB := bB.ext aJ
     try have bs := bs.ext aJ
     refine hOneL (i := 13) (by kernel_rfl) (nValPL (i := 13) rfl rfl rfl (pap U30 ti41 rfl (by decide) rfl rfl bs cf.rd (by intro c hc; simp at hc; rcases hc with rfl | rfl <;> rfl) (by omega) (by omega)) ?_); rintro v6 w6 ⟨fW, bX, nG, -⟩; refine ⟨hg.trans_new bX (fun i hi => e8 i hi), ?_⟩
     have gy : ∀ g, v6.ownBlock = some g → w1.heap.size ≤ g := fun g aA => by
      have := hg.size; rcases nG g aA with e | e
      ·exact e8 g e
      ·omega
     have hg := hg.trans_new bX (fun i hi => e8 i hi); refine hOneL (i := 21) (by kernel_rfl) (nValPL (i := 21) rfl rfl rfl (pap U30 ti41 rfl (by decide) rfl rfl fW (lV.ext hg) (esC_one1 _) (by omega) (by omega)) ?_); rintro v7 w7 ⟨cX, bg, km, -⟩; refine ⟨hg.trans_new bg (fun i hi => gy i hi), ?_⟩
     have ez : ∀ g, v7.ownBlock = some g → w1.heap.size ≤ g := fun g aA => by
      have := hg.size; rcases km g aA with e | e
      ·exact gy g e
      ·omega
     have hg := hg.trans_new bg (fun i hi => gy i hi); refine qL [23, 24] 22 rfl (fun _ h=>ynk rfl) hg (qL [24] 23 rfl (fun _ h=>yfa fl32_0 rfl) hg (hLate [24] (by kernel_rfl) (by kernel_rfl) (qO 24 (nEffP (i := 24) rfl rfl (zst ti30 rfl rfl (oneV_sl cX) (hg.blk hB) (by simp)) ?_)))); rintro w8 ⟨d8, bc⟩; refine ⟨trivial, ?_⟩; refine qE (Run.qb (e := [(0, _), (1, _), (2, _), (6, _)]) ?_); have fH : Kp (fun k => k = q) w1 w8 := hg.kp.trans bc
     have nH : MpM w8 q v7 (insE es k v) := ⟨d8, by
      have := cX.kp bc (fun g aA e => by have := ez g aA; omega); rw [show insE es k v = es.take (posE es k) ++ [(k, v)] ++ es.drop (posE es k + 1) by unfold insE; rw [if_pos bo]; simp]; rw [esC_app, esC_app, esC_one, List.length_append, List.length_append, List.length_take, List.length_drop, Nat.min_eq_left dv]
      exact this, fun e => by have := ez q e; omega, by rw [cE]; split <;> omega⟩
     refine run_ret Tryz.func39 rfl ?_; exact ⟨_, rfl, rfl, ⟨_, nH, fH, ez⟩⟩
    ·refine nValPL (i := 12) rfl rfl rfl (pbs (parts := [(0, .tmp 40)]) (cs := [_, _]) (zs := [Value.string ⟨#[]⟩, Value.string ⟨#[]⟩]) U30 ti41 rfl (by kernel_rfl) rfl rfl rfl (by decide)) ?_; rintro _ w5 ⟨b5, rfl, ⟨rD, aJ, bx⟩, cf⟩; refine ⟨hg.trans aJ, ?_⟩; have hg := hg.trans aJ; have kw := bx.lt
     try have bB := bB.ext aJ
     try have bs := bs.ext aJ
     refine hOneL (i := 8) (by kernel_rfl) (nValPL (i := 8) rfl rfl rfl (pap U30 ti41 rfl (by decide) rfl rfl bB (nF.ext hg) (esC_one1 _) (by omega) (by omega)) ?_); rintro v3 w3 ⟨bs, aw, gu, -⟩; refine ⟨hg.trans_new aw (fun i hi => by have e : b2 = i := oinj hi; omega), ?_⟩
     have e8 : ∀ g, v3.ownBlock = some g → w1.heap.size ≤ g := fun g aA => by
      have := hg.size; rcases gu g aA with e | e
      ·have e : b2 = g := oinj e; omega
      ·omega
     try have cf := cf.kp aw (fun g aA e => by have e : b2 = g := oinj e; have e' : b5 = g := oinj aA; omega)
     have hg := hg.trans_new aw (fun i hi => by have e : b2 = i := oinj hi; omega); rw [List.nil_append, Nat.zero_add] at bs; refine hOneL (i := 13) (by kernel_rfl) (nValPL (i := 13) rfl rfl rfl (pap U30 ti41 rfl (by decide) rfl rfl bs cf.rd (by intro c hc; simp at hc; rcases hc with rfl | rfl <;> rfl) (by omega) (by omega)) ?_); rintro v6 w6 ⟨fW, bX, nG, -⟩; refine ⟨hg.trans_new bX (fun i hi => e8 i hi), ?_⟩
     have gy : ∀ g, v6.ownBlock = some g → w1.heap.size ≤ g := fun g aA => by
      have := hg.size; rcases nG g aA with e | e
      ·exact e8 g e
      ·omega
     have hg := hg.trans_new bX (fun i hi => e8 i hi); refine hOneL (i := 21) (by kernel_rfl) (nValPL (i := 21) rfl rfl rfl (pap U30 ti41 rfl (by decide) rfl rfl fW (lV.ext hg) (esC_one1 _) (by omega) (by omega)) ?_); rintro v7 w7 ⟨cX, bg, km, -⟩; refine ⟨hg.trans_new bg (fun i hi => gy i hi), ?_⟩
     have ez : ∀ g, v7.ownBlock = some g → w1.heap.size ≤ g := fun g aA => by
      have := hg.size; rcases km g aA with e | e
      ·exact gy g e
      ·omega
     have hg := hg.trans_new bg (fun i hi => gy i hi); refine qL [23, 24] 22 rfl (fun _ h=>ynk rfl) hg (qL [24] 23 rfl (fun _ h=>yfa fl32_0 rfl) hg (hLate [24] (by kernel_rfl) (by kernel_rfl) (qO 24 (nEffP (i := 24) rfl rfl (zst ti30 rfl rfl (oneV_sl cX) (hg.blk hB) (by simp)) ?_)))); rintro w8 ⟨d8, bc⟩; refine ⟨trivial, ?_⟩; refine qE (Run.qb (e := [(0, _), (1, _), (2, _), (6, _)]) ?_); have fH : Kp (fun k => k = q) w1 w8 := hg.kp.trans bc
     have nH : MpM w8 q v7 (insE es k v) := ⟨d8, by
      have := cX.kp bc (fun g aA e => by have := ez g aA; omega); rw [show insE es k v = es.take (posE es k) ++ [(k, v)] ++ es.drop (posE es k + 1) by unfold insE; rw [if_pos bo]; simp]; rw [esC_app, esC_app, esC_one, List.length_append, List.length_append, List.length_take, List.length_drop, Nat.min_eq_left dv]
      exact this, fun e => by have := ez q e; omega, by rw [cE]; split <;> omega⟩
     refine run_ret Tryz.func39 rfl ?_; exact ⟨_, rfl, rfl, ⟨_, nH, fH, ez⟩⟩
   ·refine nValPL (i := 12) rfl rfl rfl (pbs (parts := [(0, .tmp 40)]) (cs := [_, _]) (zs := [Value.string ⟨#[]⟩, Value.string ⟨#[]⟩]) U30 ti41 rfl (by kernel_rfl) rfl rfl rfl (by decide)) ?_; rintro _ w5 ⟨b5, rfl, ⟨rD, aJ, bx⟩, cf⟩; refine ⟨hg.trans aJ, ?_⟩; have hg := hg.trans aJ; have kw := bx.lt
    try have bB := bB.ext aJ
    try have bs := bs.ext aJ
    refine hOneL (i := 1) (by kernel_rfl) (nValPL (i := 1) rfl rfl rfl (pbs (parts := []) (cs := []) (zs := []) U30 ti41 rfl (by kernel_rfl) rfl rfl rfl (by decide)) ?_); rintro _ w2 ⟨b2, rfl, ⟨cQ, ae, ak⟩, bB⟩; refine ⟨hg.trans ae, ?_⟩; have jX : w1.heap.size ≤ b2 := by have := hg.size; omega
    have fF := ak.lt; have hg := hg.trans ae
    try have cf := cf.ext ae
    refine hOneL (i := 8) (by kernel_rfl) (nValPL (i := 8) rfl rfl rfl (pap U30 ti41 rfl (by decide) rfl rfl bB (nF.ext hg) (esC_one1 _) (by omega) (by omega)) ?_); rintro v3 w3 ⟨bs, aw, gu, -⟩; refine ⟨hg.trans_new aw (fun i hi => by have e : b2 = i := oinj hi; omega), ?_⟩
    have e8 : ∀ g, v3.ownBlock = some g → w1.heap.size ≤ g := fun g aA => by
     have := hg.size; rcases gu g aA with e | e
     ·have e : b2 = g := oinj e; omega
     ·omega
    try have cf := cf.kp aw (fun g aA e => by have e : b2 = g := oinj e; have e' : b5 = g := oinj aA; omega)
    have hg := hg.trans_new aw (fun i hi => by have e : b2 = i := oinj hi; omega); rw [List.nil_append, Nat.zero_add] at bs; refine hOneL (i := 13) (by kernel_rfl) (nValPL (i := 13) rfl rfl rfl (pap U30 ti41 rfl (by decide) rfl rfl bs cf.rd (by intro c hc; simp at hc; rcases hc with rfl | rfl <;> rfl) (by omega) (by omega)) ?_); rintro v6 w6 ⟨fW, bX, nG, -⟩; refine ⟨hg.trans_new bX (fun i hi => e8 i hi), ?_⟩
    have gy : ∀ g, v6.ownBlock = some g → w1.heap.size ≤ g := fun g aA => by
     have := hg.size; rcases nG g aA with e | e
     ·exact e8 g e
     ·omega
    have hg := hg.trans_new bX (fun i hi => e8 i hi); refine hOneL (i := 21) (by kernel_rfl) (nValPL (i := 21) rfl rfl rfl (pap U30 ti41 rfl (by decide) rfl rfl fW (lV.ext hg) (esC_one1 _) (by omega) (by omega)) ?_); rintro v7 w7 ⟨cX, bg, km, -⟩; refine ⟨hg.trans_new bg (fun i hi => gy i hi), ?_⟩
    have ez : ∀ g, v7.ownBlock = some g → w1.heap.size ≤ g := fun g aA => by
     have := hg.size; rcases km g aA with e | e
     ·exact gy g e
     ·omega
    have hg := hg.trans_new bg (fun i hi => gy i hi); refine qL [23, 24] 22 rfl (fun _ h=>ynk rfl) hg (qL [24] 23 rfl (fun _ h=>yfa fl32_0 rfl) hg (hLate [24] (by kernel_rfl) (by kernel_rfl) (qO 24 (nEffP (i := 24) rfl rfl (zst ti30 rfl rfl (oneV_sl cX) (hg.blk hB) (by simp)) ?_)))); rintro w8 ⟨d8, bc⟩; refine ⟨trivial, ?_⟩; refine qE (Run.qb (e := [(0, _), (1, _), (2, _), (6, _)]) ?_); have fH : Kp (fun k => k = q) w1 w8 := hg.kp.trans bc
    have nH : MpM w8 q v7 (insE es k v) := ⟨d8, by
     have := cX.kp bc (fun g aA e => by have := ez g aA; omega); rw [show insE es k v = es.take (posE es k) ++ [(k, v)] ++ es.drop (posE es k + 1) by unfold insE; rw [if_pos bo]; simp]; rw [esC_app, esC_app, esC_one, List.length_append, List.length_append, List.length_take, List.length_drop, Nat.min_eq_left dv]
     exact this, fun e => by have := ez q e; omega, by rw [cE]; split <;> omega⟩
    refine run_ret Tryz.func39 rfl ?_; exact ⟨_, rfl, rfl, ⟨_, nH, fH, ez⟩⟩
  ·have bo : ¬ hasE es k := fun e => by rw [hf.2 e] at ju; cases ju
   obtain ⟨sv, nK, lV⟩ := rd_suf (i := posE es k) hR (by omega) dl; rw [esC_drop] at lV; refine run_skip (run_drawL [23] (fun w' => Ext w1 w') (by kernel_rfl) rfl (qL [21, 22, 23] 0 rfl (fun _ h=>ymv rfl) hg (qL [3, 4, 5, 7, 8, 13, 20, 21, 22, 23] 2 rfl (fun _ h=>ymv rfl) hg (qL [4, 5, 7, 8, 13, 20, 21, 22, 23] 3 rfl (fun _ h=>ynk rfl) hg (qL [5, 7, 8, 13, 20, 21, 22, 23] 4 rfl (fun _ h=>yfa fl32_0 rfl) hg (qL [7, 8, 13, 20, 21, 22, 23] 5 rfl (fun _ h=>yld U30 rfl rfl (h.blk hB) rfl) hg (qL [7, 8, 13, 20, 21, 22, 23] 6 rfl (fun _ h=>ymv rfl) hg (qL [11, 12, 13, 20, 21, 22, 23] 9 rfl (fun _ h=>ymv rfl) hg (qL [11, 12, 13, 20, 21, 22, 23] 10 rfl (fun _ h=>ymv rfl) hg (qL [12, 13, 20, 21, 22, 23] 11 rfl (fun _ h=>ybd (parts := [(0, .tmp 62), (1, .tmp 63)]) (cs := [_, _]) ti41 rfl sp41 rfl rfl) hg (qL [15, 16, 17, 19, 20, 21, 22, 23] 14 rfl (fun _ h=>ymv rfl) hg (qL [16, 17, 19, 20, 21, 22, 23] 15 rfl (fun _ h=>ynk rfl) hg (qL [17, 19, 20, 21, 22, 23] 16 rfl (fun _ h=>yfa fl32_0 rfl) hg ?_))))))))))))); refine qL [19, 20, 21, 22, 23] 17 rfl (fun _ h=>yld U30 rfl rfl (h.blk hB) rfl) hg (qL [19, 20, 21, 22, 23] 18 rfl (fun _ h=>ymv rfl) hg (qL [8, 13, 20, 21, 22, 23] 7 rfl (fun _ h=>yslT U30 ti41 rfl rfl (by omega) wH) hg (qL [20, 21, 22, 23] 19 rfl (fun _ h=>yslF U30 ti41 rfl rfl (by omega) dl nK) hg (hTwoL (i := 1) (j := 12) (by kernel_rfl) ?_ ?_))))
   ·refine nValPL (i := 1) rfl rfl rfl (pbs (parts := []) (cs := []) (zs := []) U30 ti41 rfl (by kernel_rfl) rfl rfl rfl (by decide)) ?_; rintro _ w2 ⟨b2, rfl, ⟨cQ, ae, ak⟩, bB⟩; refine ⟨hg.trans ae, ?_⟩; have jX : w1.heap.size ≤ b2 := by have := hg.size; omega
    have fF := ak.lt; have hg := hg.trans ae
    try have cf := cf.ext ae
    refine hTwoL (i := 8) (j := 12) (by kernel_rfl) ?_ ?_
    ·refine nValPL (i := 8) rfl rfl rfl (pap U30 ti41 rfl (by decide) rfl rfl bB (nF.ext hg) (esC_one1 _) (by omega) (by omega)) ?_; rintro v3 w3 ⟨bs, aw, gu, -⟩; refine ⟨hg.trans_new aw (fun i hi => by have e : b2 = i := oinj hi; omega), ?_⟩
     have e8 : ∀ g, v3.ownBlock = some g → w1.heap.size ≤ g := fun g aA => by
      have := hg.size; rcases gu g aA with e | e
      ·have e : b2 = g := oinj e; omega
      ·omega
     try have cf := cf.kp aw (fun g aA e => by have e : b2 = g := oinj e; have e' : b5 = g := oinj aA; omega)
     have hg := hg.trans_new aw (fun i hi => by have e : b2 = i := oinj hi; omega); rw [List.nil_append, Nat.zero_add] at bs; refine hOneL (i := 12) (by kernel_rfl) (nValPL (i := 12) rfl rfl rfl (pbs (parts := [(0, .tmp 64)]) (cs := [_, _]) (zs := [Value.string ⟨#[]⟩, Value.string ⟨#[]⟩]) U30 ti41 rfl (by kernel_rfl) rfl rfl rfl (by decide)) ?_); rintro _ w5 ⟨b5, rfl, ⟨rD, aJ, bx⟩, cf⟩; refine ⟨hg.trans aJ, ?_⟩; have hg := hg.trans aJ; have kw := bx.lt
     try have bB := bB.ext aJ
     try have bs := bs.ext aJ
     refine hOneL (i := 13) (by kernel_rfl) (nValPL (i := 13) rfl rfl rfl (pap U30 ti41 rfl (by decide) rfl rfl bs cf.rd (by intro c hc; simp at hc; rcases hc with rfl | rfl <;> rfl) (by omega) (by omega)) ?_); rintro v6 w6 ⟨fW, bX, nG, -⟩; refine ⟨hg.trans_new bX (fun i hi => e8 i hi), ?_⟩
     have gy : ∀ g, v6.ownBlock = some g → w1.heap.size ≤ g := fun g aA => by
      have := hg.size; rcases nG g aA with e | e
      ·exact e8 g e
      ·omega
     have hg := hg.trans_new bX (fun i hi => e8 i hi); refine hOneL (i := 20) (by kernel_rfl) (nValPL (i := 20) rfl rfl rfl (pap U30 ti41 rfl (by decide) rfl rfl fW (lV.ext hg) (esC_one1 _) (by omega) (by omega)) ?_); rintro v7 w7 ⟨cX, bg, km, -⟩; refine ⟨hg.trans_new bg (fun i hi => gy i hi), ?_⟩
     have ez : ∀ g, v7.ownBlock = some g → w1.heap.size ≤ g := fun g aA => by
      have := hg.size; rcases km g aA with e | e
      ·exact gy g e
      ·omega
     have hg := hg.trans_new bg (fun i hi => gy i hi); refine qL [22, 23] 21 rfl (fun _ h=>ynk rfl) hg (qL [23] 22 rfl (fun _ h=>yfa fl32_0 rfl) hg (hLate [23] (by kernel_rfl) (by kernel_rfl) (qO 23 (nEffP (i := 23) rfl rfl (zst ti30 rfl rfl (oneV_sl cX) (hg.blk hB) (by simp)) ?_)))); rintro w8 ⟨d8, bc⟩; refine ⟨trivial, ?_⟩; refine qE (Run.qb (e := []) ?_); have fH : Kp (fun k => k = q) w1 w8 := hg.kp.trans bc
     have nH : MpM w8 q v7 (insE es k v) := ⟨d8, by
      have := cX.kp bc (fun g aA e => by have := ez g aA; omega); rw [show insE es k v = es.take (posE es k) ++ [(k, v)] ++ es.drop (posE es k) by unfold insE; rw [if_neg bo]; simp]; rw [esC_app, esC_app, esC_one, List.length_append, List.length_append, List.length_take, List.length_drop, Nat.min_eq_left dv]
      exact this, fun e => by have := ez q e; omega, by rw [cE]; split <;> omega⟩
     refine run_end Tryz.func39 rfl ?_; exact ⟨_, rfl, rfl, ⟨_, nH, fH, ez⟩⟩
    ·refine nValPL (i := 12) rfl rfl rfl (pbs (parts := [(0, .tmp 64)]) (cs := [_, _]) (zs := [Value.string ⟨#[]⟩, Value.string ⟨#[]⟩]) U30 ti41 rfl (by kernel_rfl) rfl rfl rfl (by decide)) ?_; rintro _ w5 ⟨b5, rfl, ⟨rD, aJ, bx⟩, cf⟩; refine ⟨hg.trans aJ, ?_⟩; have hg := hg.trans aJ; have kw := bx.lt
     try have bB := bB.ext aJ
     try have bs := bs.ext aJ
     refine hOneL (i := 8) (by kernel_rfl) (nValPL (i := 8) rfl rfl rfl (pap U30 ti41 rfl (by decide) rfl rfl bB (nF.ext hg) (esC_one1 _) (by omega) (by omega)) ?_); rintro v3 w3 ⟨bs, aw, gu, -⟩; refine ⟨hg.trans_new aw (fun i hi => by have e : b2 = i := oinj hi; omega), ?_⟩
     have e8 : ∀ g, v3.ownBlock = some g → w1.heap.size ≤ g := fun g aA => by
      have := hg.size; rcases gu g aA with e | e
      ·have e : b2 = g := oinj e; omega
      ·omega
     try have cf := cf.kp aw (fun g aA e => by have e : b2 = g := oinj e; have e' : b5 = g := oinj aA; omega)
     have hg := hg.trans_new aw (fun i hi => by have e : b2 = i := oinj hi; omega); rw [List.nil_append, Nat.zero_add] at bs; refine hOneL (i := 13) (by kernel_rfl) (nValPL (i := 13) rfl rfl rfl (pap U30 ti41 rfl (by decide) rfl rfl bs cf.rd (by intro c hc; simp at hc; rcases hc with rfl | rfl <;> rfl) (by omega) (by omega)) ?_); rintro v6 w6 ⟨fW, bX, nG, -⟩; refine ⟨hg.trans_new bX (fun i hi => e8 i hi), ?_⟩
     have gy : ∀ g, v6.ownBlock = some g → w1.heap.size ≤ g := fun g aA => by
      have := hg.size; rcases nG g aA with e | e
      ·exact e8 g e
      ·omega
     have hg := hg.trans_new bX (fun i hi => e8 i hi); refine hOneL (i := 20) (by kernel_rfl) (nValPL (i := 20) rfl rfl rfl (pap U30 ti41 rfl (by decide) rfl rfl fW (lV.ext hg) (esC_one1 _) (by omega) (by omega)) ?_); rintro v7 w7 ⟨cX, bg, km, -⟩; refine ⟨hg.trans_new bg (fun i hi => gy i hi), ?_⟩
     have ez : ∀ g, v7.ownBlock = some g → w1.heap.size ≤ g := fun g aA => by
      have := hg.size; rcases km g aA with e | e
      ·exact gy g e
      ·omega
     have hg := hg.trans_new bg (fun i hi => gy i hi); refine qL [22, 23] 21 rfl (fun _ h=>ynk rfl) hg (qL [23] 22 rfl (fun _ h=>yfa fl32_0 rfl) hg (hLate [23] (by kernel_rfl) (by kernel_rfl) (qO 23 (nEffP (i := 23) rfl rfl (zst ti30 rfl rfl (oneV_sl cX) (hg.blk hB) (by simp)) ?_)))); rintro w8 ⟨d8, bc⟩; refine ⟨trivial, ?_⟩; refine qE (Run.qb (e := []) ?_); have fH : Kp (fun k => k = q) w1 w8 := hg.kp.trans bc
     have nH : MpM w8 q v7 (insE es k v) := ⟨d8, by
      have := cX.kp bc (fun g aA e => by have := ez g aA; omega); rw [show insE es k v = es.take (posE es k) ++ [(k, v)] ++ es.drop (posE es k) by unfold insE; rw [if_neg bo]; simp]; rw [esC_app, esC_app, esC_one, List.length_append, List.length_append, List.length_take, List.length_drop, Nat.min_eq_left dv]
      exact this, fun e => by have := ez q e; omega, by rw [cE]; split <;> omega⟩
     refine run_end Tryz.func39 rfl ?_; exact ⟨_, rfl, rfl, ⟨_, nH, fH, ez⟩⟩
   ·refine nValPL (i := 12) rfl rfl rfl (pbs (parts := [(0, .tmp 64)]) (cs := [_, _]) (zs := [Value.string ⟨#[]⟩, Value.string ⟨#[]⟩]) U30 ti41 rfl (by kernel_rfl) rfl rfl rfl (by decide)) ?_; rintro _ w5 ⟨b5, rfl, ⟨rD, aJ, bx⟩, cf⟩; refine ⟨hg.trans aJ, ?_⟩; have hg := hg.trans aJ; have kw := bx.lt
    try have bB := bB.ext aJ
    try have bs := bs.ext aJ
    refine hOneL (i := 1) (by kernel_rfl) (nValPL (i := 1) rfl rfl rfl (pbs (parts := []) (cs := []) (zs := []) U30 ti41 rfl (by kernel_rfl) rfl rfl rfl (by decide)) ?_); rintro _ w2 ⟨b2, rfl, ⟨cQ, ae, ak⟩, bB⟩; refine ⟨hg.trans ae, ?_⟩; have jX : w1.heap.size ≤ b2 := by have := hg.size; omega
    have fF := ak.lt; have hg := hg.trans ae
    try have cf := cf.ext ae
    refine hOneL (i := 8) (by kernel_rfl) (nValPL (i := 8) rfl rfl rfl (pap U30 ti41 rfl (by decide) rfl rfl bB (nF.ext hg) (esC_one1 _) (by omega) (by omega)) ?_); rintro v3 w3 ⟨bs, aw, gu, -⟩; refine ⟨hg.trans_new aw (fun i hi => by have e : b2 = i := oinj hi; omega), ?_⟩
    have e8 : ∀ g, v3.ownBlock = some g → w1.heap.size ≤ g := fun g aA => by
     have := hg.size; rcases gu g aA with e | e
     ·have e : b2 = g := oinj e; omega
     ·omega
    try have cf := cf.kp aw (fun g aA e => by have e : b2 = g := oinj e; have e' : b5 = g := oinj aA; omega)
    have hg := hg.trans_new aw (fun i hi => by have e : b2 = i := oinj hi; omega); rw [List.nil_append, Nat.zero_add] at bs; refine hOneL (i := 13) (by kernel_rfl) (nValPL (i := 13) rfl rfl rfl (pap U30 ti41 rfl (by decide) rfl rfl bs cf.rd (by intro c hc; simp at hc; rcases hc with rfl | rfl <;> rfl) (by omega) (by omega)) ?_); rintro v6 w6 ⟨fW, bX, nG, -⟩; refine ⟨hg.trans_new bX (fun i hi => e8 i hi), ?_⟩
    have gy : ∀ g, v6.ownBlock = some g → w1.heap.size ≤ g := fun g aA => by
     have := hg.size; rcases nG g aA with e | e
     ·exact e8 g e
     ·omega
    have hg := hg.trans_new bX (fun i hi => e8 i hi); refine hOneL (i := 20) (by kernel_rfl) (nValPL (i := 20) rfl rfl rfl (pap U30 ti41 rfl (by decide) rfl rfl fW (lV.ext hg) (esC_one1 _) (by omega) (by omega)) ?_); rintro v7 w7 ⟨cX, bg, km, -⟩; refine ⟨hg.trans_new bg (fun i hi => gy i hi), ?_⟩
    have ez : ∀ g, v7.ownBlock = some g → w1.heap.size ≤ g := fun g aA => by
     have := hg.size; rcases km g aA with e | e
     ·exact gy g e
     ·omega
    have hg := hg.trans_new bg (fun i hi => gy i hi); refine qL [22, 23] 21 rfl (fun _ h=>ynk rfl) hg (qL [23] 22 rfl (fun _ h=>yfa fl32_0 rfl) hg (hLate [23] (by kernel_rfl) (by kernel_rfl) (qO 23 (nEffP (i := 23) rfl rfl (zst ti30 rfl rfl (oneV_sl cX) (hg.blk hB) (by simp)) ?_)))); rintro w8 ⟨d8, bc⟩; refine ⟨trivial, ?_⟩; refine qE (Run.qb (e := []) ?_); have fH : Kp (fun k => k = q) w1 w8 := hg.kp.trans bc
    have nH : MpM w8 q v7 (insE es k v) := ⟨d8, by
     have := cX.kp bc (fun g aA e => by have := ez g aA; omega); rw [show insE es k v = es.take (posE es k) ++ [(k, v)] ++ es.drop (posE es k) by unfold insE; rw [if_neg bo]; simp]; rw [esC_app, esC_app, esC_one, List.length_append, List.length_append, List.length_take, List.length_drop, Nat.min_eq_left dv]
     exact this, fun e => by have := ez q e; omega, by rw [cE]; split <;> omega⟩
    refine run_end Tryz.func39 rfl ?_; exact ⟨_, rfl, rfl, ⟨_, nH, fH, ez⟩⟩
 case wI =>
  refine run_reg rfl (zqm rfl (zqm rfl (qV (ynk rfl) (qV (yfa fl32_0 rfl) (qV (yld U30 rfl rfl hB rfl) (qV (yln U30 rfl) (qV (ylt rfl rfl) (zqm rfl (rVal_if (fun h1 => ?_) (fun h1 => ?_))))))))))
  ·have ab : posE es k < es.length := by omega
   obtain ⟨lb, lo, y, rfl, hy⟩ := rd_ens hR rfl ab; have qu := hasE_at hy; refine zqm rfl (qV (ynk rfl) (qV (yfa fl32_0 rfl) (qV (yld U30 rfl rfl hB rfl) (zqm rfl (qV (yis U30 ti41 rfl rfl (by omega)) (qV (yfa fl41_0 rfl) (qV (yldc U9 rfl rfl (rd_en0 hR ab hy)) (zqm rfl (qV (yeqS rfl rfl) (qV (ypT rfl rfl) (rEnd (Run.qb (e := [(0, _), (1, _), (2, _), (6, _), (28, _)]) ?_)))))))))))); refine (ot _ _ ⟨_, rfl, rfl, ?_⟩).qb; rw [qu]; simp
  ·refine qS (qS (qS (qS (qS (qS (qS (qS (qS (qS (qV (ypF rfl rfl) (rEnd (Run.qb (e := [(0, _), (1, _), (2, _), (6, _), (28, _)]) ?_)))))))))))); exact (ot _ _ ⟨false, rfl, rfl, ⟨fun h => Bool.noConfusion h, fun hh => absurd hh (hasE_no (by omega))⟩⟩).qb
set_option maxHeartbeats 4000000 in
theorem delM_ret (h : MpM w q mv es) (k : Bytes) : Ret Tryz.prog 12 [ptr q 0, S k] w fun u w' => u = I (getR es k).2 ∧ (if (getR es k).2 = 0 then MpS q w w' (delE es k) else w' = w) := by
 have wG := at_ret h k
 have EL := getM_ret h k
 obtain ⟨a, c, rfl, -⟩ := h.sl.rd.shape
 have hB := h.blk
 have hR := h.sl.rd
 have dv := posE_le es k
 have EK := hB.lt
 have dt := h.le
 have dl : es.length ≤ c := by
  rcases h.sl.shape with ⟨e, e0⟩ | ⟨g, cap, e, e1⟩
  ·omega
  ·cases e; exact e1
 have dL : maxLen = 9223372036854775807 := rfl
 obtain ⟨pv, wH, nF⟩ := rd_pre hR dv
 rw [esC_take] at nF
 refine ret_of_run (e := [(0, _), (1, _)]) Tryz.func12 rfl Tryz.ntmps12 rfl rfl (qN rfl (zqa rfl (qM rfl (zqm rfl (zqm rfl (zqc [.tmp 9, .tmp 10] cf10 rfl (EL) ?_))))))
 rintro _ w1 ⟨rfl, rfl⟩
 refine zqm rfl (qV (yex rfl rfl) (qV (yex rfl rfl) (zqa rfl (zqa rfl (rEnd (run_seq (qN rfl (zqm rfl (qV (yne rfl rfl) (rEnd (run_if rfl (fun h1 => ?_) (fun h1 => ?_))))))))))))
 ·refine qN rfl (zqm rfl (zqa rfl (rEnd (run_ret Tryz.func12 rfl ?_)))); exact ⟨_, rfl, rfl, by rw [if_neg h1]⟩
 ·have h0 : (getR es k).2 = 0 := Decidable.not_not.1 h1
  have bo : hasE es k := by
   by_cases hh : hasE es k
   ·exact hh
   ·unfold getR at h0; rw [getE_none hh] at h0; split at h0 <;> cases h0
  have af := hasE_lt bo; have m6 := delE_len bo; refine run_skip (qN rfl (zqm rfl (zqm rfl (zqc [.tmp 17, .tmp 18] cf41 rfl (wG) ?_)))); rintro _ w1 ⟨rfl, rfl⟩; obtain ⟨sv, nK, lV⟩ := rd_suf (i := posE es k + 1) hR (by omega) dl; rw [esC_drop] at lV; have hg := Ext.drew0 w1; refine zqa rfl (rEnd (run_seq (run_drawL [19] (fun w' => Ext w1 w') (by kernel_rfl) rfl (qL [17, 18, 19] 0 rfl (fun _ h=>ymv rfl) hg (qL [3, 4, 5, 7, 8, 16, 17, 18, 19] 2 rfl (fun _ h=>ymv rfl) hg (qL [4, 5, 7, 8, 16, 17, 18, 19] 3 rfl (fun _ h=>ynk rfl) hg (qL [5, 7, 8, 16, 17, 18, 19] 4 rfl (fun _ h=>yfa fl32_0 rfl) hg (qL [7, 8, 16, 17, 18, 19] 5 rfl (fun _ h=>yld U30 rfl rfl (h.blk hB) rfl) hg (qL [7, 8, 16, 17, 18, 19] 6 rfl (fun _ h=>ymv rfl) hg (qL [10, 11, 12, 15, 16, 17, 18, 19] 9 rfl (fun _ h=>ymv rfl) hg (qL [11, 12, 15, 16, 17, 18, 19] 10 rfl (fun _ h=>ynk rfl) hg (qL [12, 15, 16, 17, 18, 19] 11 rfl (fun _ h=>yfa fl32_0 rfl) hg (qL [15, 16, 17, 18, 19] 12 rfl (fun _ h=>yld U30 rfl rfl (h.blk hB) rfl) hg ?_))))))))))))); refine qL [14, 15, 16, 17, 18, 19] 13 rfl (fun _ h=>ymv rfl) hg (qL [15, 16, 17, 18, 19] 14 rfl (fun _ h=>yad rfl rfl (by omega)) hg (qL [8, 16, 17, 18, 19] 7 rfl (fun _ h=>yslT U30 ti41 rfl rfl (by omega) wH) hg (qL [16, 17, 18, 19] 15 rfl (fun _ h=>yslF U30 ti41 rfl rfl (by omega) dl nK) hg (hOneL (i := 1) (by kernel_rfl) (nValPL (i := 1) rfl rfl rfl (pbs (parts := []) (cs := []) (zs := []) U30 ti41 rfl (by kernel_rfl) rfl rfl rfl (by decide)) ?_))))); rintro _ w2 ⟨b2, rfl, ⟨cQ, ae, ak⟩, bB⟩; refine ⟨hg.trans ae, ?_⟩; have jX : w1.heap.size ≤ b2 := by have := hg.size; omega
  have fF := ak.lt; have hg := hg.trans ae
  try have cf := cf.ext ae
  refine hOneL (i := 8) (by kernel_rfl) (nValPL (i := 8) rfl rfl rfl (pap U30 ti41 rfl (by decide) rfl rfl bB (nF.ext hg) (esC_one1 _) (by omega) (by omega)) ?_); rintro v3 w3 ⟨bs, aw, gu, -⟩; refine ⟨hg.trans_new aw (fun i hi => by have e : b2 = i := oinj hi; omega), ?_⟩
  have e8 : ∀ g, v3.ownBlock = some g → w1.heap.size ≤ g := fun g aA => by
   have := hg.size; rcases gu g aA with e | e
   ·have e : b2 = g := oinj e; omega
   ·omega
  try have cf := cf.kp aw (fun g aA e => by have e : b2 = g := oinj e; have e' : b5 = g := oinj aA; omega)
  have hg := hg.trans_new aw (fun i hi => by have e : b2 = i := oinj hi; omega); rw [List.nil_append, Nat.zero_add] at bs; refine hOneL (i := 16) (by kernel_rfl) (nValPL (i := 16) rfl rfl rfl (pap U30 ti41 rfl (by decide) rfl rfl bs (lV.ext hg) (esC_one1 _) (by omega) (by omega)) ?_); rintro v7 w7 ⟨cX, bg, km, -⟩; refine ⟨hg.trans_new bg (fun i hi => e8 i hi), ?_⟩
  have ez : ∀ g, v7.ownBlock = some g → w1.heap.size ≤ g := fun g aA => by
   have := hg.size; rcases km g aA with e | e
   ·exact e8 g e
   ·omega
  have hg := hg.trans_new bg (fun i hi => e8 i hi); refine qL [18, 19] 17 rfl (fun _ h=>ynk rfl) hg (qL [19] 18 rfl (fun _ h=>yfa fl32_0 rfl) hg (hLate [19] (by kernel_rfl) (by kernel_rfl) (qO 19 (nEffP (i := 19) rfl rfl (zst ti30 rfl rfl (oneV_sl cX) (hg.blk hB) (by simp)) ?_)))); rintro w8 ⟨d8, bc⟩; refine ⟨trivial, ?_⟩; refine qE (Run.qb (e := [(4, _)]) ?_); refine qN rfl (zqa rfl (rEnd ?_)); have fH : Kp (fun k => k = q) w1 w8 := hg.kp.trans bc
  have nH : MpM w8 q v7 (delE es k) := ⟨d8, by
   have := cX.kp bc (fun g aA e => by have := ez g aA; omega); rw [show delE es k = es.take (posE es k) ++ es.drop (posE es k + 1) by unfold delE; rw [if_pos bo]]; rw [esC_app, List.length_append, List.length_take, List.length_drop, Nat.min_eq_left dv]
   exact this, fun e => by have := ez q e; omega, by omega⟩
  refine run_ret Tryz.func12 rfl ?_; exact ⟨_, rfl, by rw [h0]; rfl, by rw [if_pos h0]; exact ⟨_, nH, fH, ez⟩⟩
theorem rangeM_ret (h : MpM w q mv es) (k : Bytes) (n : Int) : Ret Tryz.prog 60 [ptr q 0, S k, I n] w fun u w' => Ext w w' ∧ ((n < 0 ∧ u = .tuple #[.slice none 0 0, I 1]) ∨ (0 ≤ n ∧ ∃ rv, u = .tuple #[rv, I 0] ∧ Rd w' rv 2 ((es.drop (posE es k)).take n.toNat).length (esC ((es.drop (posE es k)).take n.toNat)) ∧ ∀ g, rv.ownBlock = some g → mv.ownBlock = some g)) := by
 have wG := fun (w' : World) (hx : Ext w w') => at_ret (h.ext hx) k
 obtain ⟨a, c, rfl, -⟩ := h.sl.rd.shape
 have hB := h.blk
 have hR := h.sl.rd
 have dv := posE_le es k
 have dt := h.le
 have dl : es.length ≤ c := by
  rcases h.sl.shape with ⟨e, e0⟩ | ⟨g, cap, e, e1⟩
  ·omega
  ·cases e; exact e1
 obtain ⟨sv, nK, lV⟩ := rd_suf (i := posE es k) hR dv dl
 rw [esC_drop] at lV
 obtain ⟨sa, EM⟩ : ∃ sa, (if c = posE es k then a else a.map (·.add (posE es k * 2))) = sa := ⟨_, rfl⟩
 rw [EM] at nK
 subst nK
 have EN : ∀ g m d, (Value.slice sa m d).ownBlock = some g → (Value.slice a es.length c).ownBlock = some g := fun g m d hg => by
  rw [← EM] at hg; split at hg <;> cases a <;> simp [Value.ownBlock, Addr.add] at hg ⊢ <;> (try split at hg) <;> first | exact hg | assumption
 refine ret_of_run (e := [(0, _), (1, _), (2, _)]) Tryz.func60 rfl Tryz.ntmps60 rfl rfl (qN rfl (zqa rfl (zqa rfl (rEnd (run_seq (qN rfl (zqm rfl (qV (ylt rfl rfl) (rEnd (run_if rfl (fun h0 => ?_) (fun h0 => ?_)))))))))))
 ·refine qN rfl (zqa rfl (zqa rfl (rEnd (run_ret Tryz.func60 rfl ?_)))); exact ⟨_, rfl, Ext.refl _, .inl ⟨h0, rfl⟩⟩
 ·have hg := Ext.drew0 w; refine run_skip (run_seq (run_draw (fun w' => Ext w w') (by kernel_rfl) rfl (zqt 0 rfl (ymv rfl) hg (zqt 1 rfl (ynk rfl) hg (zqt 2 rfl (yfa fl32_0 rfl) hg (qT 3 rfl (fun _ h=>yld U30 rfl rfl (h.blk hB) rfl) hg (zqt 4 rfl (ymv rfl) hg (zqt 5 rfl (ymv rfl) hg (zqo 6 [.tmp 15, .tmp 16] rfl cf41 rfl (wG _ hg) ?_))))))))); rintro _ w2 ⟨rfl, lr⟩; refine ⟨(by rw [lr]; exact hg), ?_⟩; have ag : Ext w w2 := by rw [lr]; exact hg
  refine zqt 7 rfl (yslF U30 ti41 rfl rfl dv dl (by rw [EM])) ((by rw [lr]; exact hg)) ?_; refine zqt 8 rfl (yas rfl) ((by rw [lr]; exact hg)) ?_; refine qE (qN rfl (zqm rfl (zqm rfl (zqm rfl (qV (yln U30 rfl) (qV (ymi rfl rfl) ?_)))))); rw [show min n ((es.length - posE es k : Nat) : Int) = ((min n.toNat (es.length - posE es k) : Nat) : Int) by omega]; obtain ⟨pv, wH, nF⟩ := rd_pre (j := min n.toNat (es.length - posE es k)) (lV.ext ag) (by omega); rw [esC_take] at nF; refine qV (yslT U30 ti41 rfl rfl (by omega) wH) (zqa rfl (zqa rfl (rEnd (run_ret Tryz.func60 rfl (⟨_, rfl, ag, .inr ⟨by omega, pv, rfl, ?_, fun g aA => ?_⟩⟩)))))
  ·have e1 : (es.drop (posE es k)).take n.toNat = (es.drop (posE es k)).take (min n.toNat (es.length - posE es k)) := by
    rw [← List.length_drop]; rcases Nat.le_total n.toNat (es.drop (posE es k)).length with h | h
    ·rw [Nat.min_eq_left h]
    ·rw [Nat.min_eq_right h, List.take_of_length_le h, List.take_length]
   rw [e1]; have e2 : ((es.drop (posE es k)).take (min n.toNat (es.length - posE es k))).length = min n.toNat (es.length - posE es k) := by rw [List.length_take, List.length_drop]; omega
   rw [e2]; exact nF
  ·refine EN g (es.length - posE es k) (c - posE es k) ?_; rw [← wH] at aA; split at aA <;> cases sa <;> simpa [Value.ownBlock, Addr.add] using aA
end
def metC (l : Pgs) (V : List Int) : List Value := l.map fun y => I (if y.1 ∈ V then 1 else 0)
theorem metC_same {l : Pgs} {V V' : List Int} (h : ∀ x, x ∈ V ↔ x ∈ V') : metC l V = metC l V' := by
 unfold metC
 apply List.map_congr_left
 intro y _
 by_cases hy : y.1 ∈ V
 ·rw [if_pos hy, if_pos ((h _).1 hy)]
 ·rw [if_neg hy, if_neg (fun e => hy ((h _).2 e))]
theorem metC_get {l : Pgs} {V : List Int} {i : Nat} {y : Int × Bytes} (hy : l[i]? = some y) : (metC l V)[i]? = some (I (if y.1 ∈ V then 1 else 0)) := by
 unfold metC; rw [List.getElem?_map, hy]; rfl
theorem metC_set {l : Pgs} {V : List Int} {i : Nat} {y : Int × Bytes} (hn : (l.map (·.1)).Nodup) (hy : l[i]? = some y) (hV : y.1 ∉ V) : (metC l V).set i (I 1) = metC l (y.1 :: V) := by
 apply List.ext_getElem?
 intro j
 rw [List.getElem?_set]
 by_cases e : i = j
 ·subst e; have hl : i < (metC l V).length := by unfold metC; rw [List.length_map]; exact (List.getElem?_eq_some_iff.1 hy).1
  rw [if_pos rfl, if_pos hl, metC_get hy, if_pos (List.mem_cons_self ..)]
 ·rw [if_neg e]; unfold metC; rw [List.getElem?_map, List.getElem?_map]
  cases hj : l[j]? with
  | none => rfl
  | some x =>
    have aZ : x.1 ≠ y.1 := fun he => by
     have e1 : (l.map (·.1))[i]? = some y.1 := by rw [List.getElem?_map, hy]; rfl
     have e2 : (l.map (·.1))[j]? = some y.1 := by rw [List.getElem?_map, hj, ← he]; rfl
     obtain ⟨j1, j2⟩ := List.getElem?_eq_some_iff.1 e1; obtain ⟨k1, k2⟩ := List.getElem?_eq_some_iff.1 e2; exact e (nodup_get hn j1 k1 (by rw [j2, k2]))
    simp [aZ]
structure WkC (w : World) (q mb z : Nat) (lv : Value) (l : Pgs) : Prop where
 blk : Blk w q [I (z : Int), lv, .slice (some ⟨mb, 0, none⟩) l.length l.length] 97
 rd : Rd w lv 2 l.length (pgC l)
 n1 : q ≠ mb
 n2 : 0 < l.length → lv.ownBlock ≠ some mb
theorem WkC.kp {w w' : World} {q mb z : Nat} {lv : Value} {l : Pgs} (h : WkC w q mb z lv l) (k : Kp (fun k => k = mb) w w') : WkC w' q mb z lv l :=
 ⟨k.blk h.blk h.n1, Rd.kpz h.rd k (fun h0 g hg e => h.n2 h0 (by rw [hg, e])), h.n1, h.n2⟩
theorem WkC.ext {w w' : World} {q mb z : Nat} {lv : Value} {l : Pgs} (h : WkC w q mb z lv l) (k : Ext w w') : WkC w' q mb z lv l := h.kp k.kp
def WkAt (q mb z : Nat) (lv : Value) (l : Pgs) (k : Nat) : Prop := ∀ (w : World) (no : Int) (lo : Bytes) (hi : Option Bytes) (tb : Bytes) (V : List Int) (rt : Bool),
 WkC w q mb z lv l → Blk w mb (metC l V) 3 → V.Nodup → (∀ x ∈ V, x ∈ l.map (·.1)) → l.length ≤ V.length + k → spanOk hi tb →
 Ret Tryz.prog 54 [ptr q 0, I no, .agg (spanC lo hi tb).toArray, .bool rt] w fun v w' => Kp (fun k => k = mb) w w' ∧
  ((∃ (h : Nat) (ns : List Int) (es : Es) (ov : Value), v = .tuple #[ov, I (h : Int), .bool true] ∧ Sub1 z (nodesOf z l) V rt no lo hi h ns es ∧ Sl w' ov 41 2 es.length (esC es) ∧ (∀ g, ov.ownBlock = some g → w.heap.size ≤ g) ∧ Blk w' mb (metC l (ns ++ V)) 3 ∧ es.length ≤ ns.length * 100000) ∨ (v = .tuple #[.slice none 0 0, I 0, .bool false] ∧ NoSub z (nodesOf z l) V rt no lo hi))
theorem dec_uni {w w' : World} {v : Value} {s : Bytes} (h : (∃ n kv vv cv, dec s = some n ∧ v = .tuple #[ndv n kv vv cv, I 0] ∧ NdP w' n kv vv cv ∧ ∀ g, kv.ownBlock = some g ∨ vv.ownBlock = some g ∨ cv.ownBlock = some g → w.heap.size ≤ g) ∨ (dec s = none ∧ v = .tuple #[.agg #[.bool false, .slice none 0 0, .slice none 0 0, .slice none 0 0], I 4])) :
  ∃ n kv vv cv x, v = .tuple #[ndv n kv vv cv, I x] ∧ NdP w' n kv vv cv ∧ (∀ g, ownP kv vv cv g → w.heap.size ≤ g) ∧ ((dec s = some n ∧ x = 0) ∨ (dec s = none ∧ x = 4)) := by
 rcases h with ⟨n, kv, vv, cv, h1, h2, h3, h4⟩ | ⟨h1, h2⟩
 ·exact ⟨n, kv, vv, cv, 0, h2, h3, h4, .inl ⟨h1, rfl⟩⟩
 ·exact ⟨⟨false, [], [], []⟩, _, _, _, 4, h2, ⟨Sl.nil _ _ _, Sl.nil _ _ _, Sl.nil _ _ _, ⟨by decide, by decide, by decide, by simp, by simp, by simp⟩, fun g hg => by simp [Value.ownBlock] at hg, fun g hg => by simp [Value.ownBlock] at hg⟩, fun g hg => by simp [ownP, Value.ownBlock] at hg, .inr ⟨h1, rfl⟩⟩
set_option maxHeartbeats 8000000 in
theorem wkAt_step {q mb z k : Nat} {lv : Value} {l : Pgs} (hz : sizeOk (z : Int)) (nD : (l.map (·.1)).Nodup) (hl : l.length ≤ 1000000) (ht : ∀ y ∈ l, y.2.length ≤ 140737488355328) (ihk : ∀ k', k' < k → WkAt q mb z lv l k') : WkAt q mb z lv l k := by
 intro w no lo hi tb V rt hc hm xr xt hk sr
 obtain ⟨z1, z2, -⟩ := id hz
 have Gg : orderE z ≤ 1100 := by unfold orderE; omega
 obtain ⟨la, lc, rfl, -⟩ := hc.rd.shape
 have dL : maxLen = 9223372036854775807 := rfl
 refine ret_of_run (e := [(0, _), (1, _), (2, _), (3, _)]) Tryz.func54 rfl Tryz.ntmps54 rfl rfl (qN rfl (rValP rfl rfl (pbx rfl (cs := spanC lo hi tb) rfl) ?_))
 rintro _ w1 ⟨b6, rfl, rI, aa, bD⟩
 replace bD : Blk w1 b6 [S lo, S tb, .bool hi.isSome] 100 := bD
 have cD := hc.ext aa
 have o5 := aa.blk hm
 have Ax := cD.blk
 have gy := bD.lt
 have EO := hm.lt
 have EK := hc.blk.lt
 have eI := aa.size
 have bP : ∀ {w' : World}, Kp (fun k => k = mb) w w' → NoSub z (nodesOf z l) V rt no lo hi → Kp (fun k => k = mb) w w' ∧ ((∃ (h : Nat) (ns : List Int) (es : Es) (ov : Value), (Value.tuple #[.slice none 0 0, I 0, .bool false]) = .tuple #[ov, I (h : Int), .bool true] ∧ Sub1 z (nodesOf z l) V rt no lo hi h ns es ∧ Sl w' ov 41 2 es.length (esC es) ∧ (∀ g, ov.ownBlock = some g → w.heap.size ≤ g) ∧ Blk w' mb (metC l (ns ++ V)) 3 ∧ es.length ≤ ns.length * 100000) ∨ ((Value.tuple #[.slice none 0 0, I 0, .bool false]) = .tuple #[.slice none 0 0, I 0, .bool false] ∧ NoSub z (nodesOf z l) V rt no lo hi)) := fun hk hn => ⟨hk, .inr ⟨rfl, hn⟩⟩
 refine zqa rfl (zqa rfl (zqa rfl (qM rfl (zqm rfl (qV (ynk rfl) (qV (yfa fl97_1 rfl) (qV (yld U33 rfl rfl Ax rfl) (zqm rfl (zqc [.tmp 28, .tmp 29] cf53 rfl (find_ret cD.rd hl no) ?_)))))))))
 rintro v1 w1 ⟨rfl, hv⟩
 rcases hv with ⟨i, y, rfl, hy, jo, -⟩ | ⟨rfl, bK⟩
 ·subst jo; have ab : i < l.length := (List.getElem?_eq_some_iff.1 hy).1; have ou := List.mem_of_getElem? hy; obtain ⟨lb, lof, y', rfl, mB⟩ := rd_pgs hc.rd rfl ab; have GG := metC_get (V := V) hy; have Jr : (metC l V).length = l.length := by unfold metC; rw [List.length_map]
  obtain ⟨cnt, fy⟩ : ∃ cnt : Nat, (if y.1 ∈ V then (1 : Int) else 0) = (cnt : Int) ∧ ((cnt = 0 ∧ y.1 ∉ V) ∨ (cnt = 1 ∧ y.1 ∈ V)) := by
   by_cases C2 : y.1 ∈ V
   ·exact ⟨1, by rw [if_pos C2]; rfl, .inr ⟨rfl, C2⟩⟩
   ·exact ⟨0, by rw [if_neg C2]; rfl, .inl ⟨rfl, C2⟩⟩
  rw [fy.1] at GG; have lW : nodesOf z l y.1 = ndOf z y.2 := nodesOf_mem nD ou; refine zqa rfl (rEnd (run_seq (qN rfl (zqm rfl (qV (ylt rfl rfl) (rEnd (run_if rfl (fun h0 => ?_) (fun h0 => ?_))))))))
  ·omega
  ·refine run_skip (qN rfl (zqm rfl (qV (ynk rfl) (qV (yfa fl97_2 rfl) (qV (yld U34 rfl rfl Ax rfl) (zqm rfl (qV (yis U34 ti3 rfl rfl (by omega)) (qV (yldc U3 rfl rfl (by rw [o5.cell]; rw [Nat.zero_add, Nat.mul_one]; exact GG)) ?_)))))))); refine zqd rfl rfl (qV (yis U34 ti3 rfl rfl (by omega)) (rEffP rfl (zst ti3 rfl rfl rfl o5 (by omega)) ?_)); rintro w2 ⟨jn, am⟩; have cP := cD.kp am; have eQ := am.size; have EP := cP.blk; rw [Nat.zero_add, Nat.mul_one] at jn; have su := am.blk bD (by omega); refine rEnd (Run.qb (e := [(0, _), (3, _), (6, _), (8, _), (9, _), (10, _), (11, _)]) ?_); refine qN rfl (zqm rfl (qV (ynk rfl) (qV (yfa fl97_1 rfl) (qV (yld U33 rfl rfl EP rfl) (zqm rfl (qV (yis U33 ti54 rfl rfl (by omega)) (qV (yfa fl54_1 rfl) (qV (yldc U9 rfl rfl (rd_pg1 cP.rd ab hy)) (zqc [.tmp 50] cf86 rfl (rdecode_ret y.2 (ht y ou) w2) ?_))))))))); rintro v3 w3 ⟨ah, gV⟩; obtain ⟨n, kv, vv, cv, x, rfl, hP, EQ, GH⟩ := dec_uni gV; obtain ⟨ka, kac, k7, -⟩ := hP.keys.rd.shape; obtain ⟨va, vac, vy, -⟩ := hP.vals.rd.shape; obtain ⟨ca, cac, vz, -⟩ := hP.kids.rd.shape; subst k7; subst vy; subst vz; unfold ndv; refine zqm rfl (qV (yex rfl rfl) (qV (yex rfl rfl) (rValP rfl rfl (pal (cs := [_, _, _, _]) ti130 rfl) ?_))); rintro _ w4 ⟨b12, rfl, EJ, aC, aW⟩; refine rEffP rfl (zstA ti130 rfl rfl rfl rfl aW (by simp)) ?_; rintro w5 ⟨bx, bh⟩; have fG : Blk w5 b12 [.bool n.leaf, .slice ka n.keys.length kac, .slice va n.vals.length vac, .slice ca n.kids.length cac] 130 := bx; have jK := ah.size; have jq := aC.size; have Js := aW.lt; have nI : Ext w3 w5 := aC.trans_new bh (fun j hj => by omega); have lS := ah.trans nI; have kW := lS.size; have Ay := hP.kp nI.kp (fun _ _ => id); have Bq : ∀ g, ownP (.slice ka n.keys.length kac) (.slice va n.vals.length vac) (.slice ca n.kids.length cac) g → g < w3.heap.size := fun g hg => hP.lt hg; have rn := cP.ext lS; have GI := lS.blk jn; have ER := lS.blk su; have jT : Kp (fun k => k = mb) w w5 := (aa.kp.trans am).trans lS.kp; have wJ := rn.blk; refine zqa rfl (rEnd (run_seq (run_seq (run_cut (fun e' w' => ∃ f : Bool, e' = [(0, ptr q 0), (3, .bool rt), (6, ptr b6 0), (12, ptr b12 0), (81, .bool f)] ∧ Ext w5 w' ∧ (f = true → NoSub z (nodesOf z l) V rt y.1 lo hi) ∧ (f = false → nodesOf z l y.1 = some n ∧ y.1 ∉ V)) ?ot (fun ot => ?wI)))))
   case ot =>
    rintro e' w6 ⟨f, rfl, aO, ll, qY⟩; refine run_cond rfl (fun ju => ?_) (fun ju => ?_)
    ·refine qN rfl (zqa rfl (zqa rfl (zqa rfl (rEnd (run_ret Tryz.func54 rfl ?_))))); exact ⟨_, rfl, bP (jT.trans aO.kp) (ll ju)⟩
    ·obtain ⟨hn, jk⟩ := qY ju; have lT : NdOk z n := (nodesOf_ok hn).1.ok; have bj := Ay.bd; have Gw := bj.cl; have ws := bj.kl; obtain rfl : cnt = 0 := fy.2.elim (fun e => e.1) (fun e => absurd e.2 jk); have nY := rn.ext aO
     have zM : Blk w6 mb (metC l (y.1 :: V)) 3 := by
      rw [← metC_set nD hy jk]; exact aO.blk GI
     have ES := aO.blk ER; have mq := aO.blk fG; have xx := Ay.kp aO.kp (fun _ _ => id); have i7 := jT.trans aO.kp; have nS := aO.size; have jl := nY.blk; refine run_skip (qN rfl (zqm rfl (qV (ynk rfl) (qV (yfa fl97_0 rfl) (qV (yld U3 rfl rfl jl rfl) (zqc [.tmp 86] cf87 rfl (rorder_ok hz _) ?_)))))); rintro _ w6 ⟨rfl, rfl⟩; refine zqm rfl (qV (yex rfl rfl) (qV (yex rfl rfl) (zqa rfl (zqa rfl (rEnd (run_seq (run_seq (run_cut (fun e' w' => ∃ g : Bool, e' = [(0, ptr q 0), (6, ptr b6 0), (12, ptr b12 0), (134, .bool g)] ∧ Ext w6 w' ∧ (g = true → NoSub z (nodesOf z l) V rt y.1 lo hi) ∧ (g = false → if rt = true then n.keys ≠ [] else ¬ n.low z)) ?xy (fun xy => ?Fd)))))))))
     case xy =>
      rintro e' w7 ⟨g, rfl, aF, aE, ag⟩; have gd := i7.trans aF.kp; refine run_cond rfl (fun ew => ?_) (fun ew => ?_)
      ·refine qN rfl (zqa rfl (zqa rfl (zqa rfl (rEnd (run_ret Tryz.func54 rfl ?_))))); exact ⟨_, rfl, bP gd (aE ew)⟩
      ·have pY := ag ew; have jt := nY.ext aF; have EA := aF.blk zM; have Az := aF.blk ES; have u0 := aF.blk mq; have BW := xx.kp aF.kp (fun _ _ => id); have kV := aF.size; refine run_skip (run_seq (qN rfl (zqa rfl (rEnd (run_block (run_cut2 (fun e' w' => e' = [(0, ptr q 0), (6, ptr b6 0), (12, ptr b12 0)] ∧ Ext w7 w' ∧ ∀ k ∈ n.keys, inB lo hi k) ?cn (fun cn => ?wy)))))))
       case cn =>
        rintro e' w8 ⟨rfl, au, cA⟩; have lX := gd.trans au.kp; have rf := jt.ext au; have GJ := au.blk EA; have sJ := au.blk Az; have eX := au.blk u0; have yt := BW.kp au.kp (fun _ _ => id); have mI := au.size; have Jt := rf; have KJ : w.heap.size ≤ w8.heap.size := by omega
        have C3 : ∀ g, ownP (.slice ka n.keys.length kac) (.slice va n.vals.length vac) (.slice ca n.kids.length cac) g → g ≠ mb := fun g hg => by
         have := EQ g hg; omega
        have qw : ∀ x, nodesOf z l x ≠ none → x ∈ l.map (·.1) := fun x hx => by
         obtain ⟨m, hm⟩ := Option.ne_none_iff_exists'.1 hx; exact (nodesOf_ok hm).2
        have bK : y.1 ∈ l.map (·.1) := List.mem_map.2 ⟨y, ou, rfl⟩; have l0 : (l.map (·.1)).length = l.length := by simp
        have Eb : V.length < l.length := by
         have : (y.1 :: V).length ≤ (l.map (·.1)).length := List.Nodup.length_le_of_subset (List.nodup_cons.2 ⟨jk, xr⟩) (fun x hx => by
          rcases List.mem_cons.1 hx with rfl | hx
          ·exact bK
          ·exact xt x hx)
         rw [List.length_cons] at this; omega
        refine qN rfl (zqa rfl (rEnd (run_seq (qN rfl (qV (yfa fl130_0 rfl) (qV (yld U4 rfl rfl eX rfl) ?_)))))); rcases nd_cases lT with ⟨E, rfl⟩ | ⟨c, ps, rfl⟩
        ·have KK : (leafNd E).keys.length = E.length := by simp [leafNd]
         have KL : (leafNd E).vals.length = E.length := by simp [leafNd]
         have fe : E.length ≤ 100000 := by omega
         refine rEnd (run_true rfl (run_seq (qN rfl (zqa rfl (rEnd (run_block (zqu (α := Nat × Value) ((0, .slice none 0 0)) (fun x => [(12, ptr b12 0), (17, x.2), (18, I (x.1 : Int))]) (fun x w' => x.1 ≤ E.length ∧ Ext w8 w' ∧ Sl w' x.2 41 2 (E.take x.1).length (esC (E.take x.1)) ∧ ∀ g, x.2.ownBlock = some g → w8.heap.size ≤ g) (fun x => E.length - x.1) ?hI ?hround)))))))
         case hI => exact ⟨Nat.zero_le _, Ext.refl _, Sl.nil _ _ _, fun g hg => by simp [Value.ownBlock] at hg⟩
         case hround =>
          rintro ⟨j, ov⟩ w9 ⟨hj, fM, bJ, cj⟩ ih; dsimp only at hj bJ cj; have nX : (E.take j).length = j := by rw [List.length_take]; omega
          have iP := fM.blk eX; have AA := yt.keys.rd; have GK := yt.vals.rd
          try dsimp only
          refine run_seq (qN rfl (zqm rfl (qV (yfa fl130_1 rfl) (qV (yld U23 rfl rfl iP rfl) (qV (yln U23 rfl) (qV (ylt rfl rfl) (rEnd (run_if rfl (fun af => ?_) (fun af => ?_)))))))))
          ·have ix : j < E.length := by omega
           obtain ⟨x, hx⟩ : ∃ x, E[j]? = some x := ⟨_, List.getElem?_eq_getElem ix⟩; obtain ⟨kb, ko, s, rfl, hs⟩ := rd_getsK AA (by simp) (show j < _ by omega); obtain ⟨kb2, ko2, s2, rfl, cB⟩ := rd_getsK GK (by simp) (show j < _ by omega); have es : s = x.1 := by simp [leafNd, hx] at hs; exact hs.symm
           have es2 : s2 = x.2 := by simp [leafNd, hx] at cB; exact cB.symm
           have hg : Ext w8 w9.drew := fM.trans (Ext.drew0 w9); refine run_skip (run_seq (run_block (run_draw (fun w' => Ext w8 w') (by kernel_rfl) rfl (zqt 0 rfl (ymv rfl) hg (zqt 1 rfl (yfa fl130_1 rfl) hg (qT 2 rfl (fun _ h=>yld U23 rfl rfl (h.blk eX) rfl) hg (zqt 3 rfl (ymv rfl) hg (zqt 4 rfl (yis U23 ti9 rfl rfl (by omega)) hg (zqt 6 rfl (yfa fl130_2 rfl) hg (qT 7 rfl (fun _ h=>yld U23 rfl rfl (h.blk eX) rfl) hg (zqt 8 rfl (ymv rfl) hg (zqt 9 rfl (yis U23 ti9 rfl rfl (by omega)) hg (qT 5 rfl (fun _ h=>yldc U9 rfl rfl (rd_str (AA.ext h) (by omega) hs)) hg ?_))))))))))))); refine qT 10 rfl (fun _ h=>yldc U9 rfl rfl (rd_str (GK.ext h) (by omega) cB)) hg ?_; rw [es, es2]; refine zqt 11 rfl (ybd (parts := [(0, .tmp 164), (1, .tmp 169)]) (cs := [_, _]) ti41 rfl sp41 rfl rfl) hg (qO 12 (nValP (i := 12) rfl rfl rfl (pbs (parts := [(0, .tmp 170)]) (cs := [_, _]) (zs := [Value.string ⟨#[]⟩, Value.string ⟨#[]⟩]) U30 ti41 rfl (by kernel_rfl) rfl rfl rfl (by decide)) ?_)); rintro _ w10 ⟨b10, rfl, ⟨Ju, ef, bN⟩, iv⟩; refine ⟨hg.trans ef, ?_⟩; have ox := fM.size; have GL := (hg.trans ef).size; refine qO 13 (nValP (i := 13) rfl rfl rfl (pap U30 ti41 rfl (by decide) rfl rfl (bJ.ext ((Ext.drew0 w9).trans ef)) iv.rd (by intro c hc; simp at hc; rcases hc with rfl | rfl <;> rfl) (by omega) (by omega)) ?_); rintro ov2 w11 ⟨kM, dA, qA, -⟩; refine ⟨(hg.trans ef).trans_new dA (fun i hi => cj i hi), ?_⟩; refine zqt 14 rfl (yas rfl) ((hg.trans ef).trans_new dA (fun i hi => cj i hi)) (qE (run_inBlock (run_reg rfl (zqm rfl (zqd rfl rfl (zqa rfl (rEnd ((ih (j + 1, ov2) w11 ⟨by dsimp only; omega, (hg.trans ef).trans_new dA (fun i hi => cj i hi), ?_, fun g aA => ?_⟩ (by dsimp only; omega)).qb))))))))
           ·obtain ⟨h1, h2⟩ := List.getElem?_eq_some_iff.1 hx; dsimp only; rw [List.take_succ_eq_append_getElem h1, h2, esC_app, esC_one, List.length_append]; exact kM
           ·rcases qA g aA with e | e
            ·exact cj g e
            ·omega
          ·have ET : j = E.length := by omega
           subst ET; rw [List.take_length] at bJ; refine run_exit rfl (qN rfl (zqm rfl (zqa rfl (zqa rfl (zqa rfl (rEnd (run_ret Tryz.func54 rfl ?_))))))); exact ⟨_, rfl, lX.trans fM.kp, .inl ⟨1, [y.1], E, ov, rfl, sub1_leaf hz hn lT cA jk pY, bJ, fun g hg => by have := cj g hg; omega, fM.blk GJ, by simp; omega⟩⟩
        ·have kcl : (innNd c ps).kids.length = ps.length + 1 := by simp [innNd]
         have kkl : (innNd c ps).keys.length = ps.length := by simp [innNd]
         have EU := bj.cl; rw [kcl] at EU; have qB : b12 ≠ mb := by omega
         have wv : b6 ≠ mb := by omega
         refine rEnd (run_false rfl (run_skip (qN rfl (zqa rfl (rEnd (run_seq (qN rfl (zqa rfl (rEnd (run_block (zqu (α := List (List Int × Es) × Nat × Value) (([], 0, .slice none 0 0)) (fun x => [(0, ptr q 0), (6, ptr b6 0), (12, ptr b12 0), (17, x.2.2), (19, I (x.2.1 : Int)), (20, I (x.1.length : Int))]) (fun x w' => KidsU z (nodesOf z l) V y.1 lo hi c ps x.2.1 x.1 ∧ Kp (fun k => k = mb) w8 w' ∧ Sl w' x.2.2 41 2 (x.1.flatMap (·.2)).length (esC (x.1.flatMap (·.2))) ∧ (∀ g, x.2.2.ownBlock = some g → w8.heap.size ≤ g) ∧ Blk w' mb (metC l (x.1.flatMap (·.1) ++ y.1 :: V)) 3 ∧ (x.1.flatMap (·.2)).length ≤ (x.1.flatMap (·.1)).length * 100000 ∧ x.2.1 ≤ 1000000) (fun x => ps.length + 1 - x.1.length) ?hI ?hround)))))))))))
         case hI => exact ⟨KidsU.nil 0, Kp.refl _ _, Sl.nil _ _ _, fun g hg => by simp [Value.ownBlock] at hg, GJ, Nat.le_refl _, Nat.zero_le _⟩
         case hround =>
          rintro ⟨L, hh, ov⟩ w9 ⟨K, aB, bJ, cj, EV, AB, Ee⟩ ih; dsimp only at K bJ cj EV AB Ee; have GM := rf.kp aB; have iP := aB.blk eX qB; have ls := aB.blk sJ wv; have C4 := Sl.rd (yt.keys.kp aB (fun g hg => C3 g (.inl hg))); have GN := Sl.rd (yt.kids.kp aB (fun g hg => C3 g (.inr (.inr hg)))); have AC := lX.trans aB; have ox := aB.size; have J5 := K.len; have sy : (L.flatMap (·.1) ++ y.1 :: V).Nodup := List.nodup_append.2 ⟨K.nd, List.nodup_cons.2 ⟨jk, xr⟩, fun x hx v hv e => K.out x hx (e ▸ hv)⟩
          have q8 : ∀ x ∈ L.flatMap (·.1), x ∈ l.map (·.1) := fun x hx => by
           obtain ⟨u, hu, nV⟩ := List.mem_flatMap.1 hx; obtain ⟨j, ix, e⟩ := List.getElem_of_mem hu; have hb := K.bn j _ u (List.getElem?_eq_getElem (by rw [bnds_length]; omega)) (by rw [List.getElem?_eq_getElem ix, e]); exact qw x (hb.1.some x nV)
          have sz : ∀ x ∈ L.flatMap (·.1) ++ y.1 :: V, x ∈ l.map (·.1) := fun x hx => by
           rcases List.mem_append.1 hx with hx | hx
           ·exact q8 x hx
           ·rcases List.mem_cons.1 hx with rfl | hx
            ·exact bK
            ·exact xt x hx
          have tv := List.Nodup.length_le_of_subset K.nd q8; have Eg : V.length + 1 ≤ (L.flatMap (·.1) ++ y.1 :: V).length := by rw [List.length_append, List.length_cons]; omega
          try dsimp only
          refine run_seq (qN rfl (zqm rfl (qV (yfa fl130_3 rfl) (qV (yld U82 rfl rfl iP rfl) (qV (yln U82 rfl) (qV (ylt rfl rfl) (rEnd (run_if rfl (fun ji => ?_) (fun ji => ?_)))))))))
          ·have cE : L.length < ps.length + 1 := by omega
           obtain ⟨a, lo', ab, hb, ha, mE, sA⟩ := bnds_get hi ps lo c L.length (by omega); have vh := bj.cs a (List.mem_of_getElem? (show (innNd c ps).kids[_]? = some a from ha)); refine run_skip (run_seq (run_block (qN rfl (qV (yldA U100 rfl ti100 rfl (Blk.cells (n := 3) ls (news := [_, _, _]) rfl) rfl) (rValP rfl rfl (pal (cs := [_, _, _]) ti100 rfl) ?_))))); rintro _ w10 ⟨b21, rfl, Jv, ef, bN⟩; refine rEffP rfl (zstA ti100 rfl rfl rfl rfl bN (by simp)) ?_; rintro w11 ⟨lU, dA⟩; have wK : Blk w11 b21 [S lo, S tb, .bool hi.isSome] 100 := lU; have Jw := bN.lt; have i5 := ef.size; have eY : Ext w9 w11 := ef.trans_new dA (fun j hj => by omega); have Ex := eY.size; have Jx := wK.lt; refine rEnd (run_seq (qN rfl (zqm rfl (qV (ygt rfl rfl) (rEnd (run_cut (fun e' w' => e' = [(0, ptr q 0), (6, ptr b6 0), (12, ptr b12 0), (17, ov), (19, I (hh : Int)), (20, I (L.length : Int)), (21, ptr b21 0)] ∧ Blk w' b21 [S lo', S tb, .bool hi.isSome] 100 ∧ Ext w9 w') ?EW (fun EW => ?Fc)))))))
           case EW =>
            rintro e' w12 ⟨rfl, qC, aI⟩; have qD := aI.blk iP; refine run_seq (qN rfl (zqm rfl (qV (yfa fl130_1 rfl) (qV (yld U23 rfl rfl qD rfl) (qV (yln U23 rfl) (qV (ylt rfl rfl) (rEnd (run_cut (fun e' w' => e' = [(0, ptr q 0), (6, ptr b6 0), (12, ptr b12 0), (17, ov), (19, I (hh : Int)), (20, I (L.length : Int)), (21, ptr b21 0)] ∧ (∃ tb', Blk w' b21 [S lo', S tb', .bool ab.isSome] 100 ∧ spanOk ab tb') ∧ Ext w9 w') ?f9 (fun f9 => ?F0)))))))))
            case f9 =>
             rintro e' w13 ⟨rfl, ⟨tb', qF, wn⟩, aq⟩; obtain ⟨cb, co, a', rfl, DG⟩ := rd_getuN GN rfl (show L.length < _ by omega); have qG := aq.blk iP; have EX := GN.ext aq; have GO := qF.lt; have uz := aq.size; have hg := Ext.drew0 w13; have u6 : b21 ≠ mb := by omega
             refine run_seq (run_draw (fun w' => Kp (fun k => k = mb) w13 w') (by kernel_rfl) rfl (zqt 0 rfl (ymv rfl) (hg.kp) (zqt 1 rfl (yfa fl130_3 rfl) (hg.kp) (qT 2 rfl (fun _ h=>(by first | exact yld U82 rfl rfl (h.blk qG qB) rfl | exact yld U82 rfl rfl (h.blk qF u6) rfl)) (hg.kp) ?_)))); refine zqt 3 rfl (ymv rfl) (hg.kp) (zqt 4 rfl (yis U82 ti89 rfl rfl (by omega)) (hg.kp) (qT 7 rfl (fun _ hS => (by first | exact yldA U100 rfl ti100 rfl (Blk.cells (n := 3) (hS.blk qG qB) (news := [_, _, _]) rfl) rfl | exact yldA U100 rfl ti100 rfl (Blk.cells (n := 3) (hS.blk qF u6) (news := [_, _, _]) rfl) rfl)) (hg.kp) ?_)); refine qT 5 rfl (fun _ hS => yldc U89 rfl rfl (rd_u32 (EX.kp hS (fun g hg => C3 g (.inr (.inr hg)))) (by omega) ha)) (hg.kp) (zqt 6 rfl (ycvSi64 rfl U89 U3 (by omega)) (hg.kp) (zqo 8 [.tmp 204, .tmp 210, .tmp 211, .const (Value.bool false)] rfl cf54 rfl (ihk (k - 1) (by omega) _ (a : Int) lo' ab tb' (L.flatMap (·.1) ++ y.1 :: V) false ((GM.ext aq).ext hg) (hg.blk (aq.blk EV)) sy sz (by omega) wn) ?_)); rintro v14 w14 ⟨ac, EY⟩; refine ⟨hg.kp.trans ac, ?_⟩; have mr : Kp (fun k => k = mb) w9 w14 := (aq.trans hg).kp.trans ac; have u9 := AC.trans mr; rcases EY with ⟨d, n5, e5, ov5, rfl, s5, cf, BZ, EZ, Jy⟩ | ⟨rfl, wx⟩
             ·have KM := List.Nodup.length_le_of_subset s5.nd (fun x hx => qw x (s5.bn.some x hx))
              have m6 : d ≤ 1000000 := by
               have h1 := bn_height hz s5.bn; omega
              have e1 : (L ++ [(n5, e5)]).flatMap (·.1) = L.flatMap (·.1) ++ n5 := by simp
              have e2 : (L ++ [(n5, e5)]).flatMap (·.2) = L.flatMap (·.2) ++ e5 := by simp
              have e3 : ((L.length : Int) + 1) = (((L ++ [(n5, e5)]).length : Nat) : Int) := by simp
              have cI : Sl w14 ov 41 2 (L.flatMap (·.2)).length (esC (L.flatMap (·.2))) := bJ.kp mr (fun g aA e => by have := cj g aA; omega)
              have kF : KidsU z (nodesOf z l) V y.1 lo hi c ps d (L ++ [(n5, e5)]) → ∀ (w15 : World) (ov2 : Value), Sl w15 ov2 41 2 ((L.flatMap (·.2)).length + e5.length) (esC (L.flatMap (·.2)) ++ esC e5) → Kp (fun k => ov.ownBlock = some k) w14 w15 → (∀ g, ov2.ownBlock = some g → ov.ownBlock = some g ∨ w14.heap.size ≤ g) → KidsU z (nodesOf z l) V y.1 lo hi c ps d (L ++ [(n5, e5)]) ∧ Kp (fun k => k = mb) w8 w15 ∧ Sl w15 ov2 41 2 ((L ++ [(n5, e5)]).flatMap (·.2)).length (esC ((L ++ [(n5, e5)]).flatMap (·.2))) ∧ (∀ g, ov2.ownBlock = some g → w8.heap.size ≤ g) ∧ Blk w15 mb (metC l ((L ++ [(n5, e5)]).flatMap (·.1) ++ y.1 :: V)) 3 ∧ ((L ++ [(n5, e5)]).flatMap (·.2)).length ≤ ((L ++ [(n5, e5)]).flatMap (·.1)).length * 100000 ∧ d ≤ 1000000 := fun K' w15 ov2 qH bI qI => by
               rw [e1, e2]; refine ⟨K', (aB.trans mr).trans_new bI (fun i hi => .inl (cj i hi)), ?_, fun g aA => ?_, ?_, ?_, m6⟩
               ·rw [esC_app, List.length_append]; exact qH
               ·rcases qI g aA with e | e
                ·exact cj g e
                ·have := mr.size; omega
               ·refine bI.blk ?_ (fun e => by have := cj mb e; omega); rw [metC_same (V' := n5 ++ (L.flatMap (·.1) ++ y.1 :: V)) (fun x => by simp only [List.mem_append]; exact ⟨fun h => by rcases h with (h | h) | h; exact .inr (.inl h); exact .inl h; exact .inr (.inr h), fun h => by rcases h with h | h | h; exact .inl (.inr h); exact .inl (.inl h); exact .inr h⟩)]; exact EZ
               ·simp only [List.length_append]; omega
              have ao : ∀ K' : KidsU z (nodesOf z l) V y.1 lo hi c ps d (L ++ [(n5, e5)]), ((L.flatMap (·.2)).length + e5.length) * 32 ≤ 140737488355328 := fun K' => by
               have h1 := List.Nodup.length_le_of_subset K'.nd (l₂ := l.map (·.1)) (fun x hx => by
                rw [e1] at hx; rcases List.mem_append.1 hx with hx | hx
                ·exact q8 x hx
                ·exact qw x (s5.bn.some x hx))
               rw [e1, List.length_append, l0] at h1; omega
              refine zqt 9 rfl (ymv rfl) (hg.kp.trans ac) (zqt 10 rfl (yex rfl rfl) (hg.kp.trans ac) (zqt 11 rfl (yex rfl rfl) (hg.kp.trans ac) (zqt 12 rfl (yex rfl rfl) (hg.kp.trans ac) (zqt 13 rfl (yas rfl) (hg.kp.trans ac) (zqt 14 rfl (yas rfl) (hg.kp.trans ac) (zqt 15 rfl (yas rfl) (hg.kp.trans ac) (qE (run_seq (qN rfl (zqm rfl (qV ((by first | exact yntd rfl | exact ynt rfl)) ?_))))))))))); refine zqm rfl (zqm rfl (qV (ygt rfl rfl) (zqm rfl (rVal_if (fun fV => ?_) (fun fV => ?_)))))
              ·refine zqm rfl (zqm rfl (qV (yne rfl rfl) (qV (ypT rfl rfl) (qV (ypF rfl rfl) (rEnd (run_if rfl (fun aZ => ?_) (fun aZ => ?_)))))))
               ·refine qN rfl (zqa rfl (zqa rfl (zqa rfl (rEnd (run_ret Tryz.func54 rfl ?_))))); exact ⟨_, rfl, bP u9 (kidsU_dep hz hn K (by omega) hb s5 (by omega))⟩
               ·have El : d = hh := by omega
                subst El; have K' := K.step hb s5; have wL := ao K'; refine run_skip (qN rfl (zqm rfl (zqa rfl (rEnd (run_reg rfl (zqm rfl (zqm rfl (rValP rfl rfl (pap U30 ti41 rfl (by decide) rfl rfl cI cf.rd (esC_one1 _) wL (by omega)) ?_)))))))); rintro ov2 w15 ⟨qH, bI, qI, -⟩; refine zqa rfl (rEnd (run_inBlock (run_reg rfl (zqm rfl (zqd rfl rfl (zqa rfl (rEnd ?_))))))); rw [e3]; exact (ih (L ++ [(n5, e5)], d, ov2) w15 (kF K' w15 ov2 qH bI qI) (by simp; omega)).qb
              ·have vt : L = [] := List.eq_nil_of_length_eq_zero (by omega)
               have K' : KidsU z (nodesOf z l) V y.1 lo hi c ps d (L ++ [(n5, e5)]) := by
                subst vt; exact (KidsU.nil d).step hb s5
               have wL := ao K'; refine qS (qS (qS (qV (ypF rfl rfl) (qV (ypF rfl rfl) (rEnd (run_false rfl (run_skip (qN rfl (zqm rfl (zqa rfl (rEnd (run_reg rfl (zqm rfl ?_))))))))))))); refine zqm rfl (rValP rfl rfl (pap U30 ti41 rfl (by decide) rfl rfl cI cf.rd (esC_one1 _) wL (by omega)) ?_); rintro ov2 w15 ⟨qH, bI, qI, -⟩; refine zqa rfl (rEnd (run_inBlock (run_reg rfl (zqm rfl (zqd rfl rfl (zqa rfl (rEnd ?_))))))); rw [e3]; exact (ih (L ++ [(n5, e5)], d, ov2) w15 (kF K' w15 ov2 qH bI qI) (by simp; omega)).qb
             ·refine zqt 9 rfl (ymv rfl) (hg.kp.trans ac) (zqt 10 rfl (yex rfl rfl) (hg.kp.trans ac) (zqt 11 rfl (yex rfl rfl) (hg.kp.trans ac) (zqt 12 rfl (yex rfl rfl) (hg.kp.trans ac) (zqt 13 rfl (yas rfl) (hg.kp.trans ac) (zqt 14 rfl (yas rfl) (hg.kp.trans ac) (zqt 15 rfl (yas rfl) (hg.kp.trans ac) (qE (run_seq (qN rfl (zqm rfl (qV ((by first | exact yntd rfl | exact ynt rfl)) ?_))))))))))); refine zqm rfl (qS (qS (qS (qS (qS (qS (qS (qV (ypT rfl rfl) (rEnd (run_true rfl (qN rfl (zqa rfl (zqa rfl ?_))))))))))))); refine zqa rfl (rEnd (run_ret Tryz.func54 rfl ?_)); exact ⟨_, rfl, bP u9 (kidsU_no hz hn K hb wx)⟩
            case F0 =>
             have GP := qC.lt; refine run_if rfl (fun rB => ?_) (fun rB => ?_)
             ·obtain ⟨k1, e1, hj, rfl⟩ : ∃ k1, L.length < ps.length ∧ (ps.map (·.1))[L.length]? = some k1 ∧ ab = some k1 := sA.elim (fun e => by have := e.1; omega) id; have bG : (innNd c ps).keys[L.length]? = some k1 := hj; obtain ⟨kb, ko, s', rfl, -⟩ := rd_getsK C4 (by simp) (show L.length < _ by omega); refine qN rfl (qV (yfa fl130_1 rfl) (qV (yld U23 rfl rfl qD rfl) (zqm rfl (qV (yis U23 ti9 rfl rfl (by omega)) (qV (yldc U9 rfl rfl (rd_str (C4.ext aI) (by omega) bG)) (qV (yfa fl100_1 rfl) (rEffP rfl (zst ti9 rfl rfl rfl qC (by simp)) ?_))))))); rintro w13 ⟨AD, iY⟩; refine rEnd (run_reg rfl (qV (yfa fl100_2 rfl) (rEffP rfl (zst ti4 rfl rfl rfl AD (by simp)) ?_))); rintro w14 ⟨AE, ac⟩; refine rEnd ?_; exact (f9 _ _ ⟨rfl, ⟨k1, AE, fun u hu => by cases hu; rfl⟩, (aI.trans_new iY (fun j hj => by omega)).trans_new ac (fun j hj => by omega)⟩).qb
             ·obtain rfl : ab = hi := sA.elim (fun e => e.2) (fun e => by obtain ⟨k1, e, -⟩ := e; omega); refine run_skip ?_; exact (f9 _ _ ⟨rfl, ⟨tb, qC, sr⟩, aI⟩).qb
           case Fc =>
            refine run_if rfl (fun fV => ?_) (fun fV => ?_)
            ·obtain ⟨j, ej, hj⟩ : ∃ j, L.length = j + 1 ∧ (ps.map (·.1))[j]? = some lo' := mE.elim (fun e => by have := e.1; omega) id; have bG : (innNd c ps).keys[j]? = some lo' := hj; obtain ⟨kb, ko, s', rfl, -⟩ := rd_getsK C4 (by simp) (show j < _ by omega); have wM := eY.blk iP; refine run_reg rfl (qV (yfa fl130_1 rfl) (qV (yld U23 rfl rfl wM rfl) (zqm rfl (qV (ysb rfl rfl (by omega)) ?_)))); rw [show ((L.length : Int) - 1) = ((j : Nat) : Int) by omega]; refine qV (yis U23 ti9 rfl rfl (by omega)) (qV (yldc U9 rfl rfl (rd_str (C4.ext eY) (by omega) bG)) (qV (yfa fl100_0 rfl) (rEffP rfl (zst ti9 rfl rfl rfl wK (by simp)) ?_))); rintro w12 ⟨AF, dT⟩; refine rEnd ?_; exact (EW _ _ ⟨rfl, AF, eY.trans_new dT (fun j hj => by omega)⟩).qb
            ·obtain rfl : lo' = lo := mE.elim (fun e => e.2) (fun e => by obtain ⟨j, e, -⟩ := e; omega); refine run_skip ?_; exact (EW _ _ ⟨rfl, wK, eY⟩).qb
          ·have tv : L.length = ps.length + 1 := by omega
           refine run_exit rfl (qN rfl (zqm rfl (zqm rfl (zqd rfl rfl (zqa rfl (zqa rfl (zqa rfl (rEnd (run_ret Tryz.func54 rfl (⟨_, rfl, AC, .inl ⟨hh + 1, y.1 :: L.flatMap (·.1), L.flatMap (·.2), ov, by simp [resVal], kidsU_all hz hn lT cA K tv jk pY, bJ, fun g hg => by have := cj g hg; omega, ?_, Nat.le_trans AB (Nat.mul_le_mul_right _ (Nat.le_succ _))⟩⟩)))))))))); rw [metC_same (V' := L.flatMap (·.1) ++ y.1 :: V) (fun x => by simp only [List.mem_append, List.mem_cons]; exact ⟨fun h => by rcases h with (h | h) | h; exact .inr (.inl h); exact .inl h; exact .inr (.inr h), fun h => by rcases h with h | h | h; exact .inl (.inr h); exact .inl (.inl h); exact .inr h⟩)]; exact EV
       case wy =>
        refine zqu (α := Nat) (0) (fun i => [(0, ptr q 0), (6, ptr b6 0), (12, ptr b12 0), (16, I (i : Int))]) (fun i w' => i ≤ n.keys.length ∧ Ext w7 w' ∧ ∀ k ∈ n.keys.take i, inB lo hi k) (fun i => n.keys.length - i) ?hI ?hround
        case hI => exact ⟨Nat.zero_le _, Ext.refl _, by simp⟩
        case hround =>
         rintro j w8 ⟨hj, au, aH⟩ ih; have eX := au.blk u0; have sJ := au.blk Az; have AA := BW.keys.rd.ext au; have lX := gd.trans au.kp
         try dsimp only
         refine run_seq (qN rfl (zqm rfl (qV (yfa fl130_1 rfl) (qV (yld U23 rfl rfl eX rfl) (qV (yln U23 rfl) (qV (ylt rfl rfl) (rEnd (run_if rfl (fun af => ?_) (fun af => ?_)))))))))
         ·have ix : j < n.keys.length := by omega
          obtain ⟨kb, ko, s, rfl, hs⟩ := rd_getsK AA (by simp) ix; have xf := List.mem_of_getElem? hs; have hg := Ext.drew0 w8; refine run_skip (run_seq (run_block (run_seq (run_draw (fun w' => Ext w8 w') (by kernel_rfl) rfl (qT 0 rfl (fun _ hS => (by first | exact yldA U100 rfl ti100 rfl (Blk.cells (n := 3) (hS.blk eX) (news := [_, _, _]) rfl) rfl | exact yldA U100 rfl ti100 rfl (Blk.cells (n := 3) (hS.blk sJ) (news := [_, _, _]) rfl) rfl)) hg ?_))))); refine zqt 1 rfl (yfa fl130_1 rfl) hg (qT 2 rfl (fun _ h=>(by first | exact yld U23 rfl rfl (h.blk eX) rfl | exact yld U23 rfl rfl (h.blk sJ) rfl)) hg ?_); refine zqt 3 rfl (ymv rfl) hg (zqt 4 rfl (yis U23 ti9 rfl rfl (by omega)) hg (qT 5 rfl (fun _ h=>yldc U9 rfl rfl (rd_str (AA.ext h) ix hs)) hg (zqo 6 [.tmp 142, .tmp 147] rfl cf89 rfl (inside_ret sr s _) ?_))); rintro v9 w9 ⟨fM, qn, rfl, jS⟩; refine ⟨hg.trans fM, ?_⟩; refine zqt 7 rfl ((by first | exact yntd rfl | exact ynt rfl)) (hg.trans fM) ?_; refine qE (run_cond rfl (fun i0 => ?_) (fun i0 => ?_))
          ·refine qN rfl (zqa rfl (zqa rfl (zqa rfl (rEnd (run_ret Tryz.func54 rfl (⟨_, rfl, bP (lX.trans (hg.trans fM).kp) (nosub_key hn xf (fun hh => ?_))⟩)))))); rw [jS.2 hh] at i0; cases i0
          ·refine run_skip (run_inBlock (run_reg rfl (zqm rfl (zqd rfl rfl (zqa rfl (rEnd ((ih (j + 1) _ ⟨by omega, au.trans (hg.trans fM), fun k hk => ?_⟩ (by omega)).qb))))))); rcases (mem_take_succ hs).1 hk with hk | rfl
           ·exact aH k hk
           ·exact jS.1 (by simpa using i0)
         ·rw [List.take_of_length_le (by omega)] at aH; refine run_exit rfl ?_; exact (cn _ _ ⟨rfl, au, aH⟩).qb
     case Fd =>
      have hg := Ext.drew0 w6
      cases rt with
      | true =>
        refine run_draw (fun w' => Ext w6 w') (by kernel_rfl) rfl (zqt 0 rfl (ymv rfl) hg (zqt 1 rfl (ymv rfl) hg (zqt 2 rfl (yfa fl130_1 rfl) hg (qT 3 rfl (fun _ h=>(by first | exact yld U23 rfl rfl (h.blk jl) rfl | exact yld U23 rfl rfl (h.blk mq) rfl)) hg ?_)))); refine zqt 4 rfl (yln U23 rfl) hg (zqt 5 rfl (ylt rfl rfl) hg (zqt 6 rfl (ypT rfl rfl) hg (zqt 7 rfl (ymv rfl) hg (rh_if (fun h1 => ?_) (fun h1 => ?_)))))
        ·refine qJ 8 rfl (hg) (qJ 9 rfl (hg) (qJ 10 rfl (hg) (qJ 11 rfl (hg) (qJ 12 rfl (hg) (qJ 13 rfl (hg) (qJ 14 rfl (hg) (qJ 15 rfl (hg) (qJ 16 rfl (hg) (qJ 17 rfl (hg) (qJ 18 rfl (hg) (qJ 19 rfl (hg) (qJ 20 rfl (hg) (qJ 21 rfl (hg) ?_))))))))))))); refine qJ 22 rfl (hg) (qJ 23 rfl (hg) (qJ 24 rfl (hg) (qJ 25 rfl (hg) (zqt 26 rfl (ypT rfl rfl) hg (zqt 27 rfl (ymv rfl) hg (qJ 28 rfl (hg) (qJ 29 rfl (hg) (qJ 30 rfl (hg) (qJ 31 rfl (hg) (qJ 32 rfl (hg) (qJ 33 rfl (hg) (qJ 34 rfl (hg) (qJ 35 rfl (hg) ?_))))))))))))); refine qJ 36 rfl (hg) (qJ 37 rfl (hg) (qJ 38 rfl (hg) (qJ 39 rfl (hg) (qJ 40 rfl (hg) (qJ 41 rfl (hg) (qJ 42 rfl (hg) (qJ 43 rfl (hg) (zqt 44 rfl (ypT rfl rfl) hg (qE (Run.qb (e := [(0, _), (6, _), (12, _), (134, _)]) ?_)))))))))); refine (xy _ _ ⟨true, rfl, hg, fun _ => nosub_cnd hn ?_, fun h => Bool.noConfusion h⟩).qb; rw [if_pos rfl]; intro h; exact h (List.eq_nil_of_length_eq_zero (by omega))
        ·refine zqt 8 rfl (ymv rfl) hg (zqt 9 rfl ((by first | exact yntd rfl | exact ynt rfl)) hg ?_); refine zqt 10 rfl (ymv rfl) hg (qJ 11 rfl (hg) (qJ 12 rfl (hg) (zqt 13 rfl (ypF rfl rfl) hg (zqt 14 rfl (ymv rfl) hg (qJ 15 rfl (hg) (qJ 16 rfl (hg) (qJ 17 rfl (hg) (qJ 18 rfl (hg) (qJ 19 rfl (hg) (qJ 20 rfl (hg) (qJ 21 rfl (hg) (qJ 22 rfl (hg) (qJ 23 rfl (hg) ?_))))))))))))); refine qJ 24 rfl (hg) (zqt 25 rfl (ypF rfl rfl) hg (zqt 26 rfl (ypF rfl rfl) hg (zqt 27 rfl (ymv rfl) hg (zqt 28 rfl (ymv rfl) hg (zqt 29 rfl ((by first | exact yntd rfl | exact ynt rfl)) hg ?_))))); refine zqt 30 rfl (ymv rfl) hg (qJ 31 rfl (hg) (qJ 32 rfl (hg) (qJ 33 rfl (hg) (zqt 34 rfl (ypF rfl rfl) hg (zqt 35 rfl (ymv rfl) hg (qJ 36 rfl (hg) (qJ 37 rfl (hg) (qJ 38 rfl (hg) (qJ 39 rfl (hg) (qJ 40 rfl (hg) (qJ 41 rfl (hg) (qJ 42 rfl (hg) (zqt 43 rfl (ypF rfl rfl) hg ?_))))))))))))); refine zqt 44 rfl (ypF rfl rfl) hg (qE (Run.qb (e := [(0, _), (6, _), (12, _), (134, _)]) ?_)); refine (xy _ _ ⟨false, rfl, hg, fun h => Bool.noConfusion h, fun _ => ?_⟩).qb; rw [if_pos rfl]; intro h; rw [h] at h1
         exact h1 (by simp)
      | false =>
        have C5 : NdR w6 n (.slice ka n.keys.length kac) (.slice va n.vals.length vac) (.slice ca n.kids.length cac) := ⟨xx.keys.rd, xx.vals.rd, xx.kids.rd⟩; have fI := bj.bytes
        cases dE : n.leaf with
        | true =>
          have cW : Blk w6 b12 [.bool true, .slice ka n.keys.length kac, .slice va n.vals.length vac, .slice ca n.kids.length cac] 130 := by rw [← dE]; exact mq
          have GQ := fun (w' : World) (hx : Ext w6 w') => rbytes_ret (n := n) (C5.ext hx) bj; simp only [ndv, dE] at GQ; refine run_draw (fun w' => Ext w6 w') (by kernel_rfl) rfl (zqt 0 rfl (ymv rfl) hg (zqt 1 rfl (ymv rfl) hg (qJ 2 rfl (hg) (qJ 3 rfl (hg) (qJ 4 rfl (hg) (qJ 5 rfl (hg) (zqt 6 rfl (ypF rfl rfl) hg (zqt 7 rfl (ymv rfl) hg (zqt 8 rfl (ymv rfl) hg (zqt 9 rfl ((by first | exact yntd rfl | exact ynt rfl)) hg ?_)))))))))); refine zqt 10 rfl (ymv rfl) hg (zqt 11 rfl (yfa fl130_0 rfl) hg (qT 12 rfl (fun _ h=>(by first | exact yld U4 rfl rfl (h.blk jl) rfl | exact yld U4 rfl rfl (h.blk cW) rfl)) hg ?_)); refine zqt 13 rfl (ypT rfl rfl) hg (zqt 14 rfl (ymv rfl) hg (qT 15 rfl (fun _ hS => (by first | exact yldA U130 rfl ti130 rfl (Blk.cells (n := 4) (hS.blk jl) (news := [_, _, _, _]) rfl) rfl | exact yldA U130 rfl ti130 rfl (Blk.cells (n := 4) (hS.blk cW) (news := [_, _, _, _]) rfl) rfl)) hg ?_)); refine zqt 19 rfl (ymv rfl) hg (zqt 20 rfl (ynk rfl) hg (zqt 21 rfl (yfa fl97_0 rfl) hg (qT 22 rfl (fun _ h=>(by first | exact yld U3 rfl rfl (h.blk jl) rfl | exact yld U3 rfl rfl (h.blk cW) rfl)) hg ?_))); refine zqt 23 rfl (ysb rfl rfl (by omega)) hg (zqo 16 [.tmp 105] rfl cf88 rfl (GQ _ hg) ?_); rintro _ w8 ⟨rfl, au⟩; refine ⟨hg.trans au, ?_⟩; refine zqt 17 rfl (ysb rfl rfl (by omega)) (hg.trans au) (zqt 18 rfl (yml rfl rfl (by omega)) (hg.trans au) (zqt 24 rfl (ylt rfl rfl) (hg.trans au) (zqt 25 rfl (ypT rfl rfl) (hg.trans au) (zqt 26 rfl (ypF rfl rfl) (hg.trans au) (zqt 27 rfl (ymv rfl) (hg.trans au) (rh_if (fun h1 => ?_) (fun h1 => ?_)))))))
          ·refine qJ 28 rfl (hg.trans au) (qJ 29 rfl (hg.trans au) (qJ 30 rfl (hg.trans au) (qJ 31 rfl (hg.trans au) (qJ 32 rfl (hg.trans au) (qJ 33 rfl (hg.trans au) (qJ 34 rfl (hg.trans au) (qJ 35 rfl (hg.trans au) (qJ 36 rfl (hg.trans au) (qJ 37 rfl (hg.trans au) (qJ 38 rfl (hg.trans au) (qJ 39 rfl (hg.trans au) (qJ 40 rfl (hg.trans au) (qJ 41 rfl (hg.trans au) ?_))))))))))))); refine qJ 42 rfl (hg.trans au) (qJ 43 rfl (hg.trans au) (zqt 44 rfl (ypT rfl rfl) (hg.trans au) (qE (Run.qb (e := [(0, _), (6, _), (12, _), (134, _)]) ?_)))); refine (xy _ _ ⟨true, rfl, hg.trans au, fun _ => nosub_cnd hn ?_, fun h => Bool.noConfusion h⟩).qb; rw [if_neg (by simp)]; intro h; refine h ?_; unfold Nd.low; rw [if_pos dE]; omega
          ·refine zqt 28 rfl (ymv rfl) (hg.trans au) (zqt 29 rfl ((by first | exact yntd rfl | exact ynt rfl)) (hg.trans au) ?_); refine zqt 30 rfl (ymv rfl) (hg.trans au) (zqt 31 rfl (yfa fl130_0 rfl) (hg.trans au) (qT 32 rfl (fun _ h=>(by first | exact yld U4 rfl rfl (h.blk jl) rfl | exact yld U4 rfl rfl (h.blk cW) rfl)) (hg.trans au) ?_)); refine zqt 33 rfl ((by first | exact yntd rfl | exact ynt rfl)) (hg.trans au) ?_; refine zqt 34 rfl (ypT rfl rfl) (hg.trans au) (zqt 35 rfl (ymv rfl) (hg.trans au) (qJ 36 rfl (hg.trans au) (qJ 37 rfl (hg.trans au) (qJ 38 rfl (hg.trans au) (qJ 39 rfl (hg.trans au) (qJ 40 rfl (hg.trans au) (qJ 41 rfl (hg.trans au) (qJ 42 rfl (hg.trans au) (zqt 43 rfl (ypF rfl rfl) (hg.trans au) (zqt 44 rfl (ypF rfl rfl) (hg.trans au) (qE (Run.qb (e := [(0, _), (6, _), (12, _), (134, _)]) ?_)))))))))))); refine (xy _ _ ⟨false, rfl, hg.trans au, fun h => Bool.noConfusion h, fun _ => ?_⟩).qb; rw [if_neg (by simp)]; unfold Nd.low; rw [if_pos dE]
           omega
        | false =>
          have cW : Blk w6 b12 [.bool false, .slice ka n.keys.length kac, .slice va n.vals.length vac, .slice ca n.kids.length cac] 130 := by rw [← dE]; exact mq
          refine run_draw (fun w' => Ext w6 w') (by kernel_rfl) rfl (zqt 0 rfl (ymv rfl) hg (zqt 1 rfl (ymv rfl) hg (qJ 2 rfl (hg) (qJ 3 rfl (hg) (qJ 4 rfl (hg) (qJ 5 rfl (hg) (zqt 6 rfl (ypF rfl rfl) hg (zqt 7 rfl (ymv rfl) hg (zqt 8 rfl (ymv rfl) hg (zqt 9 rfl ((by first | exact yntd rfl | exact ynt rfl)) hg ?_)))))))))); refine zqt 10 rfl (ymv rfl) hg (zqt 11 rfl (yfa fl130_0 rfl) hg (qT 12 rfl (fun _ h=>(by first | exact yld U4 rfl rfl (h.blk jl) rfl | exact yld U4 rfl rfl (h.blk cW) rfl)) hg ?_)); refine zqt 13 rfl (ypT rfl rfl) hg (zqt 14 rfl (ymv rfl) hg (qJ 15 rfl (hg) (qJ 16 rfl (hg) (qJ 17 rfl (hg) (qJ 18 rfl (hg) (qJ 19 rfl (hg) (qJ 20 rfl (hg) (qJ 21 rfl (hg) (qJ 22 rfl (hg) (qJ 23 rfl (hg) (qJ 24 rfl (hg) (zqt 25 rfl (ypF rfl rfl) hg (zqt 26 rfl (ypF rfl rfl) hg ?_))))))))))))); refine zqt 27 rfl (ymv rfl) hg (zqt 28 rfl (ymv rfl) hg (zqt 29 rfl ((by first | exact yntd rfl | exact ynt rfl)) hg ?_)); refine zqt 30 rfl (ymv rfl) hg (zqt 31 rfl (yfa fl130_0 rfl) hg (qT 32 rfl (fun _ h=>(by first | exact yld U4 rfl rfl (h.blk jl) rfl | exact yld U4 rfl rfl (h.blk cW) rfl)) hg ?_)); refine zqt 33 rfl ((by first | exact yntd rfl | exact ynt rfl)) hg ?_; refine zqt 34 rfl (ypT rfl rfl) hg (zqt 35 rfl (ymv rfl) hg (zqt 36 rfl (yfa fl130_3 rfl) hg (qT 37 rfl (fun _ h=>(by first | exact yld U82 rfl rfl (h.blk jl) rfl | exact yld U82 rfl rfl (h.blk cW) rfl)) hg ?_))); refine zqt 38 rfl (yln U82 rfl) hg (zqt 39 rfl (ymv rfl) hg (zqt 40 rfl (yad rfl rfl (by omega)) hg (zqt 41 rfl (yqu rfl rfl (by omega)) hg (zqt 42 rfl (ylt rfl rfl) hg (zqt 43 rfl (ypT rfl rfl) hg (zqt 44 rfl (ypF rfl rfl) hg (qE (Run.qb (e := [(0, _), (6, _), (12, _), (134, _)]) ?_)))))))); refine (xy _ _ ⟨_, rfl, hg, ?_, ?_⟩).qb
          ·intro h; have h := of_decide_eq_true h; refine nosub_cnd hn ?_; rw [if_neg (by simp)]; intro h'; refine h' ?_; unfold Nd.low; rw [if_neg (by rw [dE]; simp)]; omega
          ·intro h; have h := of_decide_eq_false h; rw [if_neg (by simp)]; unfold Nd.low; rw [if_neg (by rw [dE]; simp)]; omega
   case wI =>
    have hg := Ext.drew0 w5; refine run_draw (fun w' => Ext w5 w') (by kernel_rfl) rfl (zqt 0 rfl (ymv rfl) hg (zqt 1 rfl (ynk rfl) hg (zqt 2 rfl (yfa fl97_2 rfl) hg (qT 3 rfl (fun _ h=>yld U34 rfl rfl (h.blk wJ) rfl) hg (zqt 4 rfl (ymv rfl) hg (zqt 5 rfl (yis U34 ti3 rfl rfl (by omega)) hg (qT 6 rfl (fun _ h=>yldc U3 rfl rfl (by rw [(h.blk GI).cell]; rw [Nat.zero_add, Nat.mul_one, List.getElem?_set_self (by omega)])) hg ?_))))))); refine zqt 7 rfl (ygt rfl rfl) hg (zqt 8 rfl (ymv rfl) hg (rh_if (fun h1 => ?_) (fun h1 => ?_)))
    ·refine qJ 9 rfl (hg) (qJ 10 rfl (hg) (zqt 11 rfl (ypT rfl rfl) hg (zqt 12 rfl (ymv rfl) hg (qJ 13 rfl (hg) (qJ 14 rfl (hg) (qJ 15 rfl (hg) (qJ 16 rfl (hg) (qJ 17 rfl (hg) (qJ 18 rfl (hg) (qJ 19 rfl (hg) (qJ 20 rfl (hg) (qJ 21 rfl (hg) (qJ 22 rfl (hg) ?_))))))))))))); refine qJ 23 rfl (hg) (qJ 24 rfl (hg) (qJ 25 rfl (hg) (qJ 26 rfl (hg) (zqt 27 rfl (ypT rfl rfl) hg (qE (Run.qb (e := [(0, _), (3, _), (6, _), (8, _), (9, _), (10, _), (12, _), (81, _)]) ?_)))))); exact (ot _ _ ⟨true, rfl, hg, fun _ => nosub_met (fy.2.elim (fun e => by have := e.1; omega) (fun e => e.2)), fun h => Bool.noConfusion h⟩).qb
    ·obtain ⟨jk, gw⟩ : y.1 ∉ V ∧ cnt = 0 := fy.2.elim (fun e => ⟨e.2, e.1⟩) (fun e => by have := e.1; omega); refine zqt 9 rfl (ymv rfl) hg (zqt 10 rfl (yne rfl rfl) hg (zqt 11 rfl (ypF rfl rfl) hg (zqt 12 rfl (ymv rfl) hg (rh_if (fun h2 => ?_) (fun h2 => ?_)))))
     ·refine qJ 13 rfl (hg) (qJ 14 rfl (hg) (qJ 15 rfl (hg) (qJ 16 rfl (hg) (qJ 17 rfl (hg) (qJ 18 rfl (hg) (qJ 19 rfl (hg) (qJ 20 rfl (hg) (qJ 21 rfl (hg) (qJ 22 rfl (hg) (qJ 23 rfl (hg) (qJ 24 rfl (hg) (qJ 25 rfl (hg) (qJ 26 rfl (hg) ?_))))))))))))); refine zqt 27 rfl (ypT rfl rfl) hg (qE (Run.qb (e := [(0, _), (3, _), (6, _), (8, _), (9, _), (10, _), (12, _), (81, _)]) ?_)); refine (ot _ _ ⟨true, rfl, hg, fun _ => nosub_none ?_, fun h => Bool.noConfusion h⟩).qb; rw [lW]; unfold ndOf; rcases GH with ⟨-, e⟩ | ⟨e, -⟩
      ·exact absurd e h2
      ·rw [e]; split <;> rfl
     ·have hd : dec y.2 = some n := GH.elim (fun e => e.1) (fun e => absurd e.2 (by have := e.2; omega)); refine zqt 13 rfl (ymv rfl) hg (zqt 14 rfl (ynk rfl) hg (zqt 15 rfl (yfa fl97_1 rfl) hg (qT 16 rfl (fun _ h=>yld U33 rfl rfl (h.blk wJ) rfl) hg (zqt 17 rfl (ymv rfl) hg (zqt 18 rfl (yis U33 ti54 rfl rfl (by omega)) hg (zqt 19 rfl (yfa fl54_1 rfl) hg (zqt 22 rfl (ymv rfl) hg (zqt 23 rfl (ynk rfl) hg (zqt 24 rfl (yfa fl97_0 rfl) hg (qT 25 rfl (fun _ h=>yld U3 rfl rfl (h.blk wJ) rfl) hg (qT 20 rfl (fun _ h=>yldc U9 rfl rfl (rd_pg1 (rn.ext h).rd ab hy)) hg (zqt 21 rfl (ylnS U9 rfl) hg (zqt 26 rfl (yne rfl rfl) hg ?_))))))))))))); refine zqt 27 rfl (ypF rfl rfl) hg (qE (Run.qb (e := [(0, _), (3, _), (6, _), (8, _), (9, _), (10, _), (12, _), (81, _)]) ?_)); refine (ot _ _ ⟨_, rfl, hg, ?_, ?_⟩).qb
      ·intro h; refine nosub_none ?_; rw [lW]; unfold ndOf; rw [if_neg (by have := of_decide_eq_true h; omega)]
      ·intro h; refine ⟨?_, jk⟩; rw [lW]; unfold ndOf; rw [if_pos (by have := of_decide_eq_false h; omega)]; exact hd
 ·refine zqa rfl (rEnd (run_seq (qN rfl (zqm rfl (qV (ylt rfl rfl) (rEnd (run_if rfl (fun h0 => ?_) (fun h0 => ?_))))))))
  ·refine qN rfl (zqa rfl (zqa rfl (zqa rfl (rEnd (run_ret Tryz.func54 rfl ?_))))); exact ⟨_, rfl, bP aa.kp (nosub_none (nodesOf_none bK))⟩
  ·exact absurd (show ((-1 : Int) < 0) by decide) h0
theorem wkAt_all {q mb z : Nat} {lv : Value} {l : Pgs} (hz : sizeOk (z : Int)) (nD : (l.map (·.1)).Nodup) (hl : l.length ≤ 1000000) (ht : ∀ y ∈ l, y.2.length ≤ 140737488355328) : ∀ k, WkAt q mb z lv l k := fun k => Nat.strongRecOn k fun k ih => wkAt_step hz nD hl ht ih
theorem metC_nil (l : Pgs) : metC l [] = List.replicate l.length (I 0) := by
 unfold metC
 induction l with
 | nil => rfl
 | cons a r ih => rw [List.map_cons, ih, List.length_cons, List.replicate_succ]; rfl
section
variable {w : World}
set_option maxHeartbeats 8000000 in
theorem shape_ret {z : Nat} {root : Int} {lv : Value} {l : Pgs} (sH : numsOk (z : Int) root l) (hR : Rd w lv 2 l.length (pgC l)) (hl : l.length ≤ 1000000) (ht : ∀ y ∈ l, y.2.length ≤ 140737488355328) :
  Ret Tryz.prog 19 [I (z : Int), I root, lv] w fun v w' => Ext w w' ∧ ((∃ H ns es ov, LoadOk z root l H ns es ∧ v = .tuple #[ov, I ((H : Nat) : Int), .bool true] ∧ Sl w' ov 41 2 es.length (esC es) ∧ (∀ g, ov.ownBlock = some g → w.heap.size ≤ g) ∧ es.length ≤ l.length * 100000) ∨ ((∀ H ns es, ¬ LoadOk z root l H ns es) ∧ v = .tuple #[.slice none 0 0, I 0, .bool false])) := by
 obtain ⟨hz, iE, nD, C3⟩ := id sH
 obtain ⟨la, lc, rfl, -⟩ := id hR.shape
 have dL : maxLen = 9223372036854775807 := rfl
 refine ret_of_run (e := [(0, _), (1, _), (2, _)]) Tryz.func19 rfl Tryz.ntmps19 rfl rfl (qN rfl (zqa rfl (zqa rfl (zqa rfl (rEnd (run_seq (qN rfl (zqm rfl (qV (yeq rfl rfl) (rEnd (run_if rfl (fun mh => ?_) (fun mh => ?_))))))))))))
 ·refine qN rfl (zqm rfl (qV (yln U33 rfl) (qV (yeq rfl rfl) (zqa rfl (zqa rfl (zqa rfl (rEnd (run_ret Tryz.func19 rfl ?_)))))))); by_cases rh : l = []
  ·refine ⟨_, rfl, Ext.refl _, .inl ⟨0, [], [], .slice none 0 0, .inl ⟨mh, rh, rfl, rfl, rfl⟩, ?_, Sl.nil _ _ _, fun g hg => by simp [Value.ownBlock] at hg, by simp⟩⟩; rw [rh]; rfl
  ·have : l.length ≠ 0 := fun e => rh (List.eq_nil_of_length_eq_zero e); refine ⟨_, rfl, Ext.refl _, .inr ⟨fun H ns es h => ?_, ?_⟩⟩
   ·rcases h with h | h
    ·exact rh h.2.1
    ·exact h.1 mh
   ·rw [decide_eq_false (by omega)]; rfl
 ·refine run_skip (qN rfl (zqm rfl (zqm rfl (zqm rfl (qV (yln U33 rfl) (rValP rfl rfl (pmk U34 ti3 rfl rfl rfl (Nat.le_refl _) (by omega) (by omega)) ?_)))))); rintro _ w1 ⟨mb, rfl, ⟨dr, aa, ai⟩, dC⟩; refine qV (ybd (parts := [(0, .tmp 19), (1, .tmp 20), (2, .tmp 23)]) (cs := [_, _, _]) ti97 rfl sp97 rfl rfl) (rValP rfl rfl (pbx rfl rfl) ?_); rintro _ w2 ⟨q, rfl, i0, ae, ak⟩; have EO := ai.lt; have eI := aa.size; have eQ := ae.size; have EK := ak.lt; have ay := aa.trans ae; have cP : WkC w2 q mb z (.slice la l.length lc) l := ⟨ak, hR.ext ay, by omega, fun h0 e => by have := Rd.ltz hR (by omega) h0 e; omega⟩; have jn : Blk w2 mb (metC l []) 3 := by rw [metC_nil]; exact ae.blk ai
  refine zqa rfl (qM rfl (zqm rfl (zqm rfl (qV (ybd (parts := []) (cs := [_, _, _]) ti100 rfl sp100 rfl rfl) (zqc [.tmp 27, .tmp 28, .tmp 29, .const (Value.bool true)] cf54 rfl (wkAt_all hz nD hl ht l.length w2 root [] none [] [] true cP jn List.nodup_nil (by simp) (by simp) (fun u hu => by cases hu)) ?_))))); rintro v3 w3 ⟨aw, gV⟩; have ah : Ext w w3 := ay.trans_new aw (fun i hi => by omega); rcases gV with ⟨h, ns, es, ov, rfl, s, Jz, JA, DY, s8⟩ | ⟨rfl, bK⟩
  ·have o3 := cP.kp aw; have aG := o3.blk
   have bH : ∀ x ∈ ns, x ∈ l.map (·.1) := fun x hx => by
    obtain ⟨m, hm⟩ := Option.ne_none_iff_exists'.1 (s.bn.some x hx); exact (nodesOf_ok hm).2
   have l0 : (l.map (·.1)).length = l.length := by simp
   have dt := List.Nodup.length_le_of_subset s.nd bH; rw [List.append_nil] at DY; have JB : (metC l ns).length = l.length := by unfold metC; rw [List.length_map]
   refine zqm rfl (qV (yex rfl rfl) (qV (yex rfl rfl) (qV (yex rfl rfl) (zqa rfl (zqa rfl (zqa rfl (rEnd (Run.qb (e := [(2, _), (6, _), (7, _), (8, _), (9, _), (10, _), (11, _), (12, _)]) ?_)))))))); refine run_seq (qN rfl (zqa rfl (rEnd (run_block (zqu (α := Nat × Bool) ((0, true)) (fun x => [(2, .slice la l.length lc), (9, ptr q 0), (10, ov), (11, I (h : Int)), (12, .bool x.2), (13, I (x.1 : Int))]) (fun x w' => w' = w3 ∧ x.1 ≤ l.length ∧ (x.2 = true ↔ ∀ y ∈ l.take x.1, y.1 ∈ ns)) (fun x => l.length - x.1) ?hI ?hround)))))
   case hI => exact ⟨rfl, Nat.zero_le _, by simp⟩
   case hround =>
    rintro ⟨i, ok⟩ w4 ⟨rfl, hi, aQ⟩ ih; dsimp only at hi aQ
    try dsimp only
    refine run_seq (qN rfl (zqm rfl (zqm rfl (qV (yln U33 rfl) (qV (ylt rfl rfl) (rEnd (run_if rfl (fun af => ?_) (fun af => ?_))))))))
    ·have ab : i < l.length := by omega
     obtain ⟨y, hy⟩ : ∃ y, l[i]? = some y := ⟨_, List.getElem?_eq_getElem ab⟩; refine run_skip (run_seq (run_block (run_reg rfl (zqm rfl (zqm rfl (rVal_bool (fun h1 => ?_) (fun h1 => ?_)))))))
     ·refine zqm rfl (qV (ynk rfl) (qV (yfa fl97_2 rfl) (qV (yld U34 rfl rfl aG rfl) (zqm rfl (qV (yis U34 ti3 rfl rfl (by omega)) (qV (yldc U3 rfl rfl (by rw [DY.cell]; rw [Nat.zero_add, Nat.mul_one]; exact metC_get hy)) ?_)))))); refine qV (yeq rfl rfl) (qV (ypT rfl rfl) (zqa rfl (rEnd (run_inBlock (run_reg rfl (zqm rfl (zqd rfl rfl (zqa rfl (rEnd ((ih (i + 1, _) w4 ⟨rfl, by dsimp only; omega, ?_⟩ (by dsimp only; omega)).qb)))))))))); dsimp only; constructor
      ·intro hh x hx; rcases (mem_take_succ hy).1 hx with hx | rfl
       ·exact (aQ.1 h1) x hx
       ·by_cases hm : x.1 ∈ ns
        ·exact hm
        ·rw [if_neg hm] at hh; cases hh
      ·intro hh; rw [if_pos (hh y ((mem_take_succ hy).2 (.inr rfl)))]; rfl
     ·refine qS (qS (qS (qS (qS (qS (qS (qS (qV (ypF rfl rfl) (zqa rfl (rEnd (run_inBlock (run_reg rfl (zqm rfl ?_))))))))))))); refine zqd rfl rfl (zqa rfl (rEnd ((ih (i + 1, _) w4 ⟨rfl, by dsimp only; omega, ?_⟩ (by dsimp only; omega)).qb))); dsimp only; constructor
      ·intro hh; cases hh
      ·intro hh; have := aQ.2 (fun x hx => hh x ((mem_take_succ hy).2 (.inl hx))); rw [h1] at this; cases this
    ·rw [List.take_of_length_le (by omega)] at aQ; refine run_exit rfl (run_seq (qN rfl (zqm rfl (qV ((by first | exact yntd rfl | exact ynt rfl)) ?_)))); refine rEnd (run_cond rfl (fun h2 => ?_) (fun h2 => ?_))
     ·have js : ok = false := by simpa using h2
      refine qN rfl (zqa rfl (zqa rfl (zqa rfl (rEnd (run_ret Tryz.func19 rfl (⟨_, rfl, ah, .inr ⟨fun H ns' es' hh => ?_, rfl⟩⟩)))))); rcases hh with hh | ⟨-, s', fo⟩
      ·exact mh hh.1
      ·obtain ⟨-, rfl, -⟩ := bn_det hz s.bn s'.bn; have := aQ.2 (fun y hy => sub_of_len s.nd bH (by rw [l0, fo]; exact Nat.le_refl _) _ (List.mem_map.2 ⟨y, hy, rfl⟩)); rw [js] at this; cases this
     ·have js : ok = true := by simpa using h2
      have aH := aQ.1 js; refine run_skip (qN rfl (zqm rfl (zqm rfl (zqa rfl (zqa rfl (zqa rfl (rEnd (run_ret Tryz.func19 rfl (⟨_, rfl, ah, .inl ⟨h, ns, es, ov, .inr ⟨mh, s, ?_⟩, rfl, Jz, fun g hg => by have := JA g hg; omega, Nat.le_trans s8 (Nat.mul_le_mul_right _ (by omega))⟩⟩)))))))))
      have := List.Nodup.length_le_of_subset nD (l₂ := ns) (fun x hx => by
       obtain ⟨y, hy, rfl⟩ := List.mem_map.1 hx
       exact aH y hy)
      omega
  ·refine zqm rfl (qV (yex rfl rfl) (qV (yex rfl rfl) (qV (yex rfl rfl) (zqa rfl (zqa rfl (zqa rfl (rEnd (Run.qb (e := [(2, _), (6, _), (7, _), (8, _), (9, _), (10, _), (11, _), (12, _)]) ?_)))))))); refine run_seq (qN rfl (zqa rfl (rEnd (run_block (zqu (α := Nat) (0) (fun i => [(2, .slice la l.length lc), (12, .bool false), (13, I (i : Int))]) (fun i w' => w' = w3 ∧ i ≤ l.length) (fun i => l.length - i) ?hI ?hround)))))
   case hI => exact ⟨rfl, Nat.zero_le _⟩
   case hround =>
    rintro i w4 ⟨rfl, hi⟩ ih
    try dsimp only
    refine run_seq (qN rfl (zqm rfl (zqm rfl (qV (yln U33 rfl) (qV (ylt rfl rfl) (rEnd (run_if rfl (fun af => ?_) (fun af => ?_))))))))
    ·refine run_skip (run_seq (run_block (run_reg rfl (zqm rfl (zqm rfl (qS (qS (qS (qS (qS (qS (qS (qS ?_))))))))))))); refine qV (ypF rfl rfl) (zqa rfl (rEnd (run_inBlock (run_reg rfl (zqm rfl (zqd rfl rfl (zqa rfl (rEnd ?_)))))))); exact (ih (i + 1) w4 ⟨rfl, by omega⟩ (by omega)).qb
    ·refine run_exit rfl (run_seq (qN rfl (zqm rfl (qV ((by first | exact yntd rfl | exact ynt rfl)) ?_)))); refine rEnd (run_true rfl (qN rfl (zqa rfl (zqa rfl (zqa rfl (rEnd (run_ret Tryz.func19 rfl (⟨_, rfl, ah, .inr ⟨fun H ns' es' hh => ?_, rfl⟩⟩)))))))); rcases hh with hh | ⟨-, s', fo⟩
     ·exact mh hh.1
     ·exact bK _ _ _ s'
end
structure DelC (w : World) (F : Nat → Prop) (p : Nat) (k : Bytes) (bt bk bp : Nat) : Prop where
 t : Blk w bt [ptr p 0] 24
 k : Blk w bk [S k] 9
 f : Blk w bp [.func (.func 43) #[] #[ptr bt 0, ptr bk 0, ptr bp 0]] 80
 n : ¬ F bt ∧ ¬ F bk ∧ ¬ F bp
theorem DelC.kp {w w' : World} {F F' : Nat → Prop} {p : Nat} {k : Bytes} {bt bk bp : Nat} (h : DelC w F p k bt bk bp) (hk : Kp F w w') (hF : ∀ i, F' i → F i ∨ w.heap.size ≤ i) : DelC w' F' p k bt bk bp := by
 obtain ⟨n1, n2, n4⟩ := h.n
 have h1 := h.t.lt
 have h2 := h.k.lt
 have h4 := h.f.lt
 exact ⟨hk.blk h.t n1, hk.blk h.k n2, hk.blk h.f n4, fun e => (hF _ e).elim n1 (by omega), fun e => (hF _ e).elim n2 (by omega), fun e => (hF _ e).elim n4 (by omega)⟩
structure DelPost (T : Tr) (h : Nat) (no : Int) (lo : Bytes) (hi : Option Bytes) (ns : List Int) (es : Es) (k : Bytes) (T' : Tr) : Prop where
 cnt : T'.count = T.count
 evo : Evo T T' 0
 one : One T.size h T.nodes T'.nodes no lo hi ns (delE es k)
 keys : (∀ m, T.nodes no = some m → ¬ m.low T.size) → ∀ m, T'.nodes no = some m → m.keys ≠ []
def DelAt (p : Nat) (k : Bytes) (bt bk bp : Nat) (H : Nat) : Prop := ∀ (w : World) (T : Tr) (nb : Int → Nat) (F : Nat → Prop) (no : Int) (lo : Bytes) (hi : Option Bytes) (ns : List Int) (es : Es),
 TreeA w p T nb F → DelC w F p k bt bk bp → Bn T.size T.nodes H no lo hi ns es → ns.Nodup → inB lo hi k → hasE es k → GivS T → (∀ x ∈ T.given, 1 ≤ x ∧ x ≤ 2147483647) → (∀ x, T.nodes x ≠ none → 1 ≤ x ∧ x ≤ 2147483647) → (∀ c ps, T.nodes no = some (innNd c ps) → ps ≠ []) →
 Ret Tryz.prog 43 [I no, ptr bt 0, ptr bk 0, ptr bp 0] w fun val w' => val = .tuple #[] ∧ ∃ T' F', TreeA w' p T' nb F' ∧ DelPost T H no lo hi ns es k T' ∧ Kp F w w' ∧ ∀ i, F' i → F i ∨ w.heap.size ≤ i
theorem full_two {z : Nat} {E : Es} (hz : sizeOk (z : Int)) (hE : EsOk z E) (hl : ¬ (leafNd E).low z) : 2 ≤ E.length := by
 obtain ⟨z1, z2, z3⟩ := hz
 match E, hE, hl with
 | [], _, hl => exact absurd (by rw [leafNd_low]; simp [entB]; omega) hl
 | [x], hE, hl =>
   have h1 := (hE.one x (by simp)); exfalso; apply hl; rw [leafNd_low]; have : mostE z = (z - 3) / 4 := rfl; simp [entB] at h1 ⊢
   omega
 | _ :: _ :: _, _, _ => simp
section
variable {w : World}
set_option maxHeartbeats 4000000 in
theorem delAt_leaf {p : Nat} {k : Bytes} {bt bk bp : Nat} : DelAt p k bt bk bp 1 := by
 intro w T nb F no lo hi ns E h hc hB bz cA bo hg nZ rl aZ
 have hz : sizeOk (T.size : Int) := size_ok h
 obtain ⟨z1, z2, -⟩ := id hz
 obtain ⟨hn, j9, aQ, D8, vi⟩ := hB.leaf (by omega)
 obtain ⟨hD, JC⟩ := del_leaf (k := k) hz hB
 have ID := entB_len aQ
 have kN : delE E k = E.take (posE E k) ++ E.drop (posE E k + 1) := by unfold delE; rw [if_pos bo]
 have bH : (delE E k).Sublist E := by
  rw [kN]
  conv => rhs; rw [← List.take_append_drop (posE E k) E]
  exact (List.Sublist.refl _).append (by rw [← List.drop_drop]; exact List.drop_sublist _ _)
 have hU : EsOk T.size (delE E k) := aQ.sub bH
 obtain ⟨-, -, -, JD, -⟩ := hD.leaf (by omega)
 have n8 := leaf_bd hz hU (by omega)
 obtain ⟨mN, mC, mO, gv, kn, kc, ko, O⟩ := h.opn
 obtain ⟨q, hq, hM, fj, cM⟩ := h.nodeF hn
 obtain ⟨qb, qk, qv, qc⟩ := q
 dsimp only at hq
 subst hq
 have ar := hM.blk
 have hK := hM.keys
 have hV := hM.vals
 have hC := hM.kids
 have cU := hM.d1
 have di := hM.d2
 have nf := hM.d3
 dsimp only at ar hK hV hC cU di nf
 have ei : (leafNd E).vals.length = E.length := by simp [leafNd]
 have cn : (leafNd E).keys.length = E.length := by simp [leafNd]
 rw [ei] at hV
 rw [cn] at hK
 have bW := hc.t
 have fb := hc.k
 have hp : pos (leafNd E).keys k = posE E k := rfl
 have af := hasE_lt bo
 have fi := h.lt
 refine ret_of_run (e := [(0, _), (1, _), (2, _), (3, _)]) Tryz.func43 rfl Tryz.ntmps43 rfl rfl (qN rfl (qV ((by first | exact yld U24 rfl rfl bW rfl | exact yld U24 rfl rfl O.blk rfl | exact yld U24 rfl rfl ar rfl)) ?_))
 refine qV (ynk rfl) (qV (yfa fl74_5 rfl) (qV ((by first | exact yld U71 rfl rfl bW rfl | exact yld U71 rfl rfl O.blk rfl | exact yld U71 rfl rfl ar rfl)) ?_))
 refine zqm rfl (qV (ylk (k := no) (K := KZ) U71 (ky_int U3) ti81 rfl rfl O.nm.l) ?_)
 rw [show (getL kn no).getD (.pointer none) = ptr (nb no) 0 by rw [O.ng no, hn]; rfl]
 refine zqa rfl (rEnd (run_seq (qN rfl (zqm rfl (qV (ynk rfl) (qV (yfa fl84_0 rfl) (qV ((by first | exact yld U4 rfl rfl bW rfl | exact yld U4 rfl rfl O.blk rfl | exact yld U4 rfl rfl ar rfl)) ?_)))))))
 refine rEnd (run_true rfl (run_seq ?_))
 have a7 := Ext.drew0 w
 refine run_draw (fun w' => Ext w w') (by kernel_rfl) rfl (zqt 0 rfl (ymv rfl) a7 (zqt 1 rfl (ynk rfl) a7 (zqt 2 rfl (yfa fl84_1 rfl) a7 (qT 3 rfl (fun _ h=>(by first | exact yld U23 rfl rfl (h.blk ar) rfl | exact yld U23 rfl rfl (h.blk fb) rfl)) a7 ?_))))
 refine qT 4 rfl (fun _ h=>(by first | exact yld U9 rfl rfl (h.blk ar) rfl | exact yld U9 rfl rfl (h.blk fb) rfl)) a7 ?_
 refine zqo 5 [.tmp 23, .tmp 24] rfl cf44 rfl (bsearch_ret (leafNd E).keys k qk _ ((hM.keys.ext a7).rd) (by rw [cn]; omega) aQ.rise) ?_
 rintro _ w1 ⟨rfl, rfl⟩
 refine ⟨a7, ?_⟩
 rw [hp]
 refine zqt 6 rfl (ymv rfl) a7 (zqt 7 rfl (yex rfl rfl) a7 (zqt 8 rfl (yex rfl rfl) a7 (zqt 9 rfl (yas rfl) a7 (zqt 10 rfl (yas rfl) a7 (qE (Run.qb (e := [(0, _), (1, _), (2, _), (3, _), (5, _), (6, _)]) ?_))))))
 refine run_seq ?_
 have cy : ∀ {l : List Bytes}, ∀ c' ∈ l.map S, c'.oneCell' = true := fun c' hc => by obtain ⟨z, -, rfl⟩ := List.mem_map.1 hc; rfl
 obtain ⟨Q, hQ⟩ : ∃ Q : Nat → Prop, Q = fun g => qk.ownBlock = some g ∨ qv.ownBlock = some g := ⟨_, rfl⟩
 have dB : ∀ g, Q g → F g := fun g hg => by
  rw [hQ] at hg; exact (fj g (hg.elim (fun e => .inr (.inl e)) (fun e => .inr (.inr (.inl e))))).1
 have eu : ¬ Q (nb no) := fun e => by
  rw [hQ] at e; exact e.elim cU.1 cU.2.1
 have aX : ∀ g, qk.ownBlock = some g → Q g := fun g hg => by rw [hQ]; exact .inl hg
 have da : ∀ g, qv.ownBlock = some g → Q g := fun g hg => by rw [hQ]; exact .inr hg
 have dF : ∀ g, Q g → g < w.heap.size := fun g hg => fi g (dB g hg)
 refine run_cut (fun e' w2 => ∃ kv' vv', e' = [(0, I no), (1, ptr bt 0), (2, ptr bk 0), (3, ptr bp 0), (5, ptr (nb no) 0)] ∧ NdM w2 (leafNd (delE E k)) ⟨nb no, kv', vv', qc⟩ ∧ (∀ g, Pl.fp ⟨nb no, kv', vv', qc⟩ g → Pl.fp ⟨nb no, qk, qv, qc⟩ g ∨ w.heap.size ≤ g) ∧ Kp (Pl.fp ⟨nb no, qk, qv, qc⟩) w w2) ?fg (fun fg => ?jc)
 case fg =>
  rintro e' w23 ⟨kv9, vv17, rfl, iS, dM, am⟩; obtain ⟨F', h', iC⟩ := cM w23 _ ⟨nb no, kv9, vv17, qc⟩ rfl iS am (fun g hg => (dM g hg).imp id (fun e hh => by have := fi g hh; omega))
  have ct : ∀ g, F' g → F g ∨ w.heap.size ≤ g := fun g hg => by
   rcases iC g hg with e | e
   ·exact .inl e
   ·exact (dM g e).imp (fun e => (fj g e).1) id
  have pL : Kp F w w23 := am.mono' (fun g hg => (fj g hg).1); have cP := hc.kp pL ct; have cK := cP.t; obtain ⟨mN2, mC2, mO2, gv2, kn2, kc2, ko2, O2⟩ := h'.opn; refine qN rfl (qV ((by first | exact yld U24 rfl rfl cK rfl | exact yld U24 rfl rfl O2.blk rfl)) ?_); refine qV (ynk rfl) (qV (yfa fl74_7 rfl) (qV ((by first | exact yld U72 rfl rfl cK rfl | exact yld U72 rfl rfl O2.blk rfl)) ?_)); refine zqm rfl (rEffP rfl (zmuB (k := no) (K := KZ) U72 (ky_int U3) rfl rfl rfl O2.cm) ?_); rintro w3 ⟨fd, aw⟩
  have h3 := O2.setC w3 _ (updI (T.setN no (leafNd (delE E k))).changed no true) fd aw (fun x => by
   rw [getL_put]; by_cases e : x = no
   ·subst e; simp [flag, updI]
   ·rw [if_neg e, O2.cg]; simp [updI, e])
  have bQ : Kp F' w23 w3 := aw.mono' (fun k hk => by rw [hk]; exact O2.fp.2.2.1); refine rEnd (run_ret Tryz.func43 rfl (⟨_, rfl, rfl, (T.setN no (leafNd (delE E k))).mark no, F', h3, ⟨rfl, Evo.set hg hn, ⟨_, hD, JC⟩, fun bV m hm => ?_⟩, pL.trans_new bQ (fun i hi => (ct i hi).symm), ct⟩)); have h2 := full_two hz aQ (bV _ hn); have o9 : updI T.nodes no (some (leafNd (delE E k))) no = some m := hm; rw [updI_same] at o9; cases o9; intro e; have e' : (delE E k).length = 0 := by have := congrArg List.length e; simpa [leafNd] using this
  rw [kN, List.length_append, List.length_take, List.length_drop] at e'; omega
 case jc =>
  have ew := a7.trans (Ext.drew0 w.drew); have ad : Kp Q w w.drew.drew := ew.kp; have eV := hK.ext ew; have gN := hV.ext ew; refine run_drawL [20,23] (fun w' => Kp Q w w') (by kernel_rfl) rfl (qL [18, 19, 20, 21, 22, 23] 0 rfl (fun _ h=>ymv rfl) ad (hTakeU (i := 1) rfl (by kernel_rfl) rfl rfl (fun _ => ymv rfl) (ad) (qL [3, 4, 5, 9, 17, 18, 19, 20, 21, 22, 23] 2 rfl (fun _ h=>ymv rfl) ad (qL [4, 5, 9, 17, 18, 19, 20, 21, 22, 23] 3 rfl (fun _ h=>ynk rfl) ad (qL [5, 9, 17, 18, 19, 20, 21, 22, 23] 4 rfl (fun _ h=>yfa fl84_1 rfl) ad (qL [9, 17, 18, 19, 20, 21, 22, 23] 5 rfl (fun _ h=>yld U23 rfl rfl (h.blk ar eu) rfl) ad (qL [9, 17, 18, 19, 20, 21, 22, 23] 6 rfl (fun _ h=>ymv rfl) ad (qL [8, 9, 17, 18, 19, 20, 21, 22, 23] 7 rfl (fun _ h=>ymv rfl) ad (qL [9, 17, 18, 19, 20, 21, 22, 23] 8 rfl (fun _ h=>yad rfl rfl (by omega)) ad (qL [11, 12, 13, 17, 18, 19, 20, 21, 22, 23] 10 rfl (fun _ h=>ymv rfl) ad (qL [12, 13, 17, 18, 19, 20, 21, 22, 23] 11 rfl (fun _ h=>ynk rfl) ad (qL [13, 17, 18, 19, 20, 21, 22, 23] 12 rfl (fun _ h=>yfa fl84_2 rfl) ad (qL [17, 18, 19, 20, 21, 22, 23] 13 rfl (fun _ h=>yld U23 rfl rfl (h.blk ar eu) rfl) ad ?_))))))))))))); refine qL [17, 18, 19, 20, 21, 22, 23] 14 rfl (fun _ h=>ymv rfl) ad (qL [16, 17, 18, 19, 20, 21, 22, 23] 15 rfl (fun _ h=>ymv rfl) ad (qL [17, 18, 19, 20, 21, 22, 23] 16 rfl (fun _ h=>yad rfl rfl (by omega)) ad (hOneL (i := 9) (by kernel_rfl) (nCallL (i := 9) rfl rfl rfl (yc (args := [.tmp 33, .tmp 34, .tmp 36]) cf45 rfl) (delS_ret (i := posE E k) eV cy af (by omega)) ?_)))); rintro kv9 w9 ⟨bJ, aB, cj⟩; refine ⟨ad.trans (aB.mono' aX), ?_⟩; have ad := ad.trans (aB.mono' aX); have gN := gN.kp aB (fun g hg e => (di g e).1 hg); refine hOneL (i := 17) (by kernel_rfl) (nCallL (i := 17) rfl rfl rfl (yc (args := [.tmp 41, .tmp 42, .tmp 44]) cf45 rfl) (delS_ret (i := posE E k) gN cy af (by omega)) ?_); rintro vv17 w17 ⟨dX, aT, cz⟩; refine ⟨ad.trans (aT.mono' da), ?_⟩; have ad := ad.trans (aT.mono' da); have bJ := bJ.kp aT (fun g hg e => (di g (cj g hg)).1 e); refine qL [19, 20, 21, 22, 23] 18 rfl (fun _ h=>ynk rfl) ad (qL [20, 21, 22, 23] 19 rfl (fun _ h=>yfa fl84_1 rfl) ad (hLate [20] (by kernel_rfl) (by kernel_rfl) (qO 20 (nEffP (i := 20) rfl rfl (zst ti23 rfl rfl (oneV_sl bJ) (ad.blk ar eu) (by simp)) ?_)))); rintro w20 ⟨lL, il⟩; refine ⟨trivial, ?_⟩; refine zqt 21 rfl (ynk rfl) trivial (zqt 22 rfl (yfa fl84_2 rfl) trivial (qO 23 (nEffP (i := 23) rfl rfl (zst ti23 rfl rfl (oneV_sl dX) lL (by simp)) ?_))); rintro w23 ⟨lM, bQ⟩; refine ⟨trivial, ?_⟩; refine qE (Run.qb (e := [(0, _), (1, _), (2, _), (3, _), (5, _)]) ?_); have bq := il.trans bQ
  have m7 : ∀ g, kv9.ownBlock = some g → g ≠ nb no := fun g hg e => by
   have h := cj g hg; rw [e] at h; exact cU.1 h
  have rk : ∀ g, vv17.ownBlock = some g → g ≠ nb no := fun g hg e => by
   have h := cz g hg; rw [e] at h; exact cU.2.1 h
  obtain ⟨iS, dM⟩ := hM.re (w' := w23) (n' := leafNd (delE E k)) (kv' := kv9) (vv' := vv17) (cv' := qc) lM (by
    have e : (leafNd (delE E k)).keys = (leafNd E).keys.take (posE E k) ++ (leafNd E).keys.drop (posE E k + 1) := by rw [kN]; simp [leafNd]
    rw [e]; have := bJ.kp bq m7; simp only [List.map_append, List.map_take, List.map_drop, List.length_append, List.length_take, List.length_drop, cn]; rw [show min (posE E k) E.length + (E.length - (posE E k + 1)) = E.length - 1 by omega]
    exact this) (by
    have e : (leafNd (delE E k)).vals = (leafNd E).vals.take (posE E k) ++ (leafNd E).vals.drop (posE E k + 1) := by rw [kN]; simp [leafNd]
    rw [e]; have := dX.kp bq rk; simp only [List.map_append, List.map_take, List.map_drop, List.length_append, List.length_take, List.length_drop, ei]; rw [show min (posE E k) E.length + (E.length - (posE E k + 1)) = E.length - 1 by omega]
    exact this) (by
    have e : (leafNd (delE E k)).kids = (leafNd E).kids := rfl; rw [e]
    exact (hC.kp ad (fun g hg e => by
     rw [hQ] at e; rcases e with e | e
     ·exact (di g e).2 hg
     ·exact nf g e hg)).kp bq (fun g hg e => cU.2.2 (by rw [← e]; exact hg))) n8 (fun g hg => .inl (cj g hg)) (fun g hg => .inl (cz g hg)) (fun g hg => .inl hg) (fun g hg => ⟨fun e => absurd (hM.lt g (.inr (.inl (cj g e)))) (by omega), fun e => absurd (hM.lt g (.inr (.inr (.inl (cz g e))))) (by omega)⟩)
  have am : Kp (Pl.fp ⟨nb no, qk, qv, qc⟩) w w23 := (ad.mono' (fun g hg => by
   rw [hQ] at hg
   exact hg.elim (fun e => .inr (.inl e)) (fun e => .inr (.inr (.inl e))))).trans (bq.mono' (fun g hg => .inl hg))
  exact (fg _ _ ⟨kv9, vv17, rfl, iS, dM, am⟩).qb
set_option maxHeartbeats 4000000 in
theorem delAt_inner {p : Nat} {k : Bytes} {bt bk bp h0 : Nat} (ih : DelAt p k bt bk bp (h0 + 1)) : DelAt p k bt bk bp (h0 + 2) := by
 intro w T nb F no lo hi ns es h hc hB bz cA bo hg nZ rl aZ
 have hz : sizeOk (T.size : Int) := size_ok h
 obtain ⟨z1, z2, -⟩ := id hz
 have BG : orderE T.size ≤ 1000 ∧ 8 ≤ orderE T.size := by unfold orderE; omega
 obtain ⟨c, ps, ns', hn, j9, dR, ce, mT, aR, a, lo', ab, nm, em, e1, e2, ha, ja, p8, p9, tl, bH, ib, jC, gp, cy, -⟩ := inner_step hz hB bz cA
 obtain ⟨i, fV⟩ : ∃ i, wayI (ps.map (·.1)) k = i := ⟨_, rfl⟩
 rw [fV] at ha
 have nj : i ≤ ps.length := by have := wayI_le (ps.map (·.1)) k; rw [fV, List.length_map] at this; exact this
 have AG : hasE em k := by rw [ib] at bo; exact (hasE_mid jC gp).1 bo
 have kN : delE es k = e1 ++ (delE em k ++ e2) := by rw [ib]; exact delE_mid jC gp
 obtain ⟨mN, mC, mO, gv, kn, kc, ko, O⟩ := h.opn
 obtain ⟨q, hq, hM, fj, -⟩ := h.nodeF hn
 obtain ⟨qb, qk, qv, qc⟩ := q
 dsimp only at hq
 subst hq
 have ar := hM.blk
 have hC := hM.kids
 dsimp only at ar hC
 have kcl : (innNd c ps).kids.length = ps.length + 1 := by simp [innNd]
 rw [kcl] at hC
 obtain ⟨gc, cc, rfl⟩ := some_of hC (by omega)
 have vh := hM.bd.cs a (List.mem_of_getElem? (show (innNd c ps).kids[_]? = some a from ha))
 have kx : a ∈ c :: ps.map (·.2) := List.mem_of_getElem? ha
 have bW := hc.t
 have fb := hc.k
 have mP := hc.f
 have a7 := Ext.drew0 w
 refine ret_of_run (e := [(0, _), (1, _), (2, _), (3, _)]) Tryz.func43 rfl Tryz.ntmps43 rfl rfl (qN rfl (qV ((by first | exact yld U24 rfl rfl bW rfl | exact yld U24 rfl rfl O.blk rfl | exact yld U24 rfl rfl ar rfl | exact yld U24 rfl rfl fb rfl)) ?_))
 refine qV (ynk rfl) (qV (yfa fl74_5 rfl) (qV ((by first | exact yld U71 rfl rfl bW rfl | exact yld U71 rfl rfl O.blk rfl | exact yld U71 rfl rfl ar rfl | exact yld U71 rfl rfl fb rfl)) ?_))
 refine zqm rfl (qV (ylk (k := no) (K := KZ) U71 (ky_int U3) ti81 rfl rfl O.nm.l) ?_)
 rw [show (getL kn no).getD (.pointer none) = ptr (nb no) 0 by rw [O.ng no, hn]; rfl]
 refine zqa rfl (rEnd (run_seq (qN rfl (zqm rfl (qV (ynk rfl) (qV (yfa fl84_0 rfl) (qV ((by first | exact yld U4 rfl rfl bW rfl | exact yld U4 rfl rfl O.blk rfl | exact yld U4 rfl rfl ar rfl | exact yld U4 rfl rfl fb rfl)) ?_)))))))
 refine rEnd (run_false rfl (run_skip (qN rfl (zqm rfl (qV ((by first | exact yld U9 rfl rfl bW rfl | exact yld U9 rfl rfl O.blk rfl | exact yld U9 rfl rfl ar rfl | exact yld U9 rfl rfl fb rfl)) ?_)))))
 refine zqc [.tmp 55, .tmp 56] cf46 rfl (way_ret k ar hM.r hM.bd dR.2) ?_
 rintro _ w ⟨rfl, rfl⟩
 rw [show wayI (innNd c ps).keys k = i from fV]
 refine zqa rfl (rEnd (run_seq (run_drawL [9] (fun w' => Ext w w') (by kernel_rfl) rfl (qL [9] 0 rfl (fun _ h=>(by first | exact yld U80 rfl rfl (h.blk ar) rfl | exact yld U80 rfl rfl (h.blk mP) rfl)) a7 ?_))))
 refine qL [2, 3, 4, 6, 7, 8, 9] 1 rfl (fun _ h=>ymv rfl) a7 (qL [3, 4, 6, 7, 8, 9] 2 rfl (fun _ h=>ynk rfl) a7 (qL [4, 6, 7, 8, 9] 3 rfl (fun _ h=>yfa fl84_3 rfl) a7 (qL [6, 7, 8, 9] 4 rfl (fun _ h=>(by first | exact yld U82 rfl rfl (h.blk ar) rfl | exact yld U82 rfl rfl (h.blk mP) rfl)) a7 ?_)))
 refine qL [6, 7, 8, 9] 5 rfl (fun _ h=>ymv rfl) a7 (qL [7, 8, 9] 6 rfl (fun _ h=>yis U82 ti89 rfl rfl (by omega)) a7 (qL [8, 9] 7 rfl (fun _ hS => yldc U89 rfl rfl (rd_u32 ((hC.ext hS).rd) (by omega) ha)) a7 (qL [9] 8 rfl (fun _ h=>ycvSi64 rfl U89 U3 (by omega)) a7 (hLate [9] (by kernel_rfl) (by kernel_rfl) (qO 9 (nCall (i := 9) rfl rfl rfl (ycv' (args := [.tmp 66]) cf43 rfl rfl) (ih _ T nb F (a : Int) lo' ab nm em (h.ext a7) (hc.kp a7.kp (fun i hi => .inl hi)) ja p8 p9 AG hg nZ rl (fun c' ps' gB e => by have := full_inn (aR a kx) hz gB; rw [e] at this; simp at this)) ?_))))))
 rintro v1 w1 ⟨rfl, T1, F1, h1, ⟨lN, fe, ⟨nm', vW, pM⟩, fQ⟩, aD, iB⟩
 refine ⟨trivial, ?_⟩
 have dP : T1.size = T.size := fe.size
 have sh : ∀ x ∈ T1.given, 1 ≤ x ∧ x ≤ 2147483647 := fun x hx => (fe.giv x hx).elim (nZ x) (fun e => rl x e.1)
 have mJ : T1.given.length ≤ 2147483647 := by have := rise_len fe.srt.rise sh; omega
 have fC : Kp F w w1 := a7.kp.trans aD
 have oB := a7.size
 have fD : ∀ i, F1 i → F i ∨ w.heap.size ≤ i := fun i hi => (iB i hi).imp id (fun e => by omega)
 have cD : DelC w1 F1 p k bt bk bp := hc.kp fC fD
 have ky := cD.t
 obtain ⟨ns1, M, lO⟩ := cy T1.nodes nm' _ vW pM
 have M1 : Mid T1.size h0 T1.nodes no lo hi c ps ns1 (e1 ++ (delE em k ++ e2)) a := by rw [dP]; exact M
 refine qE (Run.qb (e := [(0, _), (1, _), (8, _)]) ?_)
 refine run_reg rfl (qV (yld U24 rfl rfl ky rfl) (zqm rfl (zqm rfl (zqc [.tmp 68, .tmp 69, .tmp 70] cf47 rfl (even_all h1 M1 (aZ c ps hn) nj ha (fQ (aR a kx)) fe.srt (by omega)) ?_))))
 rintro _ w2 ⟨rfl, T2, F2, ns2, h2, b1, b2, b3, b4, ⟨ps', et, vX⟩, am, ct⟩
 rw [dP] at b1
 refine rEnd (run_end Tryz.func43 rfl (⟨_, rfl, rfl, T2, F2, h2, ⟨by rw [b4, lN], (fe.trans b3).mono (by omega), ⟨ns2, by rw [kN]; exact b1, lO.trans b2⟩, fun bV m hm => ?_⟩, fC.trans_new am (fun i hi => (fD i hi).symm), fun i hi => ?_⟩))
 ·rw [et] at hm; cases hm; have := bV _ hn; rw [innNd_low] at this; intro e; have : ps' = [] := by simpa [innNd] using e
  subst this; simp at vX; omega
 ·have := fC.size; rcases ct i hi with e | e
  ·exact fD i e
  ·exact .inr (by omega)
theorem delAt_all {p : Nat} {k : Bytes} {bt bk bp : Nat} : ∀ H, DelAt p k bt bk bp (H + 1)
 | 0 => delAt_leaf
 | h + 1 => delAt_inner (delAt_all h)
end
theorem getR_ok {es : Es} {k : Bytes} (h : (getR es k).2 = 0) : keyOk k ∧ hasE es k := by
 unfold getR at h
 by_cases hk : keyOk k
 ·rw [if_pos hk] at h; by_cases hh : hasE es k
  ·exact ⟨hk, hh⟩
  ·rw [getE_none hh] at h; simp at h
 ·rw [if_neg hk] at h; simp at h
section
variable {w : World} {p : Nat} {T : Tr} {nb : Int → Nat} {F : Nat → Prop}
set_option maxHeartbeats 4000000 in
theorem deleteT_ret (h : TreeA w p T nb F) {H : Nat} {ns : List Int} {es : Es} (hI : Inv T H ns es) (ib : es.length ≤ 900000) (k : Bytes) :
  Ret Tryz.prog 11 [ptr p 0, S k] w fun val w' => (val = I (getR es k).2 ∧ (getR es k).2 ≠ 0 ∧ Ext w w') ∨ (val = I 0 ∧ (getR es k).2 = 0 ∧ ∃ T' H' ns', TreeS p F w w' T' H' ns' (delE es k) ∧ EvoR T T' 0) := by
 have hz : sizeOk (T.size : Int) := size_ok h
 obtain ⟨z1, z2, -⟩ := id hz
 have de := hI.gl
 have af := h.lt
 refine ret_of_run (e := [(0, _), (1, _)]) Tryz.func11 rfl Tryz.ntmps11 rfl rfl (qN rfl (rValP rfl rfl (pbx rfl rfl) ?_))
 rintro _ w1 ⟨bt, rfl, BP, aa, ai⟩
 refine rValP rfl rfl (pbx rfl rfl) ?_
 rintro _ w2 ⟨bk, rfl, sP, ae, ak⟩
 have eI := aa.size
 have eQ := ae.size
 have cK := ae.blk ai
 have ay : Ext w w2 := aa.trans ae
 have pT : ¬ F bt := fun e => by have := af _ e; omega
 have rL : ¬ F bk := fun e => by have := af _ e; omega
 refine zqa rfl (rEnd (run_seq (qN rfl (qV ((by first | exact yld U24 rfl rfl cK rfl | exact yld U24 rfl rfl ak rfl)) ?_))))
 refine qV ((by first | exact yld U9 rfl rfl cK rfl | exact yld U9 rfl rfl ak rfl)) ?_
 refine zqc [.tmp 9, .tmp 10] cf42 rfl (get_ret (h.ext ay) hI k) ?_
 rintro _ w3 ⟨rfl, ah⟩
 have eR := ay.trans ah
 refine zqm rfl (qV (yex rfl rfl) (qV (yex rfl rfl) (zqa rfl (zqa rfl (qM rfl (zqm rfl (qV (yne rfl rfl) (rEnd (run_if rfl (fun he => ?_) (fun he => ?_))))))))))
 ·refine qN rfl (zqm rfl (zqa rfl (rEnd (run_ret Tryz.func11 rfl ?_)))); exact ⟨_, rfl, .inl ⟨rfl, he, eR⟩⟩
 ·have GR : (getR es k).2 = 0 := by omega
  obtain ⟨hk, bo⟩ := getR_ok GR; have dK := ah.blk cK; have Fe := ah.blk ak; have jK := ah.size; refine run_skip (qN rfl (rValP rfl rfl (pal (cs := [_]) ti80 rfl) ?_)); rintro _ w4 ⟨bp, rfl, Bz, aC, aW⟩; refine qM rfl (qV (ymf (first := []) (caps := [.tmp 2, .tmp 3, .tmp 7]) rfl rfl) (rEffP rfl (zst ti80 rfl rfl rfl aW (by simp)) ?_)); rintro w5 ⟨bx, bh⟩; have nI : Ext w3 w5 := aC.trans_new bh (fun i hi => by omega); have ir := eR.trans nI; have h5 := h.ext ir; have wh : ¬ F bp := fun e => by have := af _ e; omega
  have rn : DelC w5 F p k bt bk bp := ⟨nI.blk dK, nI.blk Fe, bx, pT, rL, wh⟩; have a8 := Ext.drew0 w5
  have hr : T.root ≠ 0 := fun e => by
   rcases hI.std with ⟨-, -, -, e'⟩ | ⟨e', -⟩
   ·rw [e'] at bo; have := hasE_lt bo; simp at this
   ·exact e' e
  have hP := hI.toP hr
  have kN : Ret Tryz.prog 43 [I T.root, ptr bt 0, ptr bk 0, ptr bp 0] w5.drew fun val w' => val = .tuple #[] ∧ ∃ T' F', TreeA w' p T' nb F' ∧ DelPost T H T.root [] none ns es k T' ∧ Kp F w5.drew w' ∧ ∀ i, F' i → F i ∨ w5.drew.heap.size ≤ i := by
   obtain ⟨h0, rfl⟩ : ∃ h0, H = h0 + 1 := ⟨H - 1, by have := hP.bn.pos; omega⟩; refine delAt_all h0 _ T nb F T.root [] none ns es (h5.ext a8) (rn.kp a8.kp (fun i hi => .inl hi)) hP.bn hP.nd (inB_top k) bo hI.giv hI.gnum hI.num (fun c ps hn => ?_); rcases hI.std with ⟨e, -⟩ | ⟨-, -, -, -, br⟩
   ·exact absurd e hr
   ·have := br _ hn; intro e; rw [e] at this; exact this rfl
  obtain ⟨mN5, mC5, mO5, gv5, kn5, kc5, ko5, O5⟩ := h5.opn; have wN := O5.blk; have lQ := rn.t; refine rEnd (run_seq (run_drawL [5] (fun w' => Ext w5 w') (by kernel_rfl) rfl (qL [5] 0 rfl (fun _ h=>(by first | exact yld U80 rfl rfl (h.blk bx) rfl | exact yld U80 rfl rfl (h.blk lQ) rfl | exact yld U80 rfl rfl (h.blk wN) rfl)) a8 ?_))); refine qL [2, 3, 4, 5] 1 rfl (fun _ h=>(by first | exact yld U24 rfl rfl (h.blk bx) rfl | exact yld U24 rfl rfl (h.blk lQ) rfl | exact yld U24 rfl rfl (h.blk wN) rfl)) a8 ?_; refine qL [3, 4, 5] 2 rfl (fun _ h=>ynk rfl) a8 (qL [4, 5] 3 rfl (fun _ h=>yfa fl74_1 rfl) a8 (qL [5] 4 rfl (fun _ h=>(by first | exact yld U3 rfl rfl (h.blk bx) rfl | exact yld U3 rfl rfl (h.blk lQ) rfl | exact yld U3 rfl rfl (h.blk wN) rfl)) a8 ?_)); refine hLate [5] (by kernel_rfl) (by kernel_rfl) (qO 5 (nCall (i := 5) rfl rfl rfl (ycv' (args := [.tmp 22]) cf43 rfl rfl) (kN) ?_)); rintro _ w8 ⟨rfl, T2, F2, h2, ⟨wj, io, cy, -⟩, am, ct⟩; refine ⟨trivial, ?_⟩; have lX : Kp F w w8 := (ir.trans a8).kp.trans am; have kW := a8.size; have Ff := ir.size; have ge : ∀ g, F2 g → F g ∨ w.heap.size ≤ g := fun g hg => (ct g hg).imp id (fun e => by omega); have kC := (a8.kp.trans am).blk lQ pT; obtain ⟨mN8, mC8, mO8, gv8, kn8, kc8, ko8, O8⟩ := h2.opn; have nr := O8.blk; have pW : ¬ F2 bt := fun e => (ct _ e).elim pT (by have := lQ.lt; omega); obtain ⟨nsx, cQ, lO⟩ := cy; have m6 := delE_len bo; have KN : T.count = es.length := hI.cnt; refine qE (qN rfl (qV ((by first | exact yld U24 rfl rfl kC rfl | exact yld U24 rfl rfl nr rfl)) ?_)); refine qV (ynk rfl) (qV (yfa fl74_4 rfl) (qV ((by first | exact yld U3 rfl rfl kC rfl | exact yld U3 rfl rfl nr rfl)) ?_)); refine qV (ysb rfl rfl (by omega)) (qV (ynk rfl) (qV (yfa fl74_4 rfl) (rEffP rfl (zst ti3 rfl rfl rfl nr (by simp [trCs])) ?_))); rintro w9 ⟨cZ, aB⟩; have e9 : (T2.count : Int) - 1 = ((T.count - 1 : Nat) : Int) := by rw [wj]; omega
  rw [e9] at cZ; have h9 := O8.setB w9 T2.root (T.count - 1) (by simpa [trCs] using cZ) aB; have nW : Evo T { T2 with root := T2.root, count := T.count - 1 } 0 := ⟨io.size, io.old, io.root, io.len, io.giv, io.nod, ⟨io.srt.rise, io.srt.free⟩, io.chg⟩; have zD : InvP { T2 with root := T2.root, count := T.count - 1 } H nsx (delE es k) := hP.step nW cQ lO (by show T.count - 1 = _; omega); have Fg := aB.blk kC (fun e => pW (by rw [e]; exact O8.fp.1)); refine rEnd (Run.qb (e := [(2, _), (4, _)]) ?_); refine qN rfl (qV (yld U24 rfl rfl Fg rfl) (zqc [.tmp 31] cf48 rfl (settle_ret h9 zD) ?_)); rintro _ w10 ⟨rfl, T3, H3, ns3, F3, h3, l9, IP, y7, aK, oM⟩; refine qM rfl (zqa rfl (rEnd (run_ret Tryz.func11 rfl ?_))); have Fh : Kp F2 w8 w9 := aB.mono' (fun i hi => by rw [hi]; exact O8.fp.1); have mI := lX.size; have ox := aB.size; refine ⟨_, rfl, .inr ⟨rfl, GR, T3, H3, ns3, ⟨_, F3, h3, l9, (lX.trans_new (Fh.trans aK) (fun i hi => (ge i hi).symm)), fun g hg => ?_⟩, nW.toR.trans y7⟩⟩; rcases oM g hg with e | e
  ·exact ge g e
  ·exact .inr (by omega)
end
theorem Inv.pos {T : Tr} {H : Nat} {ns : List Int} {es : Es} (h : Inv T H ns es) (hz : sizeOk (T.size : Int)) : (T.root = 0 ↔ es = []) ∧ (es ≠ [] → 1 ≤ H) := by
 rcases h.std with ⟨h0, -, -, rfl⟩ | ⟨h0, h1, h2, -, h3⟩
 ·exact ⟨⟨fun _ => rfl, fun _ => h0⟩, fun e => absurd rfl e⟩
 ·refine ⟨⟨fun e => absurd e h0, fun e => ?_⟩, fun _ => h1⟩; have := (bn_cnts hz h2 h3).1; rw [e] at this; simp at this
section
variable {w : World}
set_option maxHeartbeats 1000000 in
theorem awake_ret (w : World) : Ret Tryz.prog 16 [] w fun v w' => v = .bool true ∧ Ext w w' := by
 have hz : sizeOk ((512 : Nat) : Int) := by unfold sizeOk; decide
 refine ret_of_run (e := []) Tryz.func16 rfl Tryz.ntmps16 rfl rfl (qN rfl (zqa rfl (qM rfl (zqc [.const (Value.int .i64 512)] cf8 rfl (newT_ret 512) ?_))))
 rintro v1 w1 ⟨aa, fZ⟩
 obtain ⟨p, F, rfl, h1, hF⟩ : ∃ p F, v1 = .tuple #[ptr p 0, I 0] ∧ TreeA w1 p (Tr0 512) (fun _ => 0) F ∧ ∀ k, F k → w.heap.size ≤ k := by
  rcases fZ with ⟨-, h⟩ | ⟨h, -⟩
  ·exact h
  ·exact absurd hz h
 refine zqm rfl (qV (yex rfl rfl) (qV (yex rfl rfl) (zqa rfl (zqa rfl (qM rfl (zqm rfl (rValP rfl rfl (pbs (parts := [(0, .const (Value.int .i64 9)), (1, .const (Value.int .i64 7))]) (cs := [_, _]) (zs := [Value.int .i64 0, Value.int .i64 0]) U34 ti3 rfl (by kernel_rfl) rfl rfl rfl (by decide)) ?_)))))))
 rintro _ w2 ⟨b2, rfl, ⟨cQ, ae, ak⟩, bB⟩
 have aQ : giveOk (Tr0 512) [9, 7] := ⟨by decide, fun x hx => ⟨by simp at hx; omega, rfl, rfl, List.not_mem_nil⟩⟩
 have eI := aa.size
 have eQ := ae.size
 refine zqc [.tmp 11, .tmp 12] cf50 rfl (give_ret (h1.ext ae) (inv0 512) (l := [9, 7]) bB.rd (by decide)) ?_
 rintro v3 w3 gV
 obtain ⟨rfl, aw, F3, h3, oM⟩ : v3 = I 0 ∧ Kp F w2 w3 ∧ ∃ F', TreeA w3 p { Tr0 512 with given := sortZ ((Tr0 512).given ++ [9, 7]) } (fun _ => 0) F' ∧ ∀ k, F' k → F k ∨ w2.heap.size ≤ k := by
  rcases gV with ⟨h, -, h', JE⟩ | ⟨-, h, -⟩
  ·exact ⟨h, h', JE⟩
  ·exact absurd aQ h
 have l9 := (inv0 512).give aQ
 refine zqa rfl (qM rfl (zqm rfl (rCall rfl rfl (yc (args := [.tmp 14, .const (Value.string (⟨#[97]⟩)), .const (Value.string (⟨#[120]⟩))]) cf38 rfl) (putT_ret h3 l9 (by simp) _ _ (by decide) (by decide)) ?_)))
 rintro v4 w4 AH
 obtain ⟨rfl, T4, H4, ns4, nb4, F4, h4, wk, az, Gq, gU⟩ : v4 = I 0 ∧ ∃ T4 H4 ns4 nb4 F4, TreeA w4 p T4 nb4 F4 ∧ Inv T4 H4 ns4 [([97], [120])] ∧ Kp F3 w3 w4 ∧ (∀ k, F4 k → F3 k ∨ w3.heap.size ≤ k) ∧ EvoR _ T4 (0 + 3) := by
  rcases AH with ⟨-, h, -⟩ | ⟨-, -, h, -⟩ | ⟨h, -, -, T4, H4, ns4, ⟨nb4, F4, h1, h2, h3, h4⟩, h5⟩
  ·exact absurd (by unfold may keyOk mostE Tr0; decide) h
  ·rw [show (sortZ ((Tr0 512).given ++ [9, 7])).length = 2 by rw [sortZ_len]; rfl] at h; omega
  ·exact ⟨h, T4, H4, ns4, nb4, F4, h1, h2, h3, h4, h5⟩
 refine zqa rfl (qM rfl (zqm rfl (rCall rfl rfl (yc (args := [.tmp 17, .const (Value.string (⟨#[97]⟩))]) cf42 rfl) (get_ret h4 wk _) ?_)))
 rintro _ w5 ⟨rfl, aJ⟩
 have jq : sizeOk (T4.size : Int) := by rw [(show Evo _ _ _ from gU).size]; exact hz
 have JF := (Inv.cnts jq wk).2
 have KO := (wk.pos jq).2 (by simp)
 have hH : H4 = 1 := by simp at JF; omega
 have sn : T4.count = 1 := by rw [wk.cnt]; rfl
 have h5 := h4.ext aJ
 rw [show getR [([97], [120])] [97] = ([120], 0) by rfl]
 refine zqm rfl (qV (yex rfl rfl) (qV (yex rfl rfl) (zqa rfl (zqa rfl (qM rfl (zqm rfl (qV (yeq rfl rfl) (rTrue (by (first | rfl | assumption | omega | decide)) ?_))))))))
 refine zqm rfl (zqm rfl (qV (yeq rfl rfl) (rTrue (by (first | rfl | assumption | omega | decide)) ?_)))
 refine qV (ypT rfl rfl) (zqm rfl (zqm rfl (qV (yeq rfl rfl) (rTrue (by (first | rfl | assumption | omega | decide)) ?_))))
 refine qV (ypT rfl rfl) (zqm rfl (zqm rfl (qV (yeq rfl rfl) (rTrue (by (first | rfl | assumption | omega | decide)) ?_))))
 refine qV (ypT rfl rfl) (zqm rfl (zqm rfl (qV (yeqS rfl rfl) (rTrue (by (first | rfl | assumption | omega | decide)) ?_))))
 refine qV (ypT rfl rfl) (zqm rfl (zqm rfl (zqc [.tmp 40] cf14 rfl (lenT_ret h5) ?_)))
 rintro _ w6 ⟨rfl, rfl⟩
 rw [sn]
 refine qV (yeq rfl rfl) (rTrue (by (first | rfl | assumption | omega | decide)) ?_)
 refine qV (ypT rfl rfl) (zqm rfl (zqm rfl (zqc [.tmp 45] cf20 rfl (depth_ret h5 wk (by omega)) ?_)))
 rintro _ w6 ⟨rfl, rfl⟩
 rw [hH]
 refine qV (yeq rfl rfl) (rTrue (by (first | rfl | assumption | omega | decide)) ?_)
 refine qV (ypT rfl rfl) (zqa rfl (rEnd (Run.qb (e := [(0, _)]) ?_)))
 refine run_ret Tryz.func16 rfl (⟨_, rfl, rfl, ?_⟩)
 have uL : ∀ k, F3 k → w.heap.size ≤ k := fun k hk => (oM k hk).elim (hF k) (fun e => by omega)
 exact (((aa.trans ae).trans_new aw (fun i hi => hF i hi)).trans_new az (fun i hi => uL i hi)).trans aJ
theorem has_ret {lv : Value} {l : List Int} (hR : Rd w lv 1 l.length (l.map I)) (hl : l.length ≤ 17592186044416) (no : Int) : Ret Tryz.prog 33 [lv, I no] w fun v w' => v = .bool (decide (no ∈ l)) ∧ w' = w := by
 obtain ⟨a, c, rfl, -⟩ := hR.shape
 refine ret_of_run (e := [(0, _), (1, _)]) Tryz.func33 rfl Tryz.ntmps33 rfl rfl (qN rfl (zqa rfl (rEnd (run_seq (qN rfl (zqa rfl (rEnd (run_block (zqu (α := Nat) (0) (fun i => [(0, .slice a l.length c), (1, I no), (5, I (i : Int))]) (fun i w' => w' = w ∧ i ≤ l.length ∧ no ∉ l.take i) (fun i => l.length - i) ?hI ?hround)))))))))
 case hI => exact ⟨rfl, Nat.zero_le _, by simp⟩
 case hround =>
  rintro i w1 ⟨rfl, hi, aH⟩ ih
  try dsimp only
  refine run_seq (qN rfl (zqm rfl (zqm rfl (qV (yln U34 rfl) (qV (ylt rfl rfl) (rEnd (run_if rfl (fun af => ?_) (fun af => ?_))))))))
  ·have ab : i < l.length := by omega
   obtain ⟨lb, lo, y, rfl, hy⟩ := rd_getI hR ab; refine run_skip (run_seq (run_block (qN rfl (zqm rfl (zqm rfl (qV (yis U34 ti3 rfl rfl (by omega)) (qV (yldc U3 rfl rfl (rd_intT hR ab hy)) (zqm rfl (qV (yeq rfl rfl) (rEnd (run_if rfl (fun he => ?_) (fun he => ?_))))))))))))
   ·refine qN rfl (zqa rfl (rEnd (run_ret Tryz.func33 rfl ?_))); exact ⟨_, rfl, by rw [decide_eq_true (by rw [← he]; exact List.mem_of_getElem? hy)]; rfl, rfl⟩
   ·refine run_skip (run_inBlock (run_reg rfl (zqm rfl (zqd rfl rfl (zqa rfl (rEnd ((ih (i + 1) _ ⟨rfl, by omega, fun hh => ?_⟩ (by omega)).qb))))))); rcases (mem_take_succ hy).1 hh with hx | hx
    ·exact aH hx
    ·exact he hx.symm
  ·rw [List.take_of_length_le (by omega)] at aH; refine run_exit rfl (qN rfl (zqa rfl (rEnd (run_ret Tryz.func33 rfl ?_)))); exact ⟨_, rfl, by rw [decide_eq_false aH]; rfl, rfl⟩
theorem page_ret {lv : Value} {l : Pgs} (hR : Rd w lv 2 l.length (pgC l)) (hl : l.length ≤ 17592186044416) (no : Int) : Ret Tryz.prog 32 [lv, I no] w fun v w' => v = .bool (decide (no ∈ l.map (·.1))) ∧ w' = w := by
 obtain ⟨a, c, rfl, -⟩ := hR.shape
 refine ret_of_run (e := [(0, _), (1, _)]) Tryz.func32 rfl Tryz.ntmps32 rfl rfl (qN rfl (zqa rfl (rEnd (run_seq (qN rfl (zqa rfl (rEnd (run_block (zqu (α := Nat) (0) (fun i => [(0, .slice a l.length c), (1, I no), (5, I (i : Int))]) (fun i w' => w' = w ∧ i ≤ l.length ∧ no ∉ (l.take i).map (·.1)) (fun i => l.length - i) ?hI ?hround)))))))))
 case hI => exact ⟨rfl, Nat.zero_le _, by simp⟩
 case hround =>
  rintro i w1 ⟨rfl, hi, aH⟩ ih
  try dsimp only
  refine run_seq (qN rfl (zqm rfl (zqm rfl (qV (yln U33 rfl) (qV (ylt rfl rfl) (rEnd (run_if rfl (fun af => ?_) (fun af => ?_))))))))
  ·have ab : i < l.length := by omega
   obtain ⟨lb, lo, y, rfl, hy⟩ := rd_pgs hR rfl ab; refine run_skip (run_seq (run_block (qN rfl (zqm rfl (zqm rfl (qV (yis U33 ti54 rfl rfl (by omega)) (qV (yfa fl54_0 rfl) (qV (yldc U3 rfl rfl (rd_pg0 hR ab hy)) (zqm rfl (qV (yeq rfl rfl) (rEnd (run_if rfl (fun he => ?_) (fun he => ?_)))))))))))))
   ·refine qN rfl (zqa rfl (rEnd (run_ret Tryz.func32 rfl ?_))); exact ⟨_, rfl, by rw [decide_eq_true (List.mem_map.2 ⟨y, List.mem_of_getElem? hy, he⟩)]; rfl, rfl⟩
   ·refine run_skip (run_inBlock (run_reg rfl (zqm rfl (zqd rfl rfl (zqa rfl (rEnd ((ih (i + 1) _ ⟨rfl, by omega, fun hh => ?_⟩ (by omega)).qb))))))); obtain ⟨x, hx, e⟩ := List.mem_map.1 hh; rcases (mem_take_succ hy).1 hx with hx | rfl
    ·exact aH (List.mem_map.2 ⟨x, hx, e⟩)
    ·exact he e
  ·rw [List.take_of_length_le (by omega)] at aH; refine run_exit rfl (qN rfl (zqa rfl (rEnd (run_ret Tryz.func32 rfl ?_)))); exact ⟨_, rfl, by rw [decide_eq_false aH]; rfl, rfl⟩
theorem pagesL_ret {lv : Value} {l : Pgs} (hR : Rd w lv 2 l.length (pgC l)) (hl : l.length ≤ 1000000) : Ret Tryz.prog 29 [lv] w fun v w' => Ext w w' ∧ Sl w' v 54 2 l.length (pgC l) ∧ ∀ g, v.ownBlock = some g → w.heap.size ≤ g := by
 obtain ⟨a, c, rfl, -⟩ := hR.shape
 have dL : maxLen = 9223372036854775807 := rfl
 refine ret_of_run (e := [(0, _)]) Tryz.func29 rfl Tryz.ntmps29 rfl rfl (qN rfl (zqa rfl (qM rfl (zqa rfl (rEnd (run_seq (qN rfl (zqa rfl (rEnd (run_block (zqu (α := Nat × Value) ((0, .slice none 0 0)) (fun x => [(0, .slice a l.length c), (3, x.2), (4, I (x.1 : Int))]) (fun x w' => x.1 ≤ l.length ∧ Ext w w' ∧ Sl w' x.2 54 2 (l.take x.1).length (pgC (l.take x.1)) ∧ ∀ g, x.2.ownBlock = some g → w.heap.size ≤ g) (fun x => l.length - x.1) ?hI ?hround)))))))))))
 case hI => exact ⟨Nat.zero_le _, Ext.refl _, Sl.nil _ _ _, fun g hg => by simp [Value.ownBlock] at hg⟩
 case hround =>
  rintro ⟨j, ov⟩ w1 ⟨hj, aa, dC, dQ⟩ ih; dsimp only at hj dC dQ; have nX : (l.take j).length = j := by rw [List.length_take]; omega
  try dsimp only
  refine run_seq (qN rfl (zqm rfl (zqm rfl (qV (yln U52 rfl) (qV (ylt rfl rfl) (rEnd (run_if rfl (fun af => ?_) (fun af => ?_))))))))
  ·have ix : j < l.length := by omega
   obtain ⟨lb, lo, y, rfl, hy⟩ := rd_pgs hR rfl ix; have hg : Ext w w1.drew := aa.trans (Ext.drew0 w1); have eI := aa.size; refine run_skip (run_seq (run_block (run_draw (fun w' => Ext w w') (by kernel_rfl) rfl (zqt 0 rfl (ymv rfl) hg (zqt 1 rfl (ymv rfl) hg (zqt 2 rfl (ymv rfl) hg (zqt 3 rfl (yis U52 ti55 rfl rfl (by omega)) hg (zqt 4 rfl (yfa fl55_0 rfl) hg (zqt 6 rfl (ymv rfl) hg (zqt 7 rfl (ymv rfl) hg (zqt 8 rfl (yis U52 ti55 rfl rfl (by omega)) hg (zqt 9 rfl (yfa fl55_1 rfl) hg (qT 5 rfl (fun _ h=>yldc U3 rfl rfl (rd_pg0 (hR.ext h) ix hy)) hg ?_))))))))))))); refine qT 10 rfl (fun _ h=>yldc U9 rfl rfl (rd_pg1 (hR.ext h) ix hy)) hg (zqt 11 rfl (ybd (parts := [(0, .tmp 16), (1, .tmp 21)]) (cs := [_, _]) ti54 rfl sp54 rfl rfl) hg (qO 12 (nValP (i := 12) rfl rfl rfl (pbs (parts := [(0, .tmp 22)]) (cs := [_, _]) (zs := [Value.int .i64 0, Value.string ⟨#[]⟩]) U33 ti54 rfl (by kernel_rfl) rfl rfl rfl (by decide)) ?_))); rintro _ w2 ⟨b2, rfl, ⟨cQ, ae, ak⟩, bB⟩; refine ⟨hg.trans ae, ?_⟩; have GL := (hg.trans ae).size; refine qO 13 (nValP (i := 13) rfl rfl rfl (pap U33 ti54 rfl (by decide) rfl rfl (dC.ext ((Ext.drew0 w1).trans ae)) bB.rd (by intro c hc; simp at hc; rcases hc with rfl | rfl <;> rfl) (by omega) (by omega)) ?_); rintro ov2 w3 ⟨bs, aw, gu, -⟩; refine ⟨(hg.trans ae).trans_new aw (fun i hi => dQ i hi), ?_⟩; refine zqt 14 rfl (yas rfl) ((hg.trans ae).trans_new aw (fun i hi => dQ i hi)) (qE (run_inBlock (run_reg rfl (zqm rfl (zqd rfl rfl (zqa rfl (rEnd ((ih (j + 1, ov2) w3 ⟨by dsimp only; omega, (hg.trans ae).trans_new aw (fun i hi => dQ i hi), ?_, fun g aA => ?_⟩ (by dsimp only; omega)).qb))))))))
   ·obtain ⟨h1, h2⟩ := List.getElem?_eq_some_iff.1 hy; dsimp only; rw [List.take_succ_eq_append_getElem h1, h2, pgC_app, List.length_append]; exact bs
   ·rcases gu g aA with e | e
    ·exact dQ g e
    ·omega
  ·have ET : j = l.length := by omega
   subst ET; rw [List.take_length] at dC; refine run_exit rfl (qN rfl (zqm rfl (zqa rfl (rEnd (run_ret Tryz.func29 rfl ?_))))); exact ⟨_, rfl, aa, dC, dQ⟩
end
theorem LoadOk.det {z : Nat} {root : Int} {l : Pgs} {H H' : Nat} {ns ns' : List Int} {es es' : Es} (hz : sizeOk (z : Int)) (h : LoadOk z root l H ns es) (h' : LoadOk z root l H' ns' es') : H = H' ∧ ns = ns' ∧ es = es' := by
 rcases h with ⟨h1, rfl, rfl, rfl, rfl⟩ | ⟨h0, s, hl⟩
 ·rcases h' with ⟨-, -, rfl, rfl, rfl⟩ | ⟨h0, -⟩
  ·exact ⟨rfl, rfl, rfl⟩
  ·exact absurd h1 h0
 ·rcases h' with ⟨h1, -⟩ | ⟨-, s', -⟩
  ·exact absurd h1 h0
  ·exact bn_det hz s.bn s'.bn
section
variable {w : World}
end
def Kids32 (N : Nodes) : Prop := ∀ x n, N x = some n → ∀ c ∈ n.kids, c < 4294967296
theorem TreeA.kids32 {w : World} {p : Nat} {T : Tr} {nb : Int → Nat} {F : Nat → Prop} (h : TreeA w p T nb F) : Kids32 T.nodes := fun x n hn => by
 obtain ⟨q, -, hM, -⟩ := h.node hn
 exact hM.bd.cs
theorem nodup_rev {α : Type} {l : List α} (h : l.Nodup) : l.reverse.Nodup := by
 unfold List.Nodup at h ⊢
 rw [List.pairwise_reverse]
 exact h.imp fun h => h.symm
structure OwnP (T : Tr) (ns : List Int) (l : Pgs) : Prop where
 nd : (l.map (·.1)).Nodup
 mem : ∀ x, x ∈ l.map (·.1) ↔ x ∈ ns
 txt : ∀ y ∈ l, y.2 = encAt T.size T.nodes y.1
 len : l.length = ns.length
theorem ownP_pgs {T : Tr} {ns : List Int} (hn : ns.Nodup) : OwnP T ns (pgs T.size T.nodes ns fun _ => true) :=
 ⟨(pgs_rise hn).nodup1, fun x => by rw [pgs_fst, List.mem_filter, sortZ_mem]; simp, fun y hy => (pgs_mem.1 hy).2.2, pgs_all_len⟩
theorem OwnP.rev {T : Tr} {ns : List Int} {l : Pgs} (h : OwnP T ns l) : OwnP T ns l.reverse :=
 ⟨by rw [List.map_reverse]; exact nodup_rev h.nd, fun x => by rw [List.map_reverse, List.mem_reverse]; exact h.mem x, fun y hy => h.txt y (List.mem_reverse.1 hy), by rw [List.length_reverse]; exact h.len⟩
section
variable {T : Tr} {H : Nat} {ns : List Int} {es : Es} {l : Pgs}
theorem OwnP.nodes (h : OwnP T ns l) (hI : Inv T H ns es) (hz : sizeOk (T.size : Int)) (hk : Kids32 T.nodes) : nodesOf T.size l = T.nodes := by
 funext x
 by_cases hx : x ∈ l.map (·.1)
 ·obtain ⟨y, hy, rfl⟩ := List.mem_map.1 hx; rw [nodesOf_mem h.nd hy]; obtain ⟨n, hn⟩ := Option.ne_none_iff_exists'.1 ((hI.mem y.1).2 ((h.mem y.1).1 hx)); have aQ := hI.ok hz hn; rw [hn]; unfold ndOf; rw [h.txt y hy]; unfold encAt; rw [hn]; dsimp only; rw [if_pos (enc_length aQ)]; exact dec_enc hz ⟨aQ, hk _ n hn⟩
 ·rw [nodesOf_none hx]
  cases e : T.nodes x with
  | none => rfl
  | some n => exact absurd ((h.mem x).2 ((hI.mem x).1 (by rw [e]; simp))) hx
theorem OwnP.ok (h : OwnP T ns l) (hI : Inv T H ns es) (hz : sizeOk (T.size : Int)) (hk : Kids32 T.nodes) : LoadOk T.size T.root l H ns es := by
 have hN := h.nodes hI hz hk
 rcases hI.std with ⟨h0, h1, h2, h3⟩ | ⟨h0, h1, hB, bz, hr⟩
 ·refine .inl ⟨h0, ?_, h1, h2, h3⟩; exact List.eq_nil_of_length_eq_zero (by rw [h.len, h2]; rfl)
 ·refine .inr ⟨h0, ⟨by rw [hN]; exact hB, bz, by simp, fun n hn => ?_⟩, h.len.symm⟩; rw [hN] at hn
  simpa using hr n hn
theorem OwnP.nums (h : OwnP T ns l) (hI : Inv T H ns es) (hz : sizeOk (T.size : Int)) : numsOk (T.size : Int) T.root l := by
 refine ⟨hz, ?_, h.nd, fun x hx => hI.num x.1 ((hI.mem x.1).2 ((h.mem x.1).1 (List.mem_map.2 ⟨x, hx, rfl⟩)))⟩
 rcases hI.std with ⟨h0, -⟩ | ⟨h0, -, hB, -, -⟩
 ·omega
 ·have := hI.num T.root ((hI.mem T.root).2 hB.mem); omega
theorem OwnP.short (h : OwnP T ns l) (hI : Inv T H ns es) (hz : sizeOk (T.size : Int)) : ∀ y ∈ l, y.2.length ≤ 140737488355328 := fun y hy => by
 rw [h.txt y hy]
 unfold encAt
 cases e : T.nodes y.1 with
 | none => simp
 | some n =>
   dsimp only; rw [enc_length (hI.ok hz e)]; have := hz.2.1; omega
theorem Inv.rise (hI : Inv T H ns es) (hz : sizeOk (T.size : Int)) : Rise (es.map (·.1)) := by
 rcases hI.std with ⟨-, -, -, rfl⟩ | ⟨h0, h1, hB, bz, hr⟩
 ·exact List.Pairwise.nil
 ·exact hB.keys.2
end
structure Sx where
 T : Tr
 H : Nat
 ns : List Int
 es : Es
 O : Nodes
 os : List Int
 gs : List Int
 nx : Nat
structure Gh (X : Sx) (k : Nat) : Prop where
 inv : Inv X.T X.H X.ns X.es
 ond : X.os.Nodup
 om : ∀ x, X.O x ≠ none ↔ x ∈ X.os
 old : ∀ x, X.T.old x = true ↔ X.O x ≠ none
 same : ∀ x, X.T.changed x = false → X.T.nodes x ≠ none → X.T.nodes x = X.O x
 src : ∀ x, (X.T.nodes x ≠ none ∨ x ∈ X.T.given) → x ∈ X.os ∨ x ∈ X.gs
 el : X.es.length ≤ k
 ol : X.os.length ≤ 2 * k
 nl : X.nx ≤ 2000 * k
 gl : X.gs.length ≤ 4294967296 * k
theorem Gh.mono {X : Sx} {k k' : Nat} (h : Gh X k) (hk : k ≤ k') : Gh X k' :=
 ⟨h.inv, h.ond, h.om, h.old, h.same, h.src, Nat.le_trans h.el hk, Nat.le_trans h.ol (Nat.mul_le_mul_left _ hk), Nat.le_trans h.nl (Nat.mul_le_mul_left _ hk), Nat.le_trans h.gl (Nat.mul_le_mul_left _ hk)⟩
theorem gh0 (z : Nat) : Gh ⟨Tr0 z, 0, [], [], fun _ => none, [], [], 0⟩ 0 :=
 ⟨inv0 z, List.nodup_nil, fun x => by simp, fun x => by simp [Tr0], fun x _ h => absurd rfl h, fun x h => by simp [Tr0] at h, Nat.le_refl _, Nat.le_refl _, Nat.le_refl _, Nat.le_refl _⟩
theorem Gh.evo {X : Sx} {k g : Nat} (h : Gh X k) {T' : Tr} {H' : Nat} {ns' : List Int} {es' : Es} (e : EvoR X.T T' g) (hI : Inv T' H' ns' es') {k' : Nat} (hk : k ≤ k') (hl : es'.length ≤ k') : Gh { X with T := T', H := H', ns := ns', es := es' } k' := by
 have e' : Evo _ _ _ := e
 have hm := h.mono hk
 refine ⟨hI, h.ond, h.om, fun x => by rw [show T'.old = X.T.old from e'.old]; exact h.old x, fun x hc hn => ?_, fun x hx => ?_, hl, hm.ol, hm.nl, hm.gl⟩
 ·rcases e'.chg x hc with h1 | ⟨h1, h2⟩
  ·exact absurd h1 hn
  ·have qX : T'.nodes x = X.T.nodes x := h1; dsimp only at hn ⊢; rw [qX] at hn ⊢; exact h.same x h2 hn
 ·rcases hx with hx | hx
  ·exact h.src x (e'.nod x hx)
  ·rcases e'.giv x hx with h1 | h1
   ·exact h.src x (.inr h1)
   ·exact h.src x (.inl h1.1)
theorem Gh.give {X : Sx} {k : Nat} (h : Gh X k) {l : List Int} (hl : giveOk X.T l) : Gh { X with T := { X.T with given := sortZ (X.T.given ++ l) }, gs := X.gs ++ l } (k + 1) := by
 have hm := h.mono (Nat.le_succ k)
 refine ⟨h.inv.give hl, h.ond, h.om, h.old, h.same, fun x hx => ?_, hm.el, hm.ol, hm.nl, ?_⟩
 ·rcases hx with hx | hx
  ·rcases h.src x (.inl hx) with h1 | h1
   ·exact .inl h1
   ·exact .inr (List.mem_append_left _ h1)
  ·rcases List.mem_append.1 (sortZ_mem.1 hx) with hx | hx
   ·rcases h.src x (.inr hx) with h1 | h1
    ·exact .inl h1
    ·exact .inr (List.mem_append_left _ h1)
   ·exact .inr (List.mem_append_right _ hx)
 ·have h1 := nodup_le hl.1 (fun x hx => (hl.2 x hx).1); have h2 := h.gl; dsimp only; rw [List.length_append, Nat.mul_succ]; omega
def Sx.clean (X : Sx) : Sx := { X with T := { X.T with changed := fun _ => false, old := fun x => (X.T.nodes x).isSome }, O := X.T.nodes, os := X.ns, gs := X.T.given }
theorem Gh.clean {X : Sx} {k : Nat} (h : Gh X k) (hz : sizeOk (X.T.size : Int)) (h0 : 1 ≤ k) : Gh X.clean k := by
 have hI := h.inv
 have hc := Inv.cnts hz hI
 have fJ := h.el
 refine ⟨⟨hI.std, hI.all, hI.cnt, hI.num, hI.gnum, ⟨hI.giv.rise, fun x hx => ⟨(hI.giv.free x hx).1, ?_⟩⟩, fun x hx _ => ?_⟩, hI.nodup, hI.mem, fun x => ?_, fun x _ _ => rfl, fun x hx => ?_, h.el, ?_, h.nl, ?_⟩
 ·show (X.T.nodes x).isSome = false; rw [(hI.giv.free x hx).1]; rfl
 ·show (X.T.nodes x).isSome = true; exact Option.isSome_iff_ne_none.2 hx
 ·show (X.T.nodes x).isSome = true ↔ _; exact Option.isSome_iff_ne_none
 ·rcases hx with hx | hx
  ·exact .inl ((hI.mem x).1 hx)
  ·exact .inr hx
 ·show X.ns.length ≤ _; omega
 ·show X.T.given.length ≤ _; have := hI.gl; have : 4294967296 * 1 ≤ 4294967296 * k := Nat.mul_le_mul_left _ h0; omega
noncomputable def Sx.load (X : Sx) (l : Pgs) : Sx := { X with T := TrL X.T.size X.T.root l X.es.length, O := X.T.nodes, os := X.ns, gs := [] }
theorem Gh.load {X : Sx} {k : Nat} (h : Gh X k) (hz : sizeOk (X.T.size : Int)) {l : Pgs} (hl : OwnP X.T X.ns l) (hk : Kids32 X.T.nodes) : Gh (X.load l) k := by
 have hI := h.inv
 have hc := Inv.cnts hz hI
 have fJ := h.el
 have hN := hl.nodes hI hz hk
 have GS : ∀ x, (TrL X.T.size X.T.root l X.es.length).nodes x = X.T.nodes x := fun x => congrFun hN x
 refine ⟨(hl.ok hI hz hk).inv (hl.nums hI hz), hI.nodup, hI.mem, fun x => ?_, fun x _ _ => GS x, fun x hx => ?_, h.el, ?_, h.nl, Nat.zero_le _⟩
 ·show decide (x ∈ l.map (·.1)) = true ↔ X.T.nodes x ≠ none; rw [decide_eq_true_iff, hl.mem x, hI.mem x]
 ·rcases hx with hx | hx
  ·refine .inl ((hI.mem x).1 ?_); rw [← GS x]; exact hx
  ·cases hx
 ·show X.ns.length ≤ _; omega
structure StM (w : World) (q : Nat) (X : Sx) (p m : Nat) (mv sv gv : Value) (nb : Int → Nat) (F : Nat → Prop) : Prop where
 blk : Blk w q [I (X.T.size : Int), ptr p 0, ptr m 0, sv, gv, I (X.nx : Int)] 36
 tree : TreeA w p X.T nb F
 map : MpM w m mv X.es
 sto : Sl w sv 54 2 (pgs X.T.size X.O X.os fun _ => true).length (pgC (pgs X.T.size X.O X.os fun _ => true))
 giv : Sl w gv 3 1 X.gs.length (X.gs.map I)
 qm : q ≠ m
 fq : ¬ F q
 fm : ¬ F m
 ov : ∀ g, mv.ownBlock = some g ∨ sv.ownBlock = some g ∨ gv.ownBlock = some g → g ≠ q ∧ g ≠ m ∧ ¬ F g
 og : ∀ g, gv.ownBlock = some g → mv.ownBlock ≠ some g ∧ sv.ownBlock ≠ some g
def fpS (q m : Nat) (mv sv gv : Value) (F : Nat → Prop) (k : Nat) : Prop := k = q ∨ k = m ∨ mv.ownBlock = some k ∨ sv.ownBlock = some k ∨ gv.ownBlock = some k ∨ F k
section
variable {w w' : World} {q : Nat} {X : Sx} {p m : Nat} {mv sv gv : Value} {nb : Int → Nat} {F : Nat → Prop}
theorem StM.ext (h : StM w q X p m mv sv gv nb F) (k : Ext w w') : StM w' q X p m mv sv gv nb F :=
 ⟨k.blk h.blk, h.tree.ext k, h.map.ext k, h.sto.ext k, h.giv.ext k, h.qm, h.fq, h.fm, h.ov, h.og⟩
theorem StM.lt (h : StM w q X p m mv sv gv nb F) {k : Nat} (hk : fpS q m mv sv gv F k) : k < w.heap.size := by
 rcases hk with rfl | rfl | hk | hk | hk | hk
 ·exact h.blk.lt
 ·exact h.map.blk.lt
 ·exact h.map.sl.lt hk
 ·exact h.sto.lt hk
 ·exact h.giv.lt hk
 ·exact h.tree.lt k hk
end
section
variable {w w' w1 w2 : World} {q : Nat} {X : Sx} {p m : Nat} {mv sv gv : Value} {nb : Int → Nat} {F : Nat → Prop}
theorem StM.treed (h : StM w q X p m mv sv gv nb F) {T' : Tr} {nb' : Int → Nat} {F' : Nat → Prop} (hT : TreeA w' p T' nb' F') (hs : T'.size = X.T.size) (hk : Kp F w w') (hF : ∀ k, F' k → F k ∨ w.heap.size ≤ k) :
  StM w' q { X with T := T' } p m mv sv gv nb' F' ∧ Kp (fpS q m mv sv gv F) w w' ∧ ∀ k, fpS q m mv sv gv F' k → fpS q m mv sv gv F k ∨ w.heap.size ≤ k := by
 have hq := h.blk.lt
 have hm := h.map.blk.lt
 refine ⟨⟨?_, hT, h.map.kp hk h.fm (fun g hg => (h.ov g (.inl hg)).2.2), ?_, h.giv.kp hk (fun g hg => (h.ov g (.inr (.inr hg))).2.2), h.qm, fun e => (hF q e).elim h.fq (fun e => by omega), fun e => (hF m e).elim h.fm (fun e => by omega), fun g hg => ⟨(h.ov g hg).1, (h.ov g hg).2.1, fun e => (hF g e).elim (h.ov g hg).2.2 (fun e => ?_)⟩, h.og⟩, hk.mono' (fun k hk => .inr (.inr (.inr (.inr (.inr hk))))), fun k hk => ?_⟩
 ·have := hk.blk h.blk h.fq; rw [← hs] at this; exact this
 ·dsimp only; rw [hs]; exact h.sto.kp hk (fun g hg => (h.ov g (.inr (.inl hg))).2.2)
 ·have := h.lt (k := g) (by rcases hg with hg | hg | hg; exact .inr (.inr (.inl hg)); exact .inr (.inr (.inr (.inl hg))); exact .inr (.inr (.inr (.inr (.inl hg))))); omega
 ·rcases hk with hk | hk | hk | hk | hk | hk
  ·exact .inl (.inl hk)
  ·exact .inl (.inr (.inl hk))
  ·exact .inl (.inr (.inr (.inl hk)))
  ·exact .inl (.inr (.inr (.inr (.inl hk))))
  ·exact .inl (.inr (.inr (.inr (.inr (.inl hk)))))
  ·exact (hF k hk).imp (fun e => .inr (.inr (.inr (.inr (.inr e))))) id
theorem StM.next (h : StM w q X p m mv sv gv nb F) {n : Nat} (hB : Blk w' q [I (X.T.size : Int), ptr p 0, ptr m 0, sv, gv, I (n : Int)] 36) (hk : Kp (fun k => k = q) w w') : StM w' q { X with nx := n } p m mv sv gv nb F :=
 ⟨hB, h.tree.kp hk (fun g hg e => h.fq (e ▸ hg)), h.map.kp hk (fun e => h.qm e.symm) (fun g hg e => (h.ov g (.inl hg)).1 e), h.sto.kp hk (fun g hg e => (h.ov g (.inr (.inl hg))).1 e), h.giv.kp hk (fun g hg e => (h.ov g (.inr (.inr hg))).1 e), h.qm, h.fq, h.fm, h.ov, h.og⟩
theorem StM.gave (h : StM w q X p m mv sv gv nb F) {gs' : List Int} {gv' : Value} (hS : Sl w1 gv' 3 1 gs'.length (gs'.map I)) (aD : Kp (fun k => gv.ownBlock = some k) w w1) (ho : ∀ g, gv'.ownBlock = some g → gv.ownBlock = some g ∨ w.heap.size ≤ g)
  (hB : Blk w2 q [I (X.T.size : Int), ptr p 0, ptr m 0, sv, gv', I (X.nx : Int)] 36) (am : Kp (fun k => k = q) w1 w2) :
  StM w2 q { X with gs := gs' } p m mv sv gv' nb F ∧ Kp (fpS q m mv sv gv F) w w2 ∧ ∀ k, fpS q m mv sv gv' F k → fpS q m mv sv gv F k ∨ w.heap.size ≤ k := by
 have cR : Kp (fun k => k = q ∨ gv.ownBlock = some k) w w2 := (aD.mono' (fun k e => .inr e)).trans (am.mono' (fun k e => .inl e))
 have wO : ∀ g, gv'.ownBlock = some g → g ≠ q ∧ g ≠ m ∧ ¬ F g ∧ mv.ownBlock ≠ some g ∧ sv.ownBlock ≠ some g := fun g hg => by
  rcases ho g hg with e | e
  ·have h1 := h.ov g (.inr (.inr e)); have h2 := h.og g e; exact ⟨h1.1, h1.2.1, h1.2.2, h2.1, h2.2⟩
  ·have h1 := h.blk.lt; have h2 := h.map.blk.lt; exact ⟨by omega, by omega, fun e' => by have := h.tree.lt g e'; omega, fun e' => by have := h.map.sl.lt e'; omega, fun e' => by have := h.sto.lt e'; omega⟩
 refine ⟨⟨hB, h.tree.kp cR (fun g hg e => e.elim (fun e => h.fq (e ▸ hg)) (fun e => (h.ov g (.inr (.inr e))).2.2 hg)), h.map.kp cR (fun e => e.elim (fun e => h.qm e.symm) (fun e => (h.ov m (.inr (.inr e))).2.1 rfl)) (fun g hg e => e.elim (fun e => (h.ov g (.inl hg)).1 e) (fun e => (h.og g e).1 hg)), h.sto.kp cR (fun g hg e => e.elim (fun e => (h.ov g (.inr (.inl hg))).1 e) (fun e => (h.og g e).2 hg)), hS.kp am (fun g hg e => (wO g hg).1 e), h.qm, h.fq, h.fm, fun g hg => ?_, fun g hg => (wO g hg).2.2.2⟩, cR.mono' (fun k e => e.elim .inl (fun e => .inr (.inr (.inr (.inr (.inl e)))))), fun k hk => ?_⟩
 ·rcases hg with hg | hg | hg
  ·exact h.ov g (.inl hg)
  ·exact h.ov g (.inr (.inl hg))
  ·have := wO g hg; exact ⟨this.1, this.2.1, this.2.2.1⟩
 ·rcases hk with hk | hk | hk | hk | hk | hk
  ·exact .inl (.inl hk)
  ·exact .inl (.inr (.inl hk))
  ·exact .inl (.inr (.inr (.inl hk)))
  ·exact .inl (.inr (.inr (.inr (.inl hk))))
  ·exact (ho k hk).imp (fun e => .inr (.inr (.inr (.inr (.inl e))))) id
  ·exact .inl (.inr (.inr (.inr (.inr (.inr hk)))))
theorem StM.mapped (h : StM w q X p m mv sv gv nb F) {es' : Es} (hM : MpS m w w' es') :
  ∃ mv', StM w' q { X with es := es' } p m mv' sv gv nb F ∧ Kp (fpS q m mv sv gv F) w w' ∧ ∀ k, fpS q m mv' sv gv F k → fpS q m mv sv gv F k ∨ w.heap.size ≤ k := by
 obtain ⟨mv', hM, hk, ho⟩ := hM
 have hq := h.blk.lt
 have hm := h.map.blk.lt
 refine ⟨mv', ⟨hk.blk h.blk h.qm, h.tree.kp hk (fun g hg e => h.fm (e ▸ hg)), hM, h.sto.kp hk (fun g hg e => (h.ov g (.inr (.inl hg))).2.1 e), h.giv.kp hk (fun g hg e => (h.ov g (.inr (.inr hg))).2.1 e), h.qm, h.fq, h.fm, fun g hg => ?_, fun g hg => ⟨fun e => ?_, (h.og g hg).2⟩⟩, hk.mono' (fun k e => .inr (.inl e)), fun k br => ?_⟩
 ·rcases hg with hg | hg | hg
  ·have := ho g hg; exact ⟨by omega, by omega, fun e => by have := h.tree.lt g e; omega⟩
  ·exact h.ov g (.inr (.inl hg))
  ·exact h.ov g (.inr (.inr hg))
 ·have := ho g e; have := h.giv.lt hg; omega
 ·rcases br with br | br | br | br | br | br
  ·exact .inl (.inl br)
  ·exact .inl (.inr (.inl br))
  ·exact .inr (ho k br)
  ·exact .inl (.inr (.inr (.inr (.inl br))))
  ·exact .inl (.inr (.inr (.inr (.inr (.inl br)))))
  ·exact .inl (.inr (.inr (.inr (.inr (.inr br)))))
end
theorem StM.hn {w : World} {q : Nat} {X : Sx} {p m : Nat} {mv sv gv : Value} {nb : Int → Nat} {F : Nat → Prop} (h : StM w q X p m mv sv gv nb F) (a : Nat) (b : List Int) : StM w q { X with H := a, ns := b } p m mv sv gv nb F :=
 ⟨h.blk, h.tree, h.map, h.sto, h.giv, h.qm, h.fq, h.fm, h.ov, h.og⟩
def StF (w : World) (q m : Nat) (X : Sx) (fp : Nat → Prop) : Prop := ∃ p mv sv gv nb F, StM w q X p m mv sv gv nb F ∧ ∀ k, fp k ↔ fpS q m mv sv gv F k
def StR (q m : Nat) (fp : Nat → Prop) (w w' : World) (X' : Sx) : Prop := ∃ fp', StF w' q m X' fp' ∧ Kp fp w w' ∧ ∀ k, fp' k → fp k ∨ w.heap.size ≤ k
section
variable {w w' w1 w2 : World} {q m : Nat} {X X1 X2 : Sx} {fp : Nat → Prop}
theorem StF.lt (h : StF w q m X fp) {k : Nat} (hk : fp k) : k < w.heap.size := by
 obtain ⟨p, mv, sv, gv, nb, F, hM, hf⟩ := h
 exact hM.lt ((hf k).1 hk)
theorem StF.ext (h : StF w q m X fp) (k : Ext w w') : StF w' q m X fp := by
 obtain ⟨p, mv, sv, gv, nb, F, hM, hf⟩ := h
 exact ⟨p, mv, sv, gv, nb, F, hM.ext k, hf⟩
theorem StR.refl (h : StF w q m X fp) (k : Ext w w') : StR q m fp w w' X := ⟨fp, h.ext k, k.kp, fun _ h => .inl h⟩
theorem StR.trans (h1 : StR q m fp w w1 X1) (h2 : ∀ fp', StF w1 q m X1 fp' → StR q m fp' w1 w2 X2) : StR q m fp w w2 X2 := by
 obtain ⟨f1, s1, k1, n1⟩ := h1
 obtain ⟨f2, s2, k2, n2⟩ := h2 f1 s1
 refine ⟨f2, s2, k1.trans_new k2 (fun i hi => (n1 i hi).symm), fun k hk => ?_⟩
 rcases n2 k hk with h | h
 ·exact n1 k h
 ·have := k1.size; exact .inr (by omega)
end
structure NeedI (X X' : Sx) (i : Nat) : Prop where
 eH : X'.H = X.H
 en : X'.ns = X.ns
 ee : X'.es = X.es
 eO : X'.O = X.O
 eo : X'.os = X.os
 ex : X'.nx = X.nx + i
 eT : X'.T = { X.T with given := X'.T.given }
 inv : Inv X'.T X.H X.ns X.es
 src : ∀ x ∈ X'.T.given, x ∈ X.os ∨ x ∈ X'.gs
 gsub : ∀ x ∈ X.gs, x ∈ X'.gs
 gl : X'.gs.length ≤ X.gs.length + i
 tried : ∃ D : List Int, D.Nodup ∧ (∀ x ∈ D, x ∈ X.ns ∨ x ∈ X.os ∨ x ∈ X.T.given) ∧ (∀ x ∈ D, x ≤ (X.nx : Int) + i) ∧ X'.T.given.length + D.length = X.T.given.length + i
 new : ∀ x ∈ X'.T.given, x ∈ X.T.given ∨ x ≤ (X.nx : Int) + i
section
variable {X X' : Sx} {k i : Nat}
theorem NeedI.zero (hG : Gh X k) : NeedI X X 0 :=
 ⟨rfl, rfl, rfl, rfl, rfl, rfl, rfl, hG.inv, fun x hx => hG.src x (.inr hx), fun x hx => hx, Nat.le_refl _, ⟨[], List.nodup_nil, by simp, by simp, rfl⟩, fun x hx => .inl hx⟩
theorem NeedI.yes (h : NeedI X X' i) (aQ : giveOk X'.T [((X'.nx + 1 : Nat) : Int)]) : NeedI X { X' with T := { X'.T with given := sortZ (X'.T.given ++ [((X'.nx + 1 : Nat) : Int)]) }, gs := X'.gs ++ [((X'.nx + 1 : Nat) : Int)], nx := X'.nx + 1 } (i + 1) := by
 obtain ⟨D, d1, d2, d3, d4⟩ := h.tried
 have hx := h.ex
 refine ⟨h.eH, h.en, h.ee, h.eO, h.eo, by dsimp only; omega, by rw [h.eT], h.inv.give aQ, fun x bi => ?_, fun x bi => List.mem_append_left _ (h.gsub x bi), by dsimp only; rw [List.length_append]; have := h.gl; simp; omega, ⟨D, d1, d2, fun x bi => by have := d3 x bi; omega, by dsimp only; rw [sortZ_len, List.length_append]; simp; omega⟩, fun x bi => ?_⟩
 ·rcases List.mem_append.1 (sortZ_mem.1 bi) with h1 | h1
  ·exact (h.src x h1).imp id (fun e => List.mem_append_left _ e)
  ·exact .inr (List.mem_append_right _ h1)
 ·rcases List.mem_append.1 (sortZ_mem.1 bi) with h1 | h1
  ·exact (h.new x h1).imp id (fun e => by omega)
  ·simp at h1; exact .inr (by omega)
theorem NeedI.no (h : NeedI X X' i) (hG : Gh X k) (hk : k ≤ 1000) (hi : i ≤ 2000) (bK : ¬ giveOk X'.T [((X'.nx + 1 : Nat) : Int)]) : NeedI X { X' with nx := X'.nx + 1 } (i + 1) := by
 obtain ⟨D, d1, d2, d3, d4⟩ := h.tried
 have hx := h.ex
 have ru := hG.nl
 refine ⟨h.eH, h.en, h.ee, h.eO, h.eo, by dsimp only; omega, h.eT, h.inv, h.src, h.gsub, by dsimp only; have := h.gl; omega, ⟨((X'.nx + 1 : Nat) : Int) :: D, List.nodup_cons.2 ⟨fun e => by have := d3 _ e; omega, d1⟩, fun x bi => ?_, fun x bi => ?_, by simp; omega⟩, fun x bi => (h.new x bi).imp id (fun e => by omega)⟩
 ·rcases List.mem_cons.1 bi with rfl | bi
  ·by_cases hn : X.T.nodes ((X'.nx + 1 : Nat) : Int) = none
   ·by_cases ho : X.T.old ((X'.nx + 1 : Nat) : Int) = true
    ·exact .inr (.inl ((hG.om _).1 ((hG.old _).1 ho)))
    ·by_cases hg : ((X'.nx + 1 : Nat) : Int) ∈ X'.T.given
     ·rcases h.new _ hg with e | e
      ·exact .inr (.inr e)
      ·omega
     ·exfalso; refine bK ⟨by simp, fun x hx => ?_⟩; simp only [List.mem_singleton] at hx; subst hx; refine ⟨by omega, by rw [h.eT]; exact hn, by rw [h.eT]; simpa using ho, hg⟩
   ·exact .inl ((hG.inv.mem _).1 hn)
  ·exact d2 x bi
 ·rcases List.mem_cons.1 bi with rfl | bi
  ·omega
  ·have := d3 x bi; omega
theorem NeedI.fin (h : NeedI X X' 2000) (hG : Gh X k) (hz : sizeOk (X.T.size : Int)) (hk : k ≤ 350) : X.H + 1 ≤ X'.T.given.length := by
 obtain ⟨D, d1, d2, d3, d4⟩ := h.tried
 have hc := Inv.cnts hz hG.inv
 have h1 := List.Nodup.length_le_of_subset d1 (l₂ := X.ns ++ (X.os ++ X.T.given)) (fun x hx => by
  rcases d2 x hx with e | e | e
  ·exact List.mem_append_left _ e
  ·exact List.mem_append_right _ (List.mem_append_left _ e)
  ·exact List.mem_append_right _ (List.mem_append_right _ e))
 simp only [List.length_append] at h1
 have := hG.el
 have := hG.ol
 omega
theorem NeedI.gh (h : NeedI X X' i) (hG : Gh X k) (hi : i ≤ 2000) : Gh X' (k + 1) := by
 have hm := hG.mono (Nat.le_succ k)
 have hT := h.eT
 have e1 : X'.T.nodes = X.T.nodes := by rw [hT]
 have e2 : X'.T.old = X.T.old := by rw [hT]
 have e3 : X'.T.changed = X.T.changed := by rw [hT]
 refine ⟨by rw [h.eH, h.en, h.ee]; exact h.inv, by rw [h.eo]; exact hG.ond, by rw [h.eO, h.eo]; exact hG.om, by rw [h.eO, e2]; exact hG.old, by rw [h.eO, e1, e3]; exact hG.same, fun x hx => ?_, by rw [h.ee]; exact hm.el, by rw [h.eo]; exact hm.ol, ?_, ?_⟩
 ·rw [h.eo]; rw [e1] at hx; rcases hx with hx | hx
  ·exact (hG.src x (.inl hx)).imp id (h.gsub x)
  ·exact h.src x hx
 ·have := h.ex; have := hG.nl; rw [Nat.mul_succ]; omega
 ·have := h.gl; have := hG.gl; rw [Nat.mul_succ]; omega
end
section
variable {w : World} {q : Nat} {X : Sx} {p m : Nat} {mv sv gv : Value} {nb : Int → Nat} {F : Nat → Prop} {k : Nat}
set_option maxHeartbeats 4000000 in
theorem needS_ret (hM : StM w q X p m mv sv gv nb F) (hG : Gh X k) (hz : sizeOk (X.T.size : Int)) (hk : k ≤ 350) :
  Ret Tryz.prog 37 [ptr q 0] w fun v w' => v = .bool true ∧ ∃ X' gv' F' i, StM w' q X' p m mv sv gv' nb F' ∧ NeedI X X' i ∧ i ≤ 2000 ∧ X.H + 1 ≤ X'.T.given.length ∧ Kp (fpS q m mv sv gv F) w w' ∧ ∀ k, fpS q m mv sv gv' F' k → fpS q m mv sv gv F k ∨ w.heap.size ≤ k := by
 have xo := Inv.cnts hz hG.inv
 have fJ := hG.el
 have dL : maxLen = 9223372036854775807 := rfl
 refine ret_of_run (e := [(0, _)]) Tryz.func37 rfl Tryz.ntmps37 rfl rfl (qN rfl (zqa rfl (rEnd (run_seq (qN rfl (zqa rfl (rEnd (run_block (run_cut2 (fun e' w' => e' = [(0, ptr q 0)] ∧ ∃ X' gv' F' i, StM w' q X' p m mv sv gv' nb F' ∧ NeedI X X' i ∧ i ≤ 2000 ∧ X.H + 1 ≤ X'.T.given.length ∧ Kp (fpS q m mv sv gv F) w w' ∧ ∀ k, fpS q m mv sv gv' F' k → fpS q m mv sv gv F k ∨ w.heap.size ≤ k) ?nM (fun nM => ?vp))))))))))
 case nM =>
  rintro e' w1 ⟨rfl, X', gv', F', i, bL, hN, hi, qQ, aD, ll⟩; have ai := bL.blk; have hg := Ext.drew0 w1; have ff := hN.inv; have de := ff.gl; refine run_seq (run_draw (fun w' => Ext w1 w') (by kernel_rfl) rfl (zqt 0 rfl (ymv rfl) hg (zqt 1 rfl (ynk rfl) hg (zqt 2 rfl (yfa fl36_1 rfl) hg (qT 3 rfl (fun _ h=>yld U24 rfl rfl (h.blk ai) rfl) hg (zqt 6 rfl (ymv rfl) hg (zqt 7 rfl (ynk rfl) hg (zqt 8 rfl (yfa fl36_1 rfl) hg (qT 9 rfl (fun _ h=>yld U24 rfl rfl (h.blk ai) rfl) hg (zqo 4 [.tmp 56] rfl cf27 rfl (given_ret (bL.tree.ext hg) (by omega)) ?_)))))))))); rintro v2 w2 ⟨bB, ae, -⟩; refine ⟨hg.trans ae, ?_⟩; obtain ⟨ga, gc, rfl, -⟩ := bB.rd.shape; refine zqt 5 rfl (yln U34 rfl) (hg.trans ae) (zqo 10 [.tmp 62] rfl cf25 rfl (need_ret ((bL.tree.ext hg).ext ae) ff (by omega)) ?_); rintro _ w3 ⟨rfl, bu⟩; refine ⟨(by rw [bu]; exact hg.trans ae), ?_⟩; have ah : Ext w1 w3 := by rw [bu]; exact hg.trans ae
  refine zqt 11 rfl (yge rfl rfl) ((by rw [bu]; exact hg.trans ae)) ?_; refine zqt 12 rfl (yas rfl) ((by rw [bu]; exact hg.trans ae)) ?_; refine qE (run_ret Tryz.func37 rfl (⟨_, rfl, ?_, X', gv', F', i, bL.ext ah, hN, hi, qQ, aD.trans ah.kp, ll⟩)); rw [decide_eq_true (by omega)]; rfl
 case vp =>
  refine zqu (α := Nat × Sx × Value × (Nat → Prop)) ((0, X, gv, F)) (fun x => [(0, ptr q 0), (3, I (x.1 : Int))]) (fun x w' => x.1 ≤ 2000 ∧ StM w' q x.2.1 p m mv sv x.2.2.1 nb x.2.2.2 ∧ NeedI X x.2.1 x.1 ∧ Kp (fpS q m mv sv gv F) w w' ∧ ∀ k, fpS q m mv sv x.2.2.1 x.2.2.2 k → fpS q m mv sv gv F k ∨ w.heap.size ≤ k) (fun x => 2000 - x.1) ?hI ?hround
  case hI => exact ⟨Nat.zero_le _, hM, NeedI.zero hG, Kp.refl _ _, fun _ h => .inl h⟩
  case hround =>
   rintro ⟨i, X1, gv1, F1⟩ w1 ⟨hi, bL, hN, aD, ll⟩ ih; dsimp only at hi bL hN ll; have ai := bL.blk; have hg := Ext.drew0 w1; have ff := hN.inv; have de := ff.gl; have CE : X1.T.size = X.T.size := by rw [hN.eT]
   have eI : sizeOk (X1.T.size : Int) := by rw [CE]; exact hz
   have KP := hN.ex; have ru := hG.nl; have JG := aD.size
   try dsimp only
   refine run_seq (run_seq (run_draw (fun w' => Ext w1 w') (by kernel_rfl) rfl (zqt 0 rfl (ymv rfl) hg (zqt 1 rfl (ylt rfl rfl) hg (zqt 2 rfl (ymv rfl) hg (rh_if (fun AI => ?_) (fun AI => ?_)))))))
   ·refine zqt 3 rfl (ymv rfl) hg (zqt 4 rfl (ynk rfl) hg (zqt 5 rfl (yfa fl36_1 rfl) hg (qT 6 rfl (fun _ h=>yld U24 rfl rfl (h.blk ai) rfl) hg (zqt 9 rfl (ymv rfl) hg (zqt 10 rfl (ynk rfl) hg (zqt 11 rfl (yfa fl36_1 rfl) hg (qT 12 rfl (fun _ h=>yld U24 rfl rfl (h.blk ai) rfl) hg (zqo 7 [.tmp 10] rfl cf27 rfl (given_ret (bL.tree.ext hg) (by omega)) ?_)))))))); rintro v2 w2 ⟨bB, ae, -⟩; refine ⟨hg.trans ae, ?_⟩; obtain ⟨ga, gc, rfl, -⟩ := bB.rd.shape; refine zqt 8 rfl (yln U34 rfl) (hg.trans ae) (zqo 13 [.tmp 16] rfl cf25 rfl (need_ret ((bL.tree.ext hg).ext ae) ff (by omega)) ?_); rintro _ w3 ⟨rfl, bu⟩; refine ⟨(by rw [bu]; exact hg.trans ae), ?_⟩; have ah : Ext w1 w3 := by rw [bu]; exact hg.trans ae
    have fd := bL.ext ah; have aG := fd.blk; refine zqt 14 rfl (ylt rfl rfl) ((by rw [bu]; exact hg.trans ae)) ?_; refine zqt 15 rfl (ypT rfl rfl) ((by rw [bu]; exact hg.trans ae)) ?_; refine qE (run_if rfl (fun af => ?_) (fun af => ?_))
    ·have pr : i < 2000 := by omega
     refine run_skip (run_seq (run_block (qN rfl (zqm rfl (qV (ynk rfl) (qV (yfa fl36_5 rfl) (qV (yld U3 rfl rfl aG rfl) (zqd rfl rfl (qV (ynk rfl) (qV (yfa fl36_5 rfl) ?_)))))))))); rw [show ((X1.nx : Int) + 1) = ((X1.nx + 1 : Nat) : Int) by omega]; refine rEffP rfl (zst ti3 rfl rfl rfl aG (by simp)) ?_; rintro w4 ⟨aW, az⟩; replace aW : Blk w4 q [I (X1.T.size : Int), ptr p 0, ptr m 0, sv, gv1, I ((X1.nx + 1 : Nat) : Int)] 36 := aW; have eM := fd.next aW az; have ac : Kp (fpS q m mv sv gv1 F1) w1 w4 := ah.kp.trans (az.mono' (fun k e => .inl e)); have jQ : Kp (fpS q m mv sv gv F) w w4 := aD.trans_new ac (fun i hi => (ll i hi).symm); have jq := ac.size; have aM := Ext.drew0 w4; refine rEnd (run_seq (run_draw (fun w' => Kp F1 w4 w') (by kernel_rfl) rfl (zqt 0 rfl (ymv rfl) (aM.kp) (zqt 1 rfl (ynk rfl) (aM.kp) (zqt 2 rfl (yfa fl36_1 rfl) (aM.kp) (qT 3 rfl (fun _ h=>yld U24 rfl rfl (h.blk aW bL.fq) rfl) (aM.kp) (zqt 4 rfl (ymv rfl) (aM.kp) (zqt 5 rfl (ynk rfl) (aM.kp) (zqt 6 rfl (yfa fl36_5 rfl) (aM.kp) (qT 7 rfl (fun _ h=>yld U3 rfl rfl (h.blk aW bL.fq) rfl) (aM.kp) (qO 8 (nValP (i := 8) rfl rfl rfl (pbs (parts := [(0, .tmp 36)]) (cs := [_]) (zs := [Value.int .i64 0]) U34 ti3 rfl (by kernel_rfl) rfl rfl rfl (by decide)) ?_)))))))))))); rintro _ w5 ⟨b5, rfl, ⟨rD, aJ, bx⟩, cf⟩; refine ⟨aM.kp.trans aJ.kp, ?_⟩; have cx := aM.trans aJ; have dS := eM.ext cx; refine zqo 9 [.tmp 32, .tmp 37] rfl cf50 rfl (give_ret dS.tree ff (l := [((X1.nx + 1 : Nat) : Int)]) cf.rd (by simp)) ?_; rintro v6 w6 nu; refine ⟨(by rcases nu with ⟨-, -, h, -⟩ | ⟨-, -, h⟩; exact cx.kp.trans h; exact cx.kp.trans h.kp), ?_⟩; have kW := cx.size; have oO : Kp F1 w4 w6 := by rcases nu with ⟨-, -, h, -⟩ | ⟨-, -, h⟩; exact cx.kp.trans h; exact cx.kp.trans h.kp
     rcases nu with ⟨rfl, aQ, bX, F6, Fj, uE⟩ | ⟨rfl, bK, aO⟩
     ·have JH := dS.treed Fj rfl bX uE; obtain ⟨gK, lY, AJ⟩ := JH; have bD := gK.blk; have aS := Ext.drew0 w6; have nS := lY.size; have JI := hN.gl; have Fk := hG.gl; refine zqt 10 rfl (yeq rfl rfl) oO (qE (run_if rfl (fun gw => ?_) (fun gw => ?_)))
      ·refine run_drawL [13] (fun w' => Kp (fun k => gv1.ownBlock = some k) w6 w') (by kernel_rfl) rfl (qL [11, 12, 13] 0 rfl (fun _ h=>ymv rfl) (aS.kp) (qL [2, 3, 4, 10, 11, 12, 13] 1 rfl (fun _ h=>ymv rfl) (aS.kp) (qL [3, 4, 10, 11, 12, 13] 2 rfl (fun _ h=>ynk rfl) (aS.kp) (qL [4, 10, 11, 12, 13] 3 rfl (fun _ h=>yfa fl36_4 rfl) (aS.kp) (qL [10, 11, 12, 13] 4 rfl (fun _ hS => yld U34 rfl rfl (hS.blk bD (fun e => (gK.ov q (.inr (.inr e))).1 rfl)) rfl) (aS.kp) (qL [6, 7, 8, 9, 10, 11, 12, 13] 5 rfl (fun _ h=>ymv rfl) (aS.kp) (qL [7, 8, 9, 10, 11, 12, 13] 6 rfl (fun _ h=>ynk rfl) (aS.kp) (qL [8, 9, 10, 11, 12, 13] 7 rfl (fun _ h=>yfa fl36_5 rfl) (aS.kp) (qL [9, 10, 11, 12, 13] 8 rfl (fun _ hS => yld U3 rfl rfl (hS.blk bD (fun e => (gK.ov q (.inr (.inr e))).1 rfl)) rfl) (aS.kp) (hOneL (i := 9) (by kernel_rfl) (nValPL (i := 9) rfl rfl rfl (pbs (parts := [(0, .tmp 48)]) (cs := [_]) (zs := [Value.int .i64 0]) U34 ti3 rfl (by kernel_rfl) rfl rfl rfl (by decide)) ?_))))))))))); rintro _ w7 ⟨b7, rfl, ⟨KQ, aF, dH⟩, cX⟩; refine ⟨aS.kp.trans aF.kp, ?_⟩; have kO := aS.trans aF; refine hOneL (i := 10) (by kernel_rfl) (nValPL (i := 10) rfl rfl rfl (pap U34 ti3 rfl (by decide) rfl rfl (gK.giv.ext kO) cX.rd (by intro c hc; simp at hc; subst hc; rfl) (by dsimp only; omega) (by dsimp only; omega)) ?_); rintro gv8 w8 ⟨dO, bc, JJ, -⟩; refine ⟨kO.kp.trans bc, ?_⟩; have d8 := bc.blk (kO.blk bD) (fun e => (gK.ov q (.inr (.inr e))).1 rfl); refine qL [12, 13] 11 rfl (fun _ h=>ynk rfl) (kO.kp.trans bc) (qL [13] 12 rfl (fun _ h=>yfa fl36_4 rfl) (kO.kp.trans bc) (hLate [13] (by kernel_rfl) (by kernel_rfl) (qO 13 (nEffP (i := 13) rfl rfl (zst ti34 rfl rfl (oneV_sl dO) d8 (by simp)) ?_)))); rintro w9 ⟨cZ, aB⟩; refine ⟨trivial, ?_⟩; replace cZ : Blk w9 q [I (X1.T.size : Int), ptr p 0, ptr m 0, sv, gv8, I ((X1.nx + 1 : Nat) : Int)] 36 := cZ; have Fl := (gK.ext kO).gave (gs' := X1.gs ++ [((X1.nx + 1 : Nat) : Int)]) (gv' := gv8) (by rw [List.length_append, List.map_append]; exact dO) bc JJ cZ aB; obtain ⟨sZ, Fm, JK⟩ := Fl; have kV := kO.size; have uY : Kp (fpS q m mv sv gv1 F6) w6 w9 := kO.kp.trans Fm; have Fo : Kp (fpS q m mv sv gv1 F1) w5 w9 := lY.trans_new uY (fun i hi => (AJ i hi).symm); have fE : Kp (fpS q m mv sv gv1 F1) w1 w9 := (ac.trans cx.kp).trans Fo; refine qE (run_inBlock (run_reg rfl (zqm rfl (zqd rfl rfl (zqa rfl (rEnd ((ih (i + 1, _, gv8, F6) w9 ⟨by dsimp only; omega, sZ, hN.yes aQ, aD.trans_new fE (fun i hi => (ll i hi).symm), fun k hk => ?_⟩ (by dsimp only; omega)).qb))))))); rcases JK k hk with e | e
       ·rcases AJ k e with e | e
        ·exact ll k e
        ·exact .inr (by omega)
       ·exact .inr (by omega)
      ·exact absurd rfl gw
     ·have gK := dS.ext aO; refine zqt 10 rfl (yeq rfl rfl) oO (qE (run_if rfl (fun gw => ?_) (fun gw => ?_)))
      ·exact absurd gw (by decide)
      ·refine run_skip (run_inBlock (run_reg rfl (zqm rfl (zqd rfl rfl (zqa rfl (rEnd ((ih (i + 1, _, gv1, F1) w6 ⟨by dsimp only; omega, gK, hN.no hG (by omega) (by omega) bK, (jQ.trans cx.kp).trans aO.kp, ll⟩ (by dsimp only; omega)).qb)))))))
    ·refine run_exit rfl ?_; exact (nM _ _ ⟨rfl, X1, gv1, F1, i, fd, hN, hi, by omega, aD.trans ah.kp, ll⟩).qb
   ·have : i = 2000 := by omega
    subst this; refine qJ 3 rfl (hg) (qJ 4 rfl (hg) (qJ 5 rfl (hg) (qJ 6 rfl (hg) (qJ 7 rfl (hg) (qJ 8 rfl (hg) (qJ 9 rfl (hg) (qJ 10 rfl (hg) (qJ 11 rfl (hg) (qJ 12 rfl (hg) (qJ 13 rfl (hg) (qJ 14 rfl (hg) (zqt 15 rfl (ypF rfl rfl) hg (qE ?_))))))))))))); refine run_false rfl (run_exit rfl ?_); exact (nM _ _ ⟨rfl, X1, gv1, F1, 2000, bL.ext hg, hN, hi, hN.fin hG hz hk, aD.trans hg.kp, ll⟩).qb
def opC (kd : Int) (key val : Bytes) (n : Int) (nv : Value) (auto : Bool) : List Value := [I kd, S key, S val, I n, nv, .bool auto]
set_option maxHeartbeats 8000000 in
theorem putS_ret (hM : StM w q X p m mv sv gv nb F) (hG : Gh X k) (hz : sizeOk (X.T.size : Int)) (hk : k ≤ 340) (kd : Int) (key val : Bytes) (n : Int) (nv : Value) (auto : Bool) (cn : key.length ≤ 140737488355328) (ei : val.length ≤ 140737488355328) :
  Ret Tryz.prog 9 [ptr q 0, .agg (opC kd key val n nv auto).toArray] w fun v w' => v = .bool true ∧ ∃ X' mv' gv' nb' F', StM w' q X' p m mv' sv gv' nb' F' ∧ Gh X' (k + 1) ∧ X'.T.size = X.T.size ∧ ((may X.T.size key val ∧ X'.es = insE X.es key val) ∨ (X'.es = X.es ∧ ¬ (may X.T.size key val ∧ auto = true))) ∧ Kp (fpS q m mv sv gv F) w w' ∧ ∀ k, fpS q m mv' sv gv' F' k → fpS q m mv sv gv F k ∨ w.heap.size ≤ k := by
 have fJ := hG.el
 have dL : maxLen = 9223372036854775807 := rfl
 refine ret_of_run (e := [(0, _), (1, _)]) Tryz.func9 rfl Tryz.ntmps9 rfl rfl (qN rfl (rValP rfl rfl (pbx rfl (cs := opC kd key val n nv auto) rfl) ?_))
 rintro _ w1 ⟨b3, rfl, Bi, aa, aG⟩
 replace aG : Blk w1 b3 [I kd, S key, S val, I n, nv, .bool auto] 39 := aG
 have bL := hM.ext aa
 have ai := bL.blk
 have eI := aa.size
 have e8 := aG.lt
 have hg := Ext.drew0 w1
 refine zqa rfl (rEnd (run_seq (run_draw (fun w' => Ext w1 w') (by kernel_rfl) rfl (zqt 0 rfl (ymv rfl) hg (zqt 1 rfl (ynk rfl) hg (zqt 2 rfl (yfa fl36_0 rfl) hg (qT 3 rfl (fun _ h=>(by first | exact yld U3 rfl rfl (h.blk ai) rfl | exact yld U3 rfl rfl (h.blk aG) rfl)) hg ?_)))))))
 refine zqt 4 rfl (yfa fl39_1 rfl) hg (qT 5 rfl (fun _ h=>(by first | exact yld U9 rfl rfl (h.blk ai) rfl | exact yld U9 rfl rfl (h.blk aG) rfl)) hg ?_)
 refine zqt 6 rfl (yfa fl39_2 rfl) hg (qT 7 rfl (fun _ h=>(by first | exact yld U9 rfl rfl (h.blk ai) rfl | exact yld U9 rfl rfl (h.blk aG) rfl)) hg ?_)
 refine zqo 8 [.tmp 11, .tmp 13, .tmp 15] rfl cf36 rfl (may8_ret X.T.size hz key val cn ei _) ?_
 rintro _ w2 ⟨rfl, lr⟩
 refine ⟨(by rw [lr]; exact hg), ?_⟩
 have ae : Ext w1 w2 := by rw [lr]; exact hg
 obtain ⟨mb, JL, Fp⟩ : ∃ mb : Bool, decide (may X.T.size key val) = mb ∧ (mb = true ↔ may X.T.size key val) := ⟨_, rfl, decide_eq_true_iff⟩
 rw [JL]
 have cu := bL.ext ae
 have eg := ae.blk aG
 have ak := cu.blk
 refine zqt 9 rfl (yas rfl) ((by rw [lr]; exact hg)) ?_
 refine qE (run_seq (run_seq (run_cut (fun e' w' => e' = [(0, ptr q 0), (3, ptr b3 0), (5, .bool mb), (26, .bool false)] ∧ ∃ X1 gv1 F1, StM w' q X1 p m mv sv gv1 nb F1 ∧ Gh X1 (k + 1) ∧ X1.es = X.es ∧ X1.T.size = X.T.size ∧ (auto = true → mb = true → X1.H + 1 ≤ X1.T.given.length) ∧ Kp (fpS q m mv sv gv F) w w' ∧ (∀ k, fpS q m mv sv gv1 F1 k → fpS q m mv sv gv F k ∨ w.heap.size ≤ k) ∧ Blk w' b3 [I kd, S key, S val, I n, nv, .bool auto] 39 ∧ ¬ fpS q m mv sv gv1 F1 b3) ?m8 (fun m8 => ?vr))))
 case m8 =>
  rintro e' w3 ⟨rfl, X1, gv1, F1, fd, rp, ib, dP, AK, aw, nN, Fq, gR⟩; have jK : sizeOk (X1.T.size : Int) := by rw [dP]; exact hz
  have l9 := rp.inv; have xo := Inv.cnts jK l9; have JM := rp.el; have JN := l9.gl; have AL := fd.blk; have hg := Ext.drew0 w3; have JO := aw.size; refine run_false rfl (run_skip (run_seq (run_draw (fun w' => Ext w3 w') (by kernel_rfl) rfl (zqt 0 rfl (ymv rfl) hg (zqt 1 rfl (ynk rfl) hg (zqt 2 rfl (yfa fl36_1 rfl) hg (qT 3 rfl (fun _ h=>yld U24 rfl rfl (h.blk AL) rfl) hg (zqt 6 rfl (ymv rfl) hg (zqt 7 rfl (ynk rfl) hg (zqt 8 rfl (yfa fl36_1 rfl) hg (qT 9 rfl (fun _ h=>yld U24 rfl rfl (h.blk AL) rfl) hg (zqo 4 [.tmp 30] rfl cf27 rfl (given_ret (fd.tree.ext hg) (by omega)) ?_)))))))))))); rintro v4 w4 ⟨gq, aC, -⟩; refine ⟨hg.trans aC, ?_⟩; obtain ⟨ga, gc, rfl, -⟩ := gq.rd.shape; refine zqt 5 rfl (yln U34 rfl) (hg.trans aC) (zqo 10 [.tmp 36] rfl cf25 rfl (need_ret ((fd.tree.ext hg).ext aC) l9 (by omega)) ?_); rintro _ w5 ⟨rfl, th⟩; refine ⟨(by rw [th]; exact hg.trans aC), ?_⟩; have aJ : Ext w3 w5 := by rw [th]; exact hg.trans aC
  have dS := fd.ext aJ; have wP := dS.blk; have sK := aJ.blk Fq; have a8 := Ext.drew0 w5; have sL : ¬ F1 b3 := fun e => gR (.inr (.inr (.inr (.inr (.inr e))))); have kW := aJ.size; refine zqt 11 rfl (ylt rfl rfl) ((by rw [th]; exact hg.trans aC)) ?_; refine zqt 12 rfl (yas rfl) ((by rw [th]; exact hg.trans aC)) ?_; refine qE (run_seq (run_draw (fun w' => Kp F1 w5 w') (by kernel_rfl) rfl (zqt 0 rfl (ymv rfl) (a8.kp) (zqt 1 rfl (ynk rfl) (a8.kp) (zqt 2 rfl (yfa fl36_1 rfl) (a8.kp) (qT 3 rfl (fun _ h=>(by first | exact yld U24 rfl rfl (h.blk wP dS.fq) rfl | exact yld U24 rfl rfl (h.blk sK sL) rfl)) (a8.kp) ?_)))))); refine zqt 4 rfl (yfa fl39_1 rfl) (a8.kp) (qT 5 rfl (fun _ h=>(by first | exact yld U9 rfl rfl (h.blk wP dS.fq) rfl | exact yld U9 rfl rfl (h.blk sK sL) rfl)) (a8.kp) ?_); refine zqt 6 rfl (yfa fl39_2 rfl) (a8.kp) (qT 7 rfl (fun _ h=>(by first | exact yld U9 rfl rfl (h.blk wP dS.fq) rfl | exact yld U9 rfl rfl (h.blk sK sL) rfl)) (a8.kp) ?_); refine zqo 8 [.tmp 42, .tmp 44, .tmp 46] rfl cf38 rfl (putT_ret (dS.tree.ext a8) l9 (by omega) key val cn ei) ?_; rintro v6 w6 nu; refine ⟨(by rcases nu with ⟨-, -, h⟩ | ⟨-, -, -, h⟩ | ⟨-, -, -, T', H', ns', ⟨nb', F', -, -, h, -⟩, -⟩; exact a8.kp.trans h.kp; exact a8.kp.trans h.kp; exact a8.kp.trans h), ?_⟩; have lY : Kp F1 w5 w6 := by rcases nu with ⟨-, -, h⟩ | ⟨-, -, -, h⟩ | ⟨-, -, -, T', H', ns', ⟨nb', F', -, -, h, -⟩, -⟩; exact a8.kp.trans h.kp; exact a8.kp.trans h.kp; exact a8.kp.trans h
  rw [dP] at nu; rcases nu with ⟨rfl, tt, aO⟩ | ⟨rfl, hm, JP, aO⟩ | ⟨rfl, hm, C6, T', H', ns', ⟨nb', F', Fj, JQ, bX, uE⟩, gU⟩
  ·obtain rfl : mb = false := by
    cases mb with
    | false => rfl
    | true => exact absurd (Fp.1 rfl) tt
   refine zqt 9 rfl (yas rfl) lY (qE (Run.qb (e := [(0, _), (3, _), (5, _), (6, _), (7, _)]) ?_)); refine run_seq (qN rfl (zqm rfl (qV ((by first | exact yntd rfl | exact ynt rfl)) ?_))); refine rEnd (run_cond rfl (fun h1 => ?_) (fun h1 => ?_))
   ·refine qN rfl (zqm rfl (qV (yeq rfl rfl) (zqa rfl (rEnd (run_ret Tryz.func9 rfl ?_))))); exact ⟨_, rfl, rfl, X1, mv, gv1, nb, F1, (dS.ext a8).ext aO, rp, dP, .inr ⟨ib, fun h => tt h.1⟩, (aw.trans aJ.kp).trans (a8.trans aO).kp, nN⟩
   ·exact absurd h1 (by decide)
  ·obtain rfl : mb = true := Fp.2 hm; refine zqt 9 rfl (yas rfl) lY (qE (Run.qb (e := [(0, _), (3, _), (5, _), (6, _), (7, _)]) ?_)); refine run_seq (qN rfl (zqm rfl (qV ((by first | exact yntd rfl | exact ynt rfl)) ?_))); refine rEnd (run_cond rfl (fun h1 => ?_) (fun h1 => ?_))
   ·exact absurd h1 (by decide)
   ·refine run_skip (run_seq (qN rfl (zqm rfl (rEnd (run_if rfl (fun h2 => ?_) (fun h2 => ?_))))))
    ·refine qN rfl (zqm rfl (qV (yeq rfl rfl) (zqa rfl (rEnd (run_ret Tryz.func9 rfl ?_))))); exact ⟨_, rfl, rfl, X1, mv, gv1, nb, F1, (dS.ext a8).ext aO, rp, dP, .inr ⟨ib, fun h => by have := AK h.2 rfl; omega⟩, (aw.trans aJ.kp).trans (a8.trans aO).kp, nN⟩
    ·omega
  ·obtain rfl : mb = true := Fp.2 hm; have tZ := (dS.ext a8).treed Fj (show T'.size = X1.T.size from (show Evo _ _ _ from gU).size) bX uE; obtain ⟨gK, AM, AJ⟩ := tZ; have wQ := gK.blk; have se := lY.blk sK sL; have wR : b3 ≠ m := fun e => gR (.inr (.inl e)); have JR : b3 ≠ q := fun e => gR (.inl e); have aS := Ext.drew0 w6; have nS := AM.size; have JS := a8.size; refine zqt 9 rfl (yas rfl) lY (qE (Run.qb (e := [(0, _), (3, _), (5, _), (6, _), (7, _)]) ?_)); refine run_seq (qN rfl (zqm rfl (qV ((by first | exact yntd rfl | exact ynt rfl)) ?_))); refine rEnd (run_cond rfl (fun h1 => ?_) (fun h1 => ?_))
   ·exact absurd h1 (by decide)
   ·refine run_skip (run_seq (qN rfl (zqm rfl (rEnd (run_if rfl (fun h2 => ?_) (fun h2 => ?_))))))
    ·omega
    ·have JT : X1.es.length ≤ k := by rw [ib]; exact fJ
     refine run_skip (run_seq (run_draw (fun w' => Kp (fun k => k = m) w6 w') (by kernel_rfl) rfl (zqt 0 rfl (ymv rfl) (aS.kp) (zqt 1 rfl (ynk rfl) (aS.kp) (zqt 2 rfl (yfa fl36_2 rfl) (aS.kp) (qT 3 rfl (fun _ h=>(by first | exact yld U29 rfl rfl (h.blk wQ gK.qm) rfl | exact yld U29 rfl rfl (h.blk se wR) rfl)) (aS.kp) ?_)))))); refine zqt 4 rfl (yfa fl39_1 rfl) (aS.kp) (qT 5 rfl (fun _ h=>(by first | exact yld U9 rfl rfl (h.blk wQ gK.qm) rfl | exact yld U9 rfl rfl (h.blk se wR) rfl)) (aS.kp) ?_); refine zqt 6 rfl (yfa fl39_2 rfl) (aS.kp) (qT 7 rfl (fun _ h=>(by first | exact yld U9 rfl rfl (h.blk wQ gK.qm) rfl | exact yld U9 rfl rfl (h.blk se wR) rfl)) (aS.kp) ?_); refine zqo 8 [.tmp 58, .tmp 60, .tmp 62] rfl cf39 rfl (putM_ret (gK.map.ext aS) (by dsimp only; omega) key val) ?_; rintro _ w7 ⟨rfl, cX⟩; refine ⟨(by obtain ⟨mv', -, h, -⟩ := cX; exact aS.kp.trans h), ?_⟩; have dW : Kp (fun k => k = m) w6 w7 := by obtain ⟨mv', -, h, -⟩ := cX; exact aS.kp.trans h
     have Fr := (gK.ext aS).mapped cX; obtain ⟨mv7, f4, bg, JU⟩ := Fr; have JV := aS.size; refine qE (qN rfl (zqm rfl (qV (yeq rfl rfl) (zqa rfl (rEnd (run_ret Tryz.func9 rfl (⟨_, rfl, rfl, { X1 with T := T', H := H', ns := ns', es := insE X1.es key val }, mv7, gv1, nb', F', f4.hn H' ns', rp.evo gU JQ (Nat.le_refl _) ?_, (show Evo _ _ _ from gU).size.trans dP, .inl ⟨hm, by dsimp only; rw [ib]⟩, ?_, fun k hk => ?_⟩)))))))
     ·rw [insE_len]; split <;> omega
     ·have dI : Kp (fpS q m mv sv gv1 F1) w3 w6 := aJ.kp.trans (a8.kp.trans AM); have sf : Kp (fpS q m mv sv gv1 F1) w3 w7 := dI.trans_new (aS.kp.trans bg) (fun i hi => (AJ i hi).elim .inr (fun e => .inl (by omega))); exact aw.trans_new sf (fun i hi => (nN i hi).symm)
     ·rcases JU k hk with e | e
      ·rcases AJ k e with e | e
       ·exact nN k e
       ·exact .inr (by omega)
      ·exact .inr (by omega)
 case vr =>
  have gR : ¬ fpS q m mv sv gv F b3 := fun e => by have := hM.lt e; omega
  have i6 : Kp (fpS q m mv sv gv F) w w2 := (aa.trans ae).kp
  cases auto with
  | false =>
    refine run_reg rfl (qV (yfa fl39_5 rfl) (qV (yld U4 rfl rfl eg rfl) (zqm rfl (qS (qV (ypF rfl rfl) (zqm rfl (qS (qS (qS (qV (ypF rfl rfl) (rEnd ?_)))))))))))
    exact (m8 _ _ ⟨rfl, X, gv, F, cu, hG.mono (Nat.le_succ k), rfl, rfl, fun h => Bool.noConfusion h, i6, fun _ h => .inl h, eg, gR⟩).qb
  | true =>
    refine run_reg rfl (qV (yfa fl39_5 rfl) (qV (yld U4 rfl rfl eg rfl) (zqm rfl (zqm rfl (qV (ypT rfl rfl) (zqm rfl (rVal_bool (fun h1 => ?_) (fun h1 => ?_))))))))
    ·refine zqm rfl (zqc [.tmp 23] cf37 rfl (needS_ret cu hG hz (by omega)) ?_); rintro v3 w3 ⟨rfl, X1, gv1, F1, i, fd, hN, hi, qQ, aw, nN⟩; have eQ := ae.size; have AN : ¬ fpS q m mv sv gv1 F1 b3 := fun e => (nN b3 e).elim gR (fun e => by omega); have lI : X1.T.size = X.T.size := by rw [hN.eT]
     refine qV ((by first | exact yntd rfl | exact ynt rfl)) ?_; refine qV (ypT rfl rfl) (rEnd ?_); exact (m8 _ _ ⟨rfl, X1, gv1, F1, fd, hN.gh hG hi, hN.ee, lI, fun _ _ => by rw [hN.eH]; exact qQ, i6.trans aw, fun k hk => (nN k hk).imp id (fun e => by omega), aw.blk eg gR, AN⟩).qb
    ·refine qS (qS (qS (qV (ypF rfl rfl) (rEnd ?_)))); exact (m8 _ _ ⟨rfl, X, gv, F, cu, hG.mono (Nat.le_succ k), rfl, rfl, fun _ h => (by rw [h1] at h; cases h), i6, fun _ h => .inl h, eg, gR⟩).qb
end
section
variable {P : Program} {e : Env} {d : Option Nat} {ty t t' : TypeId} {pos : String} {aft : Array Edge} {g : Option (Nat × Bool)} {x y : Operand} {w : World} {n : Nat}
theorem eq_strW {p q : Bytes} (ht : P.underlying t = some .string) : (Op.equalIn (n + 1) t (S p) (S q)).run P w = .ok (decide (p = q)) w := by
 simp only [Op.equalIn, Sem.run_bind, run_underlying ht, Result.andThen_ok, Sem.run_pure, S]
 rw [beqS]
theorem yneS2 {f0 f1 : Field} {a b c u : Value} {r0 r1 : Bool} (ht : P.underlying t = some (.struct #[f0, f1])) (hg : P.eqGuardType P.depth t = false) (hs : P.stoodInHeld t = false) (h0 : f0.name ≠ "_") (h1 : f1.name ≠ "_") (o0 : f0.offset = 0) (o1 : f1.offset = 1)
  (k0 : P.plainKey f0.type = true) (k1 : P.plainKey f1.type = true) (hx : look e x = some (.agg #[a, b])) (hy : look e y = some (.agg #[c, u]))
  (e0 : ∀ w, (Op.equalIn 9999 f0.type a c).run P w = .ok r0 w) (e1 : ∀ w, (Op.equalIn 9999 f1.type b u).run P w = .ok r1 w) :
  Y P e ⟨d, .binOp .neq t x y t', ty, pos, aft, g⟩ (.bool (!(r0 && r1))) w w := fun ρ hρ => by
 have GT : P.fieldsOf t = #[f0, f1] := by simp [Program.fieldsOf, ht]
 have hE : (Op.equalIn 10000 t (.agg #[a, b]) (.agg #[c, u])).run P w = .ok (r0 && r1) w := by
  rw [run_equalIn_struct w 9999 t _ _ (by rw [GT]; exact ht) hs, GT]; have p0 : (part f0.type #[a, b] 0).run P w = .ok a w := run_part_plain _ k0 rfl; have p1 : (part f1.type #[a, b] 1).run P w = .ok b w := run_part_plain _ k1 rfl; have q0 : (part f0.type #[c, u] 0).run P w = .ok c w := run_part_plain _ k0 rfl; have q1 : (part f1.type #[c, u] 1).run P w = .ok u w := run_part_plain _ k1 rfl; simp only [Op.eqFields, ne_eq, h0, h1, not_false_eq_true, if_true, Sem.run_bind, o0, o1, p0, q0, e0, Result.andThen_ok]
  cases r0 with
  | false => simp [Sem.run_pure]
  | true => simp only [Bool.not_true, Bool.false_eq_true, if_false, Sem.run_bind, p1, q1, e1, Result.andThen_ok]; cases r1 <;> simp [Sem.run_pure]
 simp only [execOp, hρ _ _ hx, hρ _ _ hy, Sem.run_bind, run_eqGuard_agg (hm := hg), run_neq_struct, hE, Result.andThen_ok, Sem.run_pure]
end
section
variable {e : Env} {d : Option Nat} {ty t' : TypeId} {pos : String} {aft : Array Edge} {g : Option (Nat × Bool)} {x y : Operand} {w : World}
theorem yneE8 {a b c u : Bytes} (hx : look e x = some (.agg #[S a, S b])) (hy : look e y = some (.agg #[S c, S u])) : Y Tryz.prog e ⟨d, .binOp .neq 41 x y t', ty, pos, aft, g⟩ (.bool (!(decide (a = c) && decide (b = u)))) w w :=
 yneS2 U41 (by kernel_rfl) (by kernel_rfl) (by decide) (by decide) rfl rfl (by kernel_rfl) (by kernel_rfl) hx hy (fun w => eq_strW U9) (fun w => eq_strW U9)
end
end Go.Proofs.YtocnhaoilnojmaaGreat
